
/- Texts merged: PtZ, PuB, PuC, PuD, PuJ. -/
import Derived.Test.YtlppcfeimpcbjaaGreatPointC
set_option linter.unusedSimpArgs false
set_option linter.unusedVariables false

/- Contracts in words of values, further ones: rationals, the document's powers. -/
namespace Go.Proofs.YtlppcfeimpcbjaaGreat
open Go.RowKit

/-- a rational of the document's, answered -/
def RQ (q : Rat) (K : Nat) (u : World) (v : Value) : Prop := ∃ A n c B m k, v = .agg #[.bool (sg q), .slice A n c, .slice B m k] ∧ RR (fun _ => True) u (.slice A n c) (.slice B m k) q K
theorem RQ.out {q : Rat} {K : Nat} {u : World} {s a b : Value} (h : RQ q K u (.agg #[s, a, b])) : RR (fun _ => True) u a b q K := by
  obtain ⟨A, n, c, B, m, k, e, h⟩ := h
  cases e
  exact h
/-- the limbs of a rational's parts -/
def LV (x : RatL) (u : World) (a b : Value) : Prop := Sl Lm (fun _ => True) u a x.2.1 ∧ Sl Lm (fun _ => True) u b x.2.2
theorem LV.hold {x : RatL} {u : World} {a b : Value} (h : LV x u a b) : Hold (fun u => LV x u a b) u := fun _ hu => ⟨h.1.keep' Lm_pos hu, h.2.keep' Lm_pos hu⟩
end Go.Proofs.YtlppcfeimpcbjaaGreat


/- tensor.Same of tensors that are the same. -/
namespace Go.Proofs.YtlppcfeimpcbjaaGreat
open Go.RowKit

end Go.Proofs.YtlppcfeimpcbjaaGreat


/- The plain law behind PointRelus: printed by gen_puc.py. -/
namespace Go.Proofs.YtlppcfeimpcbjaaGreat
open Go.RowKit

theorem fit_can {sh : List Int} {l : List Rat} {L : Nat} (h1 : sh.length ≤ 1099511627000) (h2 : l.length ≤ 1099511627000) (h : ∀ q ∈ l, (dg LB q.num.natAbs).length ≤ L ∧ (dg LB q.den).length ≤ L) (hL1 : 1 ≤ L) (hL : L ≤ 1048578) : Fit sh (l.map canR) L :=
  ⟨h1, by rw [List.length_map]; exact h2, fun x hx => by obtain ⟨q, hq, rfl⟩ := List.mem_map.1 hx; exact h q hq, hL1, hL, fun x hx => by obtain ⟨q, hq, rfl⟩ := List.mem_map.1 hx; exact ⟨dg_lt LB2 _, dg_lt LB2 _⟩⟩
theorem Fit.lens {sh : List Int} {es : List RatL} {L : Nat} (f : Fit sh es L) : ∀ q ∈ es.map qOf, (dg LB q.num.natAbs).length ≤ L ∧ (dg LB q.den).length ≤ L := fun q hq => by
  obtain ⟨x, hx, rfl⟩ := List.mem_map.1 hq
  exact qOf_len (f.lt x hx) (f.lx x hx).1 (f.lx x hx).2 f.one
theorem one_len {L : Nat} (hL : 1 ≤ L) : (dg LB 1).length ≤ L := Nat.le_trans (dg_len_le LB2 (k := 1) (by decide)) hL
end Go.Proofs.YtlppcfeimpcbjaaGreat


/- The plain law behind PointField: what is answered is of few limbs; the laws of a field, element by element. -/
namespace Go.Proofs.YtlppcfeimpcbjaaGreat
open Go.RowKit

/-- a rational of at most M limbs each way -/
def Lens (M : Nat) (q : Rat) : Prop := (dg LB q.num.natAbs).length ≤ M ∧ (dg LB q.den).length ≤ M
theorem Lens.wide {M N : Nat} {q : Rat} (h : Lens M q) (hl : M ≤ N) : Lens N q := ⟨Nat.le_trans h.1 hl, Nat.le_trans h.2 hl⟩
theorem lens_mk {q : Rat} {z : Int} {P K : Nat} (hP : 0 < P) (e : q = mkRat z P) (hz : z.natAbs < LB ^ K) (hp : P < LB ^ K) : Lens K q := by
  have hden : q.den ≤ P := by
    rw [e, Rat.den_mkRat, if_neg (by omega)]
    exact Nat.div_le_self _ _
  have hnum : q.num.natAbs ≤ z.natAbs := by
    rw [e, Rat.num_mkRat, if_neg (by omega)]
    exact Int.natAbs_ediv_le_natAbs _ _
  exact ⟨dg_len_le LB2 (Nat.lt_of_le_of_lt hnum hz), dg_len_le LB2 (Nat.lt_of_le_of_lt hden hp)⟩
def LensL (M : Nat) (l : List Rat) : Prop := ∀ q ∈ l, Lens M q
theorem LensL.wide {M N : Nat} {l : List Rat} (h : LensL M l) (hl : M ≤ N) : LensL N l := fun q hq => (h q hq).wide hl
theorem LensL.fit {sh : List Int} {l : List Rat} {M : Nat} (h : LensL M l) (h1 : sh.length ≤ 1099511627000) (h2 : l.length ≤ 1099511627000) (hM : 1 ≤ M) (hM2 : M ≤ 1048578) : Fit sh (l.map canR) M := fit_can h1 h2 h hM hM2
end Go.Proofs.YtlppcfeimpcbjaaGreat


/- Contracts over tensors of answered numbers. -/
namespace Go.Proofs.YtlppcfeimpcbjaaGreat
open Go.RowKit

/-- A tensor that may be, of answered numbers of few limbs. -/
structure KF (sh : List Int) (a : List Rat) (M : Nat) : Prop where
  nsh : sh.length ≤ 1099511627000
  na : a.length ≤ 1099511627000
  may : mayT sh (a.map canR) = 0
  lens : LensL M a
  one : 1 ≤ M
  top : M ≤ 1048578
theorem KF.fit {sh : List Int} {a : List Rat} {M : Nat} (h : KF sh a M) : Fit sh (a.map canR) M := h.lens.fit h.nsh h.na h.one h.top
theorem KF.wide {sh : List Int} {a : List Rat} {M N : Nat} (h : KF sh a M) (hl : M ≤ N) (ht : N ≤ 1048578) : KF sh a N := ⟨h.nsh, h.na, h.may, h.lens.wide hl, by have := h.one; omega, ht⟩
theorem KF.len {sh : List Int} {a b : List Rat} {M N : Nat} (h : KF sh a M) (g : KF sh b N) : a.length = b.length := by
  have := may_same h.may g.may
  rwa [List.length_map, List.length_map] at this
section
variable {w : World} {sh : List Int} {a b : List Rat} {x y z t : Value} {M : Nat}
end
end Go.Proofs.YtlppcfeimpcbjaaGreat
