/- Texts merged: OwnA, OwnB, OwnC, OwnD, OwnE, OwnF. -/
import Derived.Test.YtlppcfeimpcbjaaGreatFullCD
import Derived.Test.YtlppcfeimpcbjaaGreatFacts
set_option linter.unusedSimpArgs false
set_option linter.unusedVariables false

/- Rationals in memory whose limbs lie in blocks that are not frozen. -/
namespace Go.Proofs.YtlppcfeimpcbjaaGreat
open Go.RowKit

/-- Block k holds cells, none of them frozen. -/
def Fz (w : World) (k : Nat) : Prop := ∃ cs t, w.heap[k]? = some (.cells cs t (0, 0))
theorem Fz.fr {S : Nat → Prop} {w w' : World} {k : Nat} (h : Fz w k) (hf : Fr S w w') (hs : S k) : Fz w' k := by
  obtain ⟨cs, t, h⟩ := h
  exact ⟨cs, t, hf.obj h hs⟩
theorem Fz.free {w : World} {a : Addr} (h : Fz w a.block) : w.frozen? a = false := by
  obtain ⟨cs, t, h⟩ := h
  unfold World.frozen?
  simp [h]
theorem fz_fr {S : Nat → Prop} {w w' : World} {v : Value} {xs : List Nat} (h : Sl Lm (fun k => S k ∧ Fz w k) w v xs) (hf : Fr S w w') : Sl Lm (fun k => S k ∧ Fz w' k) w' v xs :=
  (h.fr (hf.mono fun _ _ hk => hk.1)).mono fun k hk => ⟨hk.1, hk.2.fr hf hk.1⟩
def RZ : Kd RatL where
  size := 3
  rd S w x cs := ∃ vn vd, cs = [.bool x.1, vn, vd] ∧ Sl Lm (fun k => S k ∧ Fz w k) w vn x.2.1 ∧ Sl Lm (fun k => S k ∧ Fz w k) w vd x.2.2
  len h := by obtain ⟨_, _, rfl, _⟩ := h; rfl
  one h u hu := by
    obtain ⟨vn, vd, rfl, hn, hd⟩ := h
    obtain ⟨A, n, c, rfl⟩ := hn.form
    obtain ⟨B, m, k, rfl⟩ := hd.form
    simp at hu
    rcases hu with rfl | rfl | rfl <;> rfl
  mono hs h := by obtain ⟨vn, vd, e, hn, hd⟩ := h; exact ⟨vn, vd, e, hn.mono fun k hk => ⟨hs k hk.1, hk.2⟩, hd.mono fun k hk => ⟨hs k hk.1, hk.2⟩⟩
  bd h := by obtain ⟨vn, vd, e, hn, hd⟩ := h; exact ⟨vn, vd, e, (hn.bd Lm_pos).mono fun k hk => ⟨⟨hk.1.1, hk.2⟩, hk.1.2⟩, (hd.bd Lm_pos).mono fun k hk => ⟨⟨hk.1.1, hk.2⟩, hk.1.2⟩⟩
  fr h hf := by obtain ⟨vn, vd, e, hn, hd⟩ := h; exact ⟨vn, vd, e, fz_fr hn hf, fz_fr hd hf⟩
theorem RZ_pos : 0 < RZ.size := by decide
theorem rzT : ElemT Tryz.prog RZ 24 54 56 := ElemT.mk' (.agg #[.bool false, .slice none 0 0, .slice none 0 0]) Tryz.underlying24 RZ_pos (by kernel_rfl) rfl
theorem RZ_rm {S : Nat → Prop} {w : World} {x : RatL} {cs : List Value} (h : RZ.rd S w x cs) : Rm.rd S w x cs := by
  obtain ⟨vn, vd, e, hn, hd⟩ := h
  exact ⟨vn, vd, e, hn.mono fun _ hk => hk.1, hd.mono fun _ hk => hk.1⟩
theorem RZ_cl {S : Nat → Prop} {w : World} {x : RatL} {cs : List Value} (h : RZ.rd S w x cs) : RZ.rd (fun k => S k ∧ Cl w k) w x cs := by
  obtain ⟨vn, vd, e, hn, hd⟩ := h
  exact ⟨vn, vd, e, (Lm_cl hn).mono fun _ hk => ⟨⟨hk.1.1, hk.2⟩, hk.1.2⟩, (Lm_cl hd).mono fun _ hk => ⟨⟨hk.1.1, hk.2⟩, hk.1.2⟩⟩
/-- A list of the call's own isn't frozen. -/
theorem Own.fz {α : Type} {K : Kd α} {e : TypeId} {S : Nat → Prop} {w : World} {v : Value} {xs : List α} (h : Own K e S w v xs) : ∀ g, v.ownBlock = some g → Fz w g := by
  obtain ⟨cells, h1, _, _⟩ := h
  intro g hg
  rcases h1.2 with ⟨rfl, _⟩ | ⟨g', cap, cur, rfl, _, hgg, _⟩
  · simp [Value.ownBlock] at hg
  · simp [Value.ownBlock] at hg
    subst hg
    exact ⟨_, _, hgg⟩
theorem Own.sl_fz {e : TypeId} {S : Nat → Prop} {w : World} {v : Value} {xs : List Nat} (h : Own Lm e S w v xs) : Sl Lm (fun k => S k ∧ Fz w k) w v xs := by
  obtain ⟨A, c, rfl, h1, h2, h3, h4⟩ := h.sl
  refine ⟨A, c, rfl, h1, h2, h3, fun hl => ?_⟩
  obtain ⟨ad, rfl, hS, hc⟩ := h4 hl
  exact ⟨ad, rfl, ⟨hS, h.fz _ rfl⟩, hc⟩
theorem Own.rm {e : TypeId} {S : Nat → Prop} {w : World} {v : Value} {xs : List RatL} (h : Own RZ e S w v xs) : Own Rm e S w v xs := by
  obtain ⟨cells, h1, h2, h3⟩ := h
  exact ⟨cells, h1, h2, fun i x hx => let ⟨cs, hr, hu⟩ := h3 i x hx; ⟨cs, RZ_rm hr, hu⟩⟩
end Go.Proofs.YtlppcfeimpcbjaaGreat


/- turned and Make once more: gen_own.py. -/
namespace Go.Proofs.YtlppcfeimpcbjaaGreat
open Go.RowKit Go.Shelf
attribute [local go_sem] Oper.semAt_some

/-- What lies in memory while each is turned. -/
def TurnIZ (es : List RatL) (b5 n : Nat) (s : Value) (w : World) (pre : List Nat) (W : World) : Prop :=
  ∃ v2, Box2 W b5 105 s v2 ∧ Own RZ 54 (fun k => n ≤ k) W v2 (pre.map (nrm es)) ∧ Fr (fun k => k < n ∧ k ≠ b5) w W
theorem TurnIZ.own {es : List RatL} {b5 n : Nat} {s : Value} {w : World} (hb : b5 < n) : OwnFrom n (fun pre W => TurnIZ es b5 n s w pre W) := fun pre W W' row hs hg hr => by
  obtain ⟨v2, h1, h2, h3⟩ := hs
  exact ⟨v2, grown_cells hg hr h1, h2.turn (fun _ _ _ => RZ_cl) hg hr, h3.comp (Fr.of_grown hg) fun k _ hk => ⟨hk, fun e => by have := (hr k e.symm).1; omega⟩⟩
/-- What Make answers. -/
def MakeRZ (w : World) (sh : List Int) (es : List RatL) (r : Int) (e : Ending) (w' : World) : Prop := ∃ v1 v2, e = .returned (.tuple #[.agg #[v1, v2], .int .i64 r]) ∧ (r ≠ 0 → v1 = .slice none 0 0 ∧ v2 = .slice none 0 0) ∧
  (r = 0 → Own Im 3 (fun k => w.heap.size ≤ k) w' v1 sh ∧ Own RZ 54 (fun k => w.heap.size ≤ k) w' v2 (es.map normR)) ∧ Fr (fun k => k < w.heap.size) w w'

end Go.Proofs.YtlppcfeimpcbjaaGreat


/- turned by any function, and Copy, once more: gen_own.py. -/
namespace Go.Proofs.YtlppcfeimpcbjaaGreat
open Go.RowKit Go.Shelf
attribute [local go_sem] Oper.semAt_some

/-- What lies in memory while each is turned. -/
def TurnFZ (g : RatL → RatL) (es : List RatL) (b5 n : Nat) (s : Value) (w : World) (pre : List Nat) (W : World) : Prop :=
  ∃ v2, Box2 W b5 105 s v2 ∧ Own RZ 54 (fun k => n ≤ k) W v2 (pre.map (trn g es)) ∧ Fr (fun k => k < n ∧ k ≠ b5) w W
theorem TurnFZ.own {g : RatL → RatL} {es : List RatL} {b5 n : Nat} {s : Value} {w : World} (hb : b5 < n) : OwnFrom n (fun pre W => TurnFZ g es b5 n s w pre W) := fun pre W W' row hs hg hr => by
  obtain ⟨v2, h1, h2, h3⟩ := hs
  exact ⟨v2, grown_cells hg hr h1, h2.turn (fun _ _ _ => RZ_cl) hg hr, h3.comp (Fr.of_grown hg) fun k _ hk => ⟨hk, fun e => by have := (hr k e.symm).1; omega⟩⟩
end Go.Proofs.YtlppcfeimpcbjaaGreat


/- Full and Scalar once more: gen_own.py. -/
namespace Go.Proofs.YtlppcfeimpcbjaaGreat
open Go.RowKit

def FullRZ (w : World) (sh : List Int) (x : RatL) (r : Int) (e : Ending) (w' : World) : Prop := ∃ v1 v2, e = .returned (.tuple #[.agg #[v1, v2], .int .i64 r]) ∧ (r ≠ 0 → v1 = .slice none 0 0 ∧ v2 = .slice none 0 0) ∧
  (r = 0 → Own Im 3 (fun k => w.heap.size ≤ k) w' v1 sh ∧ Own RZ 54 (fun k => w.heap.size ≤ k) w' v2 (List.replicate (cntS sh).toNat (normR x))) ∧ Fr (fun k => k < w.heap.size) w w'

end Go.Proofs.YtlppcfeimpcbjaaGreat


/- Worlds that differ by numbers alone; spoil. -/
namespace Go.Proofs.YtlppcfeimpcbjaaGreat
open Go.RowKit

/-- The same value, or two numbers of a kind. -/
def Alike (v v' : Value) : Prop := v' = v ∨ ∃ k x y, v = .int k x ∧ v' = .int k y
theorem Alike.refl (v : Value) : Alike v v := .inl rfl
theorem Alike.trans {a b c : Value} (h : Alike a b) (k : Alike b c) : Alike a c := by
  rcases h with rfl | ⟨ki, x, y, rfl, rfl⟩
  · exact k
  · rcases k with rfl | ⟨ki', x', y', e, rfl⟩
    · exact .inr ⟨_, _, _, rfl, rfl⟩
    · injection e with e1 e2
      subst e1
      exact .inr ⟨_, _, _, rfl, rfl⟩
/-- Only numbers change, and only in blocks of S. -/
structure Mild (S : Nat → Prop) (w w' : World) : Prop where
  fr : Fr (fun k => ¬ S k) w w'
  cell : ∀ a v, w.cell? a = some v → ∃ v', w'.cell? a = some v' ∧ Alike v v'
  free : ∀ a v, w.cell? a = some v → w.frozen? a = false → w'.frozen? a = false
theorem Mild.refl (S : Nat → Prop) (w : World) : Mild S w w := ⟨Fr.refl _ _, fun _ v h => ⟨v, h, .refl v⟩, fun _ _ _ h => h⟩
theorem Mild.trans {S : Nat → Prop} {a b c : World} (h : Mild S a b) (k : Mild S b c) : Mild S a c :=
  ⟨h.fr.trans k.fr, fun x v hv => by
    obtain ⟨v1, h1, a1⟩ := h.cell x v hv
    obtain ⟨v2, h2, a2⟩ := k.cell x v1 h1
    exact ⟨v2, h2, a1.trans a2⟩, fun x v hv hf => by
    obtain ⟨v1, h1, _⟩ := h.cell x v hv
    exact k.free x v1 h1 (h.free x v hv hf)⟩
theorem Mild.drew {S : Nat → Prop} {a b : World} (h : Mild S a b) : Mild S a b.drew := ⟨h.fr.drew, h.cell, h.free⟩
theorem frozen_set (w : World) (p a : Addr) (v : Value) : (w.setCell p v).frozen? a = w.frozen? a := by
  unfold World.frozen? World.setCell
  by_cases h : p.block = a.block
  · rw [h, Array.getElem?_modify]
    simp only [if_true]
    cases hh : w.heap[a.block]? with
    | none => rfl
    | some o => cases o <;> rfl
  · rw [Array.getElem?_modify]
    simp only [if_neg h]
theorem Mild.set {S : Nat → Prop} {w : World} {p : Addr} {k : IntKind} {x : Int} (y : Int) (h : w.cell? p = some (.int k x)) (hS : S p.block) : Mild S w (w.setCell p (.int k y)) := by
  refine ⟨(Fr.refl _ _).setCell (fun _ hn => hn hS) _, fun a v hv => ?_, fun a v hv hf => ?_⟩
  · by_cases e : p = a
    · subst e
      rw [h] at hv
      cases hv
      exact ⟨_, World.cell?_setCell_same w p _ h, .inr ⟨_, _, _, rfl, rfl⟩⟩
    · exact ⟨v, (World.cell?_setCell_other w p a _ e).trans hv, .refl v⟩
  · rw [frozen_set]; exact hf
theorem Mild.same {S : Nat → Prop} {w w' : World} (h : Mild S w w') {a : Addr} {v : Value} (hv : w.cell? a = some v) (hn : ∀ k x, v ≠ .int k x) : w'.cell? a = some v := by
  obtain ⟨v', h1, rfl | ⟨k, x, y, e, _⟩⟩ := h.cell a v hv
  · exact h1
  · exact absurd e (hn k x)
theorem Mild.num {S : Nat → Prop} {w w' : World} (h : Mild S w w') {a : Addr} {k : IntKind} {z : Int} (hv : w.cell? a = some (.int k z)) : ∃ y, w'.cell? a = some (.int k y) := by
  obtain ⟨v', h1, rfl | ⟨k', x, y, e, rfl⟩⟩ := h.cell a _ hv
  · exact ⟨z, h1⟩
  · injection e with e1 e2
    subst e1
    exact ⟨y, h1⟩
/-- Numbers of a kind lie there, in blocks of S, not frozen. -/
def NumS (k : IntKind) (S : Nat → Prop) (w : World) (A : Option Addr) (n : Nat) : Prop :=
  n ≤ 9223372036854775807 ∧ (0 < n → ∃ ad, A = some ad ∧ S ad.block ∧ ∀ i, i < n → ∃ z : Int, w.cell? (ad.add i) = some (.int k z) ∧ w.frozen? (ad.add i) = false)
theorem NumS.mild {k : IntKind} {S T : Nat → Prop} {w w' : World} {A : Option Addr} {n : Nat} (h : NumS k S w A n) (m : Mild T w w') : NumS k S w' A n := by
  refine ⟨h.1, fun hp => ?_⟩
  obtain ⟨ad, e, hS, hc⟩ := h.2 hp
  refine ⟨ad, e, hS, fun i hi => ?_⟩
  obtain ⟨z, h1, h2⟩ := hc i hi
  obtain ⟨y, hy⟩ := m.num h1
  exact ⟨y, hy, m.free _ _ h1 h2⟩
theorem NumS.of_lm {S : Nat → Prop} {w : World} {A : Option Addr} {n c : Nat} {xs : List Nat} (h : Sl Lm (fun k => S k ∧ Fz w k) w (.slice A n c) xs) : NumS .u32 S w A n := by
  obtain ⟨A', c', e, h1, h2, h3, h4⟩ := h
  cases e
  refine ⟨by omega, fun hp => ?_⟩
  obtain ⟨ad, rfl, hS, hc⟩ := h4 hp
  refine ⟨ad, rfl, hS.1, fun i hi => ?_⟩
  obtain ⟨cs, hcs, hu⟩ := hc i xs[i] (List.getElem?_eq_getElem hi)
  have hcs1 : cs = _ := hcs.1
  have := hu 0 (.int .u32 (xs[i] : Nat)) (by rw [hcs1]; rfl)
  exact ⟨_, by simpa [Lm, Kd.nat] using this, Fz.free (by rw [addr_block]; exact hS.2)⟩
theorem NumS.of_own {e : TypeId} {S : Nat → Prop} {w : World} {A : Option Addr} {n c : Nat} {xs : List Int} (h : Own Im e S w (.slice A n c) xs) : NumS .i64 S w A n := by
  obtain ⟨A', c', e, h1, h2, h3, h4⟩ := h.sl
  cases e
  refine ⟨by omega, fun hp => ?_⟩
  obtain ⟨ad, rfl, hS, hc⟩ := h4 hp
  refine ⟨ad, rfl, hS, fun i hi => ?_⟩
  obtain ⟨cs, hcs, hu⟩ := hc i xs[i] (List.getElem?_eq_getElem hi)
  have hcs1 : cs = _ := hcs.1
  have := hu 0 (.int .i64 xs[i]) (by rw [hcs1]; rfl)
  exact ⟨_, by simpa [Kd.int] using this, Fz.free (by rw [addr_block]; exact h.fz _ rfl)⟩
/-- A rational lies at an address. -/
def RatP (S : Nat → Prop) (w : World) (b o : Nat) : Prop := ∃ s A n c B m d, w.cell? ⟨b, o, none⟩ = some (.bool s) ∧ w.cell? ⟨b, o + 1, none⟩ = some (.slice A n c) ∧ w.cell? ⟨b, o + 2, none⟩ = some (.slice B m d) ∧ NumS .u32 S w A n ∧ NumS .u32 S w B m
theorem RatP.mild {S T : Nat → Prop} {w w' : World} {b o : Nat} (h : RatP S w b o) (m : Mild T w w') : RatP S w' b o := by
  obtain ⟨s, A, n, c, B, k, d, h1, h2, h3, h4, h5⟩ := h
  exact ⟨s, A, n, c, B, k, d, m.same h1 (by simp), m.same h2 (by simp), m.same h3 (by simp), h4.mild m, h5.mild m⟩

end Go.Proofs.YtlppcfeimpcbjaaGreat


/- Lists of tensors of the call's own, as the loops see them. -/
namespace Go.Proofs.YtlppcfeimpcbjaaGreat
open Go.RowKit

/-- A tensor of the call's own. -/
def KT : Kd (List Int × List RatL) where
  size := 2
  rd S w x cs := ∃ vs ve, cs = [vs, ve] ∧ Own Im 3 S w vs x.1 ∧ Own RZ 54 S w ve x.2
  len h := by obtain ⟨_, _, rfl, _⟩ := h; rfl
  one h u hu := by
    obtain ⟨vn, vd, rfl, hn, hd⟩ := h
    obtain ⟨A, n, c, rfl⟩ := hn.form
    obtain ⟨B, m, k, rfl⟩ := hd.form
    simp at hu
    rcases hu with rfl | rfl <;> rfl
  mono hs h := by obtain ⟨vn, vd, e, hn, hd⟩ := h; exact ⟨vn, vd, e, hn.mono hs, hd.mono hs⟩
  bd h := by obtain ⟨vn, vd, e, hn, hd⟩ := h; exact ⟨vn, vd, e, hn.bd, hd.bd⟩
  fr h hf := by obtain ⟨vn, vd, e, hn, hd⟩ := h; exact ⟨vn, vd, e, hn.fr hf, hd.fr hf⟩
theorem KT_pos : 0 < KT.size := by decide
theorem ktT : ElemT Tryz.prog KT 43 26 48 := ElemT.mk' (.agg #[.slice none 0 0, .slice none 0 0]) Tryz.underlying43 KT_pos (by kernel_rfl) rfl
/-- A row of two, just built. -/
theorem Own.pair {α : Type} {K : Kd α} {e : TypeId} {S : Nat → Prop} (w : World) {x y : α} {cs ds : List Value} (hS : S w.heap.size) (hr : K.rd (fun k => S k ∧ k < w.heap.size) w x cs) (hq : K.rd (fun k => S k ∧ k < w.heap.size) w y ds) : Own K e S (w.alloc (.cells (cs ++ ds).toArray e)) (.slice (some ⟨w.heap.size, 0, none⟩) 2 2) [x, y] := by
  have hcl := K.len hr
  have hdl := K.len hq
  refine ⟨cs ++ ds, World.ownsRow_lit w (cs ++ ds).toArray 2 (Nat.zero_le _) (by decide) (by simp [hcl, hdl]; omega), fun g hg => by simp [Value.ownBlock] at hg; subst hg; exact hS, fun i z hz => ?_⟩
  rcases i with _ | _ | i
  · simp at hz; subst hz
    refine ⟨cs, K.mono (fun k hk => ⟨hk.1, fun e => by simp [Value.ownBlock] at e; omega⟩) (K.fr hr ((Fr.refl _ w).alloc _)), fun j u hj => ?_⟩
    rw [Nat.zero_mul, Nat.zero_add, List.getElem?_append_left (List.getElem?_eq_some_iff.1 hj).1]
    exact hj
  · simp at hz; subst hz
    refine ⟨ds, K.mono (fun k hk => ⟨hk.1, fun e => by simp [Value.ownBlock] at e; omega⟩) (K.fr hq ((Fr.refl _ w).alloc _)), fun j u hj => ?_⟩
    rw [Nat.zero_add, Nat.one_mul, List.getElem?_append_right (by omega), hcl, Nat.add_sub_cancel_left]
    exact hj
  · simp at hz
/-- Rationals lie in a row. -/
def RatsP (S : Nat → Prop) (w : World) (B : Option Addr) (m : Nat) : Prop := m ≤ 9223372036854775807 ∧ (0 < m → ∃ g, B = some ⟨g, 0, none⟩ ∧ ∀ j, j < m → RatP S w g (j * 3))
theorem RatsP.mild {S T : Nat → Prop} {w w' : World} {B : Option Addr} {m : Nat} (h : RatsP S w B m) (hm : Mild T w w') : RatsP S w' B m := by
  refine ⟨h.1, fun hp => ?_⟩
  obtain ⟨g, e, hc⟩ := h.2 hp
  exact ⟨g, e, fun j hj => (hc j hj).mild hm⟩
/-- A tensor lies at an address. -/
def TenP (S : Nat → Prop) (w : World) (b o : Nat) : Prop := ∃ A n c B m d, w.cell? ⟨b, o, none⟩ = some (.slice A n c) ∧ w.cell? ⟨b, o + 1, none⟩ = some (.slice B m d) ∧ NumS .i64 S w A n ∧ RatsP S w B m
theorem TenP.mild {S T : Nat → Prop} {w w' : World} {b o : Nat} (h : TenP S w b o) (m : Mild T w w') : TenP S w' b o := by
  obtain ⟨A, n, c, B, k, d, h1, h2, h3, h4⟩ := h
  exact ⟨A, n, c, B, k, d, m.same h1 (by simp), m.same h2 (by simp), h3.mild m, h4.mild m⟩
theorem RatP.of {S : Nat → Prop} {w : World} {x : RatL} {cs : List Value} {b o : Nat} (h : RZ.rd S w x cs) (hc : ∀ (j : Nat) (u : Value), cs[j]? = some u → w.cell? ⟨b, o + j, none⟩ = some u) : RatP S w b o := by
  obtain ⟨vn, vd, rfl, hn, hd⟩ := h
  obtain ⟨A, n, c, rfl⟩ := hn.form
  obtain ⟨B, m, d, rfl⟩ := hd.form
  exact ⟨_, A, n, c, B, m, d, hc 0 _ rfl, hc 1 _ rfl, hc 2 _ rfl, NumS.of_lm hn, NumS.of_lm hd⟩
theorem RatsP.of {e : TypeId} {S : Nat → Prop} {w : World} {B : Option Addr} {m d : Nat} {xs : List RatL} (h : Own RZ e S w (.slice B m d) xs) : RatsP S w B m := by
  obtain ⟨cells, h1, h2, h3⟩ := h
  obtain ⟨hlen, ⟨e0, hn⟩ | ⟨g, cap, cur, e0, hb, hg, hcap, hmax, hsz, htake⟩⟩ := h1
  · cases e0
    exact ⟨by omega, fun hp => by omega⟩
  · cases e0
    refine ⟨Nat.le_trans hcap hmax, fun hp => ⟨g, rfl, fun j hj => ?_⟩⟩
    obtain ⟨cs, hr, hu⟩ := h3 j xs[j] (List.getElem?_eq_getElem hj)
    refine RatP.of (RZ.mono (fun k hk => hk.1) hr) fun i u hi => ?_
    have hcu := hu i u hi
    rw [← htake, List.getElem?_take] at hcu
    split at hcu
    · rw [cell_of_row w g _ cur e (0, 0) hg]
      simpa [RZ] using hcu
    · cases hcu
theorem TenP.of {e : TypeId} {S : Nat → Prop} {w : World} {A : Option Addr} {n c : Nat} {xs : List (List Int × List RatL)} (h : Own KT e S w (.slice A n c) xs) : n ≤ 9223372036854775807 ∧ (0 < n → ∃ g, A = some ⟨g, 0, none⟩ ∧ ∀ j, j < n → TenP S w g (j * 2)) := by
  obtain ⟨cells, h1, h2, h3⟩ := h
  obtain ⟨hlen, ⟨e0, hn⟩ | ⟨g, cap, cur, e0, hb, hg, hcap, hmax, hsz, htake⟩⟩ := h1
  · cases e0
    exact ⟨by omega, fun hp => by omega⟩
  · cases e0
    refine ⟨Nat.le_trans hcap hmax, fun hp => ⟨g, rfl, fun j hj => ?_⟩⟩
    obtain ⟨cs, hr, hu⟩ := h3 j xs[j] (List.getElem?_eq_getElem hj)
    obtain ⟨vs, ve, rfl, o1, o2⟩ := hr
    obtain ⟨A1, n1, c1, rfl⟩ := o1.form
    obtain ⟨B1, m1, d1, rfl⟩ := o2.form
    have hc : ∀ (i : Nat) (u : Value), [Value.slice A1 n1 c1, .slice B1 m1 d1][i]? = some u → w.cell? ⟨g, j * 2 + i, none⟩ = some u := fun i u hi => by
      have hcu := hu i u hi
      rw [← htake, List.getElem?_take] at hcu
      split at hcu
      · rw [cell_of_row w g _ cur e (0, 0) hg]
        simpa [KT] using hcu
      · cases hcu
    exact ⟨A1, n1, c1, B1, m1, d1, hc 0 _ rfl, hc 1 _ rfl, NumS.of_own (o1.mono fun k hk => hk.1), RatsP.of (o2.mono fun k hk => hk.1)⟩
/-- All noughts are an index within a shape. -/
theorem off_noughts {sh : List Int} (h : mayS sh = 0) : offE sh (List.replicate sh.length 0) = 0 := by
  refine offE_0 h (by simp) ?_
  obtain ⟨_, h1, _⟩ := mayS_ok h
  intro k hk
  have := h1 sh[k] (List.getElem_mem hk)
  simp [List.getD_eq_getElem?_getD, List.getElem?_eq_getElem hk, hk]
  omega
end Go.Proofs.YtlppcfeimpcbjaaGreat
