
/- Texts merged: PtK, PtL, PtM, Sx, PtN, PtO, PtP, PtQ, PtR, PtS, PtT, PtU, PtV, PtY. -/
import Derived.Test.YtlppcfeimpcbjaaGreatPointB
import Derived.Test.YtlppcfeimpcbjaaGreatFacts
set_option linter.unusedSimpArgs false
set_option linter.unusedVariables false

/- law08: first, is, told. -/
namespace Go.Proofs.YtlppcfeimpcbjaaGreat
open Go.RowKit

end Go.Proofs.YtlppcfeimpcbjaaGreat


/- law08: few. -/
namespace Go.Proofs.YtlppcfeimpcbjaaGreat
open Go.RowKit

end Go.Proofs.YtlppcfeimpcbjaaGreat


/- The document's Sub over the elements: printed by gen_ptm.py. -/
namespace Go.Proofs.YtlppcfeimpcbjaaGreat
open Go.RowKit

def RefV (sh : List Int) (qs : List Rat) (K : Nat) (r : Int) (u : World) (v : Value) : Prop := ∃ A i j B k l, v = .tuple #[.agg #[.slice A i j, .slice B k l], .int .i64 r] ∧ (r = 0 → Sl Im (fun _ => True) u (.slice A i j) sh ∧ Sl (Rk K) (fun _ => True) u (.slice B k l) qs)
theorem RefV.keep {sh : List Int} {qs : List Rat} {K : Nat} {r : Int} {v : Value} {u u' : World} (hf : Fr (fun k => k < u.heap.size) u u') (h : RefV sh qs K r u v) : RefV sh qs K r u' v := by
  obtain ⟨A, i, j, B, k, l, e, h2⟩ := h
  exact ⟨A, i, j, B, k, l, e, fun h => ⟨(h2 h).1.keep' Im_pos hf, (h2 h).2.keep' (Rk_pos K) hf⟩⟩
theorem Rk_notin2 {K : Nat} {S : Nat → Prop} {w : World} {v : Value} {b : Nat} {t : TypeId} {a1 a2 : Option Addr} {n1 c1 n2 c2 : Nat} {xs : List Rat} (h : Sl (Rk K) S w v xs) (hb : Box2 w b t (.slice a1 n1 c1) (.slice a2 n2 c2)) : Sl (Rk K) (fun j => j ≠ b) w v xs :=
  Sl.notin2 (S := S) (fun x cs ⟨vn, vd, e, hr⟩ => ⟨⟨_, (congrArg (fun l : List Value => l[0]?) e).trans rfl, by simp⟩, ⟨vn, vd, e, ⟨⟨Sl.notin2 (S := S) (fun x cs hc => ⟨⟨_, (congrArg (fun l : List Value => l[0]?) hc.1).trans rfl, by simp⟩, hc⟩) hr.num.sl hb, hr.num.len⟩, ⟨Sl.notin2 (S := S) (fun x cs hc => ⟨⟨_, (congrArg (fun l : List Value => l[0]?) hc.1).trans rfl, by simp⟩, hc⟩) hr.den.sl hb, hr.den.len⟩⟩⟩⟩) h hb

end Go.Proofs.YtlppcfeimpcbjaaGreat


/- What stays, whatever is laid behind the memory; a guard that forbids; a region in its order, as one of many orders. -/
namespace Go.Proofs.YtlppcfeimpcbjaaGreat
open Go.RowKit

/-- Something holds here, and whatever is laid behind the memory. -/
def Hold (p : World → Prop) (W : World) : Prop := ∀ u, Fr (fun k => k < W.heap.size) W u → p u
theorem Hold.at {p : World → Prop} {W u : World} (h : Hold p W) (hf : Fr (fun k => k < W.heap.size) W u) : p u := h u hf
theorem Hold.now {p : World → Prop} {W : World} (h : Hold p W) : p W := h W (Fr.refl _ _)
theorem Hold.keep {p : World → Prop} {W W' : World} (h : Hold p W) (hf : Fr (fun k => k < W.heap.size) W W') : Hold p W' := fun u hu => h u (fr_then hf hu)
theorem Hold.mono {p q : World → Prop} {W : World} (h : Hold p W) (hpq : ∀ u, p u → q u) : Hold q W := fun u hu => hpq u (h u hu)
theorem Hold.and {p q : World → Prop} {W : World} (h : Hold p W) (k : Hold q W) : Hold (fun u => p u ∧ q u) W := fun u hu => ⟨h u hu, k u hu⟩
theorem Hold.sl {α : Type} {K : Kd α} {S : Nat → Prop} {w : World} {v : Value} {xs : List α} (hpos : 0 < K.size) (h : Sl K S w v xs) : Hold (fun u => Sl K S u v xs) w := fun _ hu => h.keep' hpos hu
theorem Hold.own {α : Type} {K : Kd α} {e : TypeId} {S : Nat → Prop} {w : World} {v : Value} {xs : List α} (h : Own K e S w v xs) : Hold (fun u => Own K e S u v xs) w := fun _ hu => h.keep' hu
/-- A fact that holds of a result here and on. -/
abbrev Fact.held (p : World → Value → Prop) : Fact := Fact.one (fun v u => Hold (fun u' => p u' v) u) (fun hf h => h.keep hf)

theorem wanted_not {ops : Array Oper} {A : Act} {o : Oper} {g : Nat} {b : Bool} {t : Tmp} (hg : o.guard = some (g, b)) (hd : dstOf ops g = some t) (ht : A.tmps[t]? = some (.bool (!b))) : Region.wanted o (yielded ops A.tmps) = false := by
  have hy : yielded ops A.tmps g = some (!b) := by
    unfold yielded
    unfold dstOf at hd
    rw [hd, Option.bind_some, ht]
  unfold Region.wanted
  rw [hg]
  simp [hy]
def lowOk (ops : Array Oper) : Bool := (List.range ops.size).all fun i => (afters .any ops i).all fun e => decide (e < i)
theorem wpTill.list {P : Program} {ops : Array Oper} {Q : Exit → Act → World → Prop} {S : World → Prop} {j : Nat} (hlow : lowOk ops = true) : ∀ (l : List Oper) (k n : Nat) (done : Array Bool) (a : Act) (w : World), ops.toList.drop k = l → done.size = ops.size →
    (∀ i, i < ops.size → (done.getD i false = true ↔ i < k)) → wpTill P .any ops Q S j n done a w → wpList P ops Q l a w
  | [], k, n, done, a, w, hl, hs, hd, h => by
    have hk : ops.size ≤ k := by
      have := List.drop_eq_nil_iff.1 hl
      rwa [Array.length_toList] at this
    have hr : Region.ready .any ops done = [] := by
      refine List.eq_nil_iff_forall_not_mem.2 fun i hi => ?_
      obtain ⟨h0, hi', _⟩ := ready_iff.1 hi
      have := (hd i hi').2 (Nat.lt_of_lt_of_le hi' hk)
      rw [getD_tf h0] at this
      cases this
    cases n with
    | zero => exact h.2
    | succ n => exact h.1 hr
  | o :: rest, k, n, done, a, w, hl, hs, hd, h => by
    have hk : k < ops.size := by
      rcases Nat.lt_or_ge k ops.size with h | h
      · exact h
      · rw [List.drop_of_length_le (by rw [Array.length_toList]; exact h)] at hl; cases hl
    have ho : ops[k]? = some o := by
      have : (ops.toList.drop k)[0]? = some o := by rw [hl]; rfl
      rw [List.getElem?_drop, Nat.add_zero, Array.getElem?_toList] at this
      exact this
    have hrest : ops.toList.drop (k + 1) = rest := by
      rw [← List.drop_drop, hl]; rfl
    have hrd : k ∈ Region.ready .any ops done := by
      refine ready_iff.2 ⟨getD_ft (by omega) ?_, hk, fun e he => ?_⟩
      · cases h : done.getD k false with
        | false => rfl
        | true => exact absurd ((hd k hk).1 h) (Nat.lt_irrefl k)
      · have := List.all_eq_true.1 (List.all_eq_true.1 hlow k (List.mem_range.2 hk)) e he
        have hek := of_decide_eq_true this
        exact (hd e (Nat.lt_trans hek hk)).2 hek
    cases n with
    | zero => rw [h.1] at hrd; cases hrd
    | succ n =>
      have h2 := h.2 k hrd
      have hd' : ∀ i, i < ops.size → ((done.setIfInBounds k true).getD i false = true ↔ i < k + 1) := fun i hi => by
        rw [getD_set (by omega), hd i hi]
        omega
      unfold wpOp at h2
      simp only [ho] at h2
      unfold wpList
      split
      · rename_i hw
        rw [if_pos hw] at h2
        rcases h2 with h2 | h2
        · exact .inl (Oper.wp_mono (fun b u hb => wpTill.list hlow rest (k + 1) n _ b u hrest (by simp [hs]) hd' hb.2) h2)
        · exact .inr h2
      · rename_i hw
        rw [if_neg hw] at h2
        exact wpTill.list hlow rest (k + 1) n _ _ w hrest (by simp [hs]) hd' h2.2
theorem wpTill.row {P : Program} {ops : Array Oper} {Q : Exit → Act → World → Prop} (S : World → Prop) (j : Nat) {id : Nat} {a : Act} {w : World} (hlow : lowOk ops = true)
    (h : wpTill P .any ops Q S j ops.size (Array.replicate ops.size false) a w) : (Code.region id ops false).wp P Q a w :=
  wp_region_list (wpTill.list hlow ops.toList 0 ops.size _ a w rfl (by simp) (fun i hi => by simp [hi]) h)
end Go.Proofs.YtlppcfeimpcbjaaGreat


/- rat.Pow: printed by gen_ptn.py. -/
namespace Go.Proofs.YtlppcfeimpcbjaaGreat
open Go.RowKit

end Go.Proofs.YtlppcfeimpcbjaaGreat


/- The document's Pow of a rational. -/
namespace Go.Proofs.YtlppcfeimpcbjaaGreat
open Go.RowKit

end Go.Proofs.YtlppcfeimpcbjaaGreat


/- point.Pow. -/
namespace Go.Proofs.YtlppcfeimpcbjaaGreat
open Go.RowKit

end Go.Proofs.YtlppcfeimpcbjaaGreat


/- The document's Pow over the elements: printed by gen_ptq.py. -/
namespace Go.Proofs.YtlppcfeimpcbjaaGreat
open Go.RowKit

end Go.Proofs.YtlppcfeimpcbjaaGreat


/- The document's Div over the elements: printed by gen_ptr.py. -/
namespace Go.Proofs.YtlppcfeimpcbjaaGreat
open Go.RowKit

/-- numbers of two readings: of the blocks of both -/
theorem Sl.both {k : IntKind} {m : Nat} {S T : Nat → Prop} {w : World} {v : Value} {xs : List Nat} (h : Sl (Kd.nat k m) S w v xs) (h' : Sl (Kd.nat k m) T w v xs) : Sl (Kd.nat k m) (fun j => S j ∧ T j) w v xs := by
  obtain ⟨A, c, e, h1, h2, h3, h4⟩ := h
  obtain ⟨A', c', e', _, _, _, h4'⟩ := h'
  rw [e] at e'
  cases e'
  refine ⟨A, c, e, h1, h2, h3, fun hp => ?_⟩
  obtain ⟨ad, e1, hS, hr⟩ := h4 hp
  obtain ⟨ad', e1', hT, _⟩ := h4' hp
  rw [e1] at e1'
  cases e1'
  exact ⟨ad, e1, ⟨hS, hT⟩, hr⟩
theorem RR.off {S : Nat → Prop} {w : World} {vn vd : Value} {q : Rat} {L b : Nat} {t : TypeId} {p : Bool} {a1 a2 : Option Addr} {n1 c1 n2 c2 : Nat} (h : RR S w vn vd q L) (hb : Box3 w b t (.bool p) (.slice a1 n1 c1) (.slice a2 n2 c2)) : RR (fun k => S k ∧ k ≠ b) w vn vd q L :=
  ⟨⟨h.num.sl.both (h.num.sl.notin hb), h.num.len⟩, ⟨h.den.sl.both (h.den.sl.notin hb), h.den.len⟩⟩

end Go.Proofs.YtlppcfeimpcbjaaGreat


/- The document's Small; law08's row. -/
namespace Go.Proofs.YtlppcfeimpcbjaaGreat
open Go.RowKit

end Go.Proofs.YtlppcfeimpcbjaaGreat


/- law08's row. -/
namespace Go.Proofs.YtlppcfeimpcbjaaGreat
open Go.RowKit

end Go.Proofs.YtlppcfeimpcbjaaGreat


/- What the laws of chapter 08 say of values: tensors as parts of what is answered, and the contracts in these words. -/
namespace Go.Proofs.YtlppcfeimpcbjaaGreat
open Go.RowKit

/-- a tensor's two parts -/
def TV (sh : List Int) (es : List RatL) (u : World) (a b : Value) : Prop := Sl Im (fun _ => True) u a sh ∧ Sl Rm (fun _ => True) u b es
/-- those of a tensor that is answered beside an error -/
def TC (r : Int) (sh : List Int) (es : List RatL) (u : World) (a b : Value) : Prop := (r ≠ 0 → a = .slice none 0 0 ∧ b = .slice none 0 0) ∧ (r = 0 → TV sh es u a b)
/-- those of a tensor of the document's -/
def QV (sh : List Int) (qs : List Rat) (K : Nat) (u : World) (a b : Value) : Prop := Sl Im (fun _ => True) u a sh ∧ Sl (Rk K) (fun _ => True) u b qs
def QC (r : Int) (sh : List Int) (qs : List Rat) (K : Nat) (u : World) (a b : Value) : Prop := r = 0 → QV sh qs K u a b
/-- a struct of two slices -/
def Agg (p : World → Value → Value → Prop) (u : World) (v : Value) : Prop := ∃ A n c B m k, v = .agg #[.slice A n c, .slice B m k] ∧ p u (.slice A n c) (.slice B m k)
/-- such a struct, and a number -/
def Tup (r : Int) (p : World → Value → Value → Prop) (u : World) (v : Value) : Prop := ∃ A n c B m k, v = .tuple #[.agg #[.slice A n c, .slice B m k], .int .i64 r] ∧ p u (.slice A n c) (.slice B m k)
/-- What a call answers. -/
def Ret (w : World) (p : World → Value → Prop) (e : Ending) (u : World) : Prop := ∃ v, e = .returned v ∧ Fr (fun k => k < w.heap.size) w u ∧ Hold (fun u' => p u' v) u

theorem Agg.out {p : World → Value → Value → Prop} {u : World} {a b : Value} (h : Agg p u (.agg #[a, b])) : p u a b := by
  obtain ⟨A, n, c, B, m, k, e, h⟩ := h
  cases e
  exact h
theorem Tup.out {r : Int} {p : World → Value → Value → Prop} {u : World} {a b x : Value} (h : Tup r p u (.tuple #[.agg #[a, b], x])) : p u a b := by
  obtain ⟨A, n, c, B, m, k, e, h⟩ := h
  cases e
  exact h
section
variable {sh : List Int} {es : List RatL} {qs : List Rat} {K : Nat} {r : Int} {u u' : World} {a b : Value}
theorem TV.keep (h : TV sh es u a b) (hf : Fr (fun k => k < u.heap.size) u u') : TV sh es u' a b := ⟨h.1.keep' Im_pos hf, h.2.keep' Rm_pos hf⟩
theorem TC.keep (h : TC r sh es u a b) (hf : Fr (fun k => k < u.heap.size) u u') : TC r sh es u' a b := ⟨h.1, fun e => (h.2 e).keep hf⟩
theorem QV.keep (h : QV sh qs K u a b) (hf : Fr (fun k => k < u.heap.size) u u') : QV sh qs K u' a b := ⟨h.1.keep' Im_pos hf, h.2.keep' (Rk_pos K) hf⟩
theorem QC.keep (h : QC r sh qs K u a b) (hf : Fr (fun k => k < u.heap.size) u u') : QC r sh qs K u' a b := fun e => (h e).keep hf
theorem TV.hold (h : TV sh es u a b) : Hold (fun u => TV sh es u a b) u := fun _ hu => h.keep hu
theorem TC.hold (h : TC r sh es u a b) : Hold (fun u => TC r sh es u a b) u := fun _ hu => h.keep hu
theorem QV.hold (h : QV sh qs K u a b) : Hold (fun u => QV sh qs K u a b) u := fun _ hu => h.keep hu
theorem QC.hold (h : QC r sh qs K u a b) : Hold (fun u => QC r sh qs K u a b) u := fun _ hu => h.keep hu
variable {g : Nat} {t : TypeId} {a1 a2 : Option Addr} {n1 c1 n2 c2 : Nat} (x y : Value)
theorem TV.fill (h : TV sh es u a b) (hb : Box2 u g t (.slice a1 n1 c1) (.slice a2 n2 c2)) : TV sh es ((u.setCell ⟨g, 0, none⟩ x).setCell ⟨g, 1, none⟩ y) a b :=
  ⟨((Im_notin2 h.1 hb).fr (fr_put2 u g x y)).any, ((Rm_notin2 h.2 hb).fr (fr_put2 u g x y)).any⟩
theorem TC.fill (h : TC r sh es u a b) (hb : Box2 u g t (.slice a1 n1 c1) (.slice a2 n2 c2)) : TC r sh es ((u.setCell ⟨g, 0, none⟩ x).setCell ⟨g, 1, none⟩ y) a b := ⟨h.1, fun e => (h.2 e).fill x y hb⟩
theorem QV.fill (h : QV sh qs K u a b) (hb : Box2 u g t (.slice a1 n1 c1) (.slice a2 n2 c2)) : QV sh qs K ((u.setCell ⟨g, 0, none⟩ x).setCell ⟨g, 1, none⟩ y) a b :=
  ⟨((Im_notin2 h.1 hb).fr (fr_put2 u g x y)).any, ((Rk_notin2 h.2 hb).fr (fr_put2 u g x y)).any⟩
theorem QC.fill (h : QC r sh qs K u a b) (hb : Box2 u g t (.slice a1 n1 c1) (.slice a2 n2 c2)) : QC r sh qs K ((u.setCell ⟨g, 0, none⟩ x).setCell ⟨g, 1, none⟩ y) a b := fun e => (h e).fill x y hb
theorem TV.form (h : TV sh es u a b) : (∃ A n c, a = .slice A n c) ∧ ∃ A n c, b = .slice A n c := ⟨h.1.form, h.2.form⟩
theorem TC.form (h : TC r sh es u a b) : (∃ A n c, a = .slice A n c) ∧ ∃ A n c, b = .slice A n c := by
  by_cases h0 : r = 0
  · exact (h.2 h0).form
  · exact ⟨⟨_, _, _, (h.1 h0).1⟩, ⟨_, _, _, (h.1 h0).2⟩⟩
theorem QV.form (h : QV sh qs K u a b) : (∃ A n c, a = .slice A n c) ∧ ∃ A n c, b = .slice A n c := ⟨h.1.form, h.2.form⟩
theorem TC.tv (h : TC 0 sh es u a b) : TV sh es u a b := h.2 rfl
theorem QV.qc (h : QV sh qs K u a b) : QC r sh qs K u a b := fun _ => h
end
theorem Ret.eq {w u : World} {e : Ending} {x : Value} (he : e = .returned x) (hf : Fr (fun k => k < w.heap.size) w u) : Ret w (fun _ v => v = x) e u := ⟨_, he, hf, fun _ _ => rfl⟩

theorem lt_of_dg {N L : Nat} (h : (dg LB N).length ≤ L) : N < LB ^ L := by
  have := ofB_lt (dg_lt LB2 N)
  rw [ofB_dg LB2] at this
  exact Nat.lt_of_lt_of_le this (Nat.pow_le_pow_right LBpos h)
/-- bounds on a tensor's lists -/
structure Fit (sh : List Int) (es : List RatL) (L : Nat) : Prop where
  nsh : sh.length ≤ 1099511627000
  nes : es.length ≤ 1099511627000
  lx : ∀ x ∈ es, x.2.1.length ≤ L ∧ x.2.2.length ≤ L
  one : 1 ≤ L
  top : L ≤ 1048578
  lt : ∀ x ∈ es, (∀ d ∈ x.2.1, d < LB) ∧ ∀ d ∈ x.2.2, d < LB
theorem EachR.ret {w u : World} {sh : List Int} {es : List RatL} {r : Int} {e : Ending} (h : EachR w sh es r e u) : Ret w (Tup r (TC r sh es)) e u := by
  obtain ⟨A, i, j, B, k, l, rfl, h1, h2, hf⟩ := h
  exact ⟨_, rfl, hf, fun u' hu' => ⟨_, _, _, _, _, _, rfl, h1, fun e => ⟨((h2 e).1.sl.keep' Im_pos hu').any, ((h2 e).2.rm.sl.keep' Rm_pos hu').any⟩⟩⟩
theorem RefE.ret {w u : World} {sh : List Int} {qs : List Rat} {K : Nat} {r : Int} {e : Ending} (h : RefE w sh qs K r e u) : Ret w (Tup r (QC r sh qs K)) e u := by
  obtain ⟨A, i, j, B, k, l, rfl, h2, hf⟩ := h
  exact ⟨_, rfl, hf, fun u' hu' => ⟨_, _, _, _, _, _, rfl, fun e => ⟨(h2 e).1.keep' Im_pos hu', (h2 e).2.keep' (Rk_pos K) hu'⟩⟩⟩
theorem RefR.ret {w u : World} {sh : List Int} {qs : List Rat} {K : Nat} {e : Ending} (h : RefR w sh qs K e u) : Ret w (Agg (QV sh qs K)) e u := by
  obtain ⟨A, i, j, B, k, l, rfl, h1, h2, hf⟩ := h
  exact ⟨_, rfl, hf, fun u' hu' => ⟨_, _, _, _, _, _, rfl, h1.keep' Im_pos hu', h2.keep' (Rk_pos K) hu'⟩⟩

section
variable {w : World} {sha shb : List Int} {ea eb : List RatL} {qa qb : List Rat} {a b c d : Value} {L K : Nat} {r : Int}
theorem of_u (h : TV sha ea w a b) (f : Hid (Fit sha ea L)) : Calls Tryz.prog 18 #[.agg #[a, b]] w (Ret w (Agg (QV sha (ea.map qOf) (3 * L)))) := by
  refine (tof_t w a b sha ea L h.1 h.2 f.out.nsh f.out.nes f.out.lx f.out.one (by have := f.out.top; omega)).mono ?_
  rintro e u ⟨v1, v2, rfl, h1, h2, hf⟩
  obtain ⟨A, n, c, rfl⟩ := h1.form
  obtain ⟨B, m, k, rfl⟩ := h2.form
  exact ⟨_, rfl, hf, fun u' hu' => ⟨_, _, _, _, _, _, rfl, (h1.sl.keep' Im_pos hu').any, (h2.sl.keep' (Rk_pos _) hu').any⟩⟩
theorem lb_db (n : Nat) {K : Nat} (h : (dg DB n).length ≤ K) : (dg LB n).length ≤ K := by
  have h1 : n < DB ^ K := by
    have := ofB_lt (dg_lt DB2 n)
    rw [ofB_dg DB2] at this
    exact Nat.lt_of_lt_of_le this (Nat.pow_le_pow_right (by decide) h)
  exact dg_len_le LB2 (Nat.lt_of_lt_of_le h1 (Nat.pow_le_pow_left (by decide) K))
theorem Rk_len {K : Nat} {S : Nat → Prop} {w : World} {v : Value} {qs : List Rat} (h : Sl (Rk K) S w v qs) : ∀ q ∈ qs, (dg LB q.num.natAbs).length ≤ K ∧ (dg LB q.den).length ≤ K := by
  intro q hq
  obtain ⟨A, c, rfl, _⟩ := h.slice
  obtain ⟨i, hi, rfl⟩ := List.mem_iff_getElem.1 hq
  obtain ⟨_, _, _, _, _, _, _, _, _, _, _, _, hr⟩ := Rk_get h hi
  exact ⟨lb_db _ hr.num.len, lb_db _ hr.den.len⟩
/-- bounds on a tensor's lists, as the document has it -/
structure FitQ (sh : List Int) (qs : List Rat) (K : Nat) : Prop where
  nsh : sh.length ≤ 1099511627000
  nqs : qs.length ≤ 1099511627000
  six : 6 ≤ K
  top : K ≤ 104857600
end
end Go.Proofs.YtlppcfeimpcbjaaGreat


/- The plain laws behind chapter 08's sums and products; law08's known. -/
namespace Go.Proofs.YtlppcfeimpcbjaaGreat
open Go.RowKit

theorem TL.fit {S : Nat → Prop} {w : World} {v : Value} {sh : List Int} {es : List RatL} {L : Nat} (h : TL S w v sh es L) (hL : L ≤ 1048576) : Fit sh es (L + 2) := by
  obtain ⟨vs, ve, rfl, h1, h2⟩ := h.ex
  have ls := h.ls
  have le := h.le
  exact ⟨by omega, by omega, fun x hx => by have := h.lx x hx; omega, by omega, by omega, Rm_lt h2⟩
theorem may_same {sh : List Int} {ea eb : List RatL} (h1 : mayT sh ea = 0) (h2 : mayT sh eb = 0) : ea.length = eb.length := by
  have := (mayT_ok h1).2.1
  have := (mayT_ok h2).2.1
  omega
end Go.Proofs.YtlppcfeimpcbjaaGreat


/- law08's known: printed by gen_pty.py. -/
namespace Go.Proofs.YtlppcfeimpcbjaaGreat
open Go.RowKit

theorem ints_hold (u : World) (t : TypeId) (xs : List Int) (cells : List Value) (hc : cells = xs.map (fun x => .int .i64 x)) (hx : ∀ x ∈ xs, -9223372036854775808 ≤ x ∧ x < 9223372036854775808) (hl : xs.length ≤ 1099511627000) : Hold (fun u' => IntG xs u' (.slice (some ⟨u.heap.size, 0, none⟩) xs.length xs.length)) (u.alloc (.cells cells.toArray t)) :=
  fun _ hu => ⟨_, _, _, rfl, ((sl_ints xs cells hc hx hl (heap_alloc_new u _)).keep' Im_pos hu).any⟩
theorem back_u {w : World} {sh : List Int} {qs : List Rat} {K : Nat} {a b : Value} (h : QV sh qs K w a b) (f : FitQ sh qs K) : Calls Tryz.prog 38 #[.agg #[a, b]] w (Ret w (Agg (TV sh (qs.map canR)))) := by
  refine (tback_t w a b sh qs K h.1 h.2 f.nsh f.nqs (by have := f.top; omega) fun q hq => by have := Rk_len h.2 q hq; have := f.top; omega).mono ?_
  rintro e u ⟨v1, v2, rfl, h1, h2, hf⟩
  obtain ⟨A, n, c, rfl⟩ := h1.form
  obtain ⟨B, m, k, rfl⟩ := h2.form
  exact ⟨_, rfl, hf, fun u' hu' => ⟨_, _, _, _, _, _, rfl, (h1.sl.keep' Im_pos hu').any, (h2.sl.keep' Rm_pos hu').any⟩⟩

theorem kq_small {q : Rat} (h : q.num.natAbs < LB) (h2 : q.den < LB) : (canR q).2.1.length ≤ 2 ∧ (canR q).2.2.length ≤ 2 :=
  ⟨Nat.le_trans (dg_len_le LB2 (k := 1) (by simpa using h)) (by decide), Nat.le_trans (dg_len_le LB2 (k := 1) (by simpa using h2)) (by decide)⟩
theorem k_q (l : List Rat) : (l.map canR).map qOf = l := by
  rw [List.map_map]
  exact (List.map_congr_left fun q _ => qOf_can q).trans (List.map_id l)
end Go.Proofs.YtlppcfeimpcbjaaGreat
