/- Texts merged: PtK, PtL, PtM, Sx, PtN, PtO, PtP, PtQ, PtR, PtS, PtT, PtU, PtV, PtY. -/
import Derived.Test.YtlppcfeimpcbjaaGreatPointB
import Derived.Test.YtlppcfeimpcbjaaGreatFacts
set_option linter.unusedSimpArgs false
set_option linter.unusedVariables false

/- law08: first, is, told. -/
namespace Go.Proofs.YtlppcfeimpcbjaaGreat
open Go.RowKit

end Go.Proofs.YtlppcfeimpcbjaaGreat


/- law08: few. -/
namespace Go.Proofs.YtlppcfeimpcbjaaGreat
open Go.RowKit

def fewB (es : List RatL) : Bool := decide (es.length ≤ 64 ∧ ∀ x ∈ es, x.2.1.length ≤ 6 ∧ x.2.2.length ≤ 6)

end Go.Proofs.YtlppcfeimpcbjaaGreat


/- The document's Sub over the elements: printed by gen_ptm.py. -/
namespace Go.Proofs.YtlppcfeimpcbjaaGreat
open Go.RowKit

def RefV (sh : List Int) (qs : List Rat) (K : Nat) (r : Int) (u : World) (v : Value) : Prop := ∃ A i j B k l, v = .tuple #[.agg #[.slice A i j, .slice B k l], .int .i64 r] ∧ (r = 0 → Sl Im (fun _ => True) u (.slice A i j) sh ∧ Sl (Rk K) (fun _ => True) u (.slice B k l) qs)
theorem RefV.keep {sh : List Int} {qs : List Rat} {K : Nat} {r : Int} {v : Value} {u u' : World} (hf : Fr (fun k => k < u.heap.size) u u') (h : RefV sh qs K r u v) : RefV sh qs K r u' v := by
  obtain ⟨A, i, j, B, k, l, e, h2⟩ := h
  exact ⟨A, i, j, B, k, l, e, fun h => ⟨(h2 h).1.keep' Im_pos hf, (h2 h).2.keep' (Rk_pos K) hf⟩⟩
theorem Rk_notin2 {K : Nat} {S : Nat → Prop} {w : World} {v : Value} {b : Nat} {t : TypeId} {a1 a2 : Option Addr} {n1 c1 n2 c2 : Nat} {xs : List Rat} (h : Sl (Rk K) S w v xs) (hb : Box2 w b t (.slice a1 n1 c1) (.slice a2 n2 c2)) : Sl (Rk K) (fun j => j ≠ b) w v xs :=
  Sl.notin2 (S := S) (fun x cs ⟨vn, vd, e, hr⟩ => ⟨⟨_, (congrArg (fun l : List Value => l[0]?) e).trans rfl, by simp⟩, ⟨vn, vd, e, ⟨⟨Sl.notin2 (S := S) (fun x cs hc => ⟨⟨_, (congrArg (fun l : List Value => l[0]?) hc.1).trans rfl, by simp⟩, hc⟩) hr.num.sl hb, hr.num.len⟩, ⟨Sl.notin2 (S := S) (fun x cs hc => ⟨⟨_, (congrArg (fun l : List Value => l[0]?) hc.1).trans rfl, by simp⟩, hc⟩) hr.den.sl hb, hr.den.len⟩⟩⟩⟩) h hb

end Go.Proofs.YtlppcfeimpcbjaaGreat


/- What stays, whatever is laid behind the memory; a guard that forbids; a region in its order, as one of many orders. -/
namespace Go.Proofs.YtlppcfeimpcbjaaGreat
open Go.RowKit

/-- Something holds here, and whatever is laid behind the memory. -/
def Hold (p : World → Prop) (W : World) : Prop := ∀ u, Fr (fun k => k < W.heap.size) W u → p u
theorem Hold.at {p : World → Prop} {W u : World} (h : Hold p W) (hf : Fr (fun k => k < W.heap.size) W u) : p u := h u hf
theorem Hold.now {p : World → Prop} {W : World} (h : Hold p W) : p W := h W (Fr.refl _ _)
theorem Hold.keep {p : World → Prop} {W W' : World} (h : Hold p W) (hf : Fr (fun k => k < W.heap.size) W W') : Hold p W' := fun u hu => h u (fr_then hf hu)
theorem Hold.mono {p q : World → Prop} {W : World} (h : Hold p W) (hpq : ∀ u, p u → q u) : Hold q W := fun u hu => hpq u (h u hu)
theorem Hold.and {p q : World → Prop} {W : World} (h : Hold p W) (k : Hold q W) : Hold (fun u => p u ∧ q u) W := fun u hu => ⟨h u hu, k u hu⟩
theorem Hold.sl {α : Type} {K : Kd α} {S : Nat → Prop} {w : World} {v : Value} {xs : List α} (hpos : 0 < K.size) (h : Sl K S w v xs) : Hold (fun u => Sl K S u v xs) w := fun _ hu => h.keep' hpos hu
theorem Hold.own {α : Type} {K : Kd α} {e : TypeId} {S : Nat → Prop} {w : World} {v : Value} {xs : List α} (h : Own K e S w v xs) : Hold (fun u => Own K e S u v xs) w := fun _ hu => h.keep' hu
/-- A fact that holds of a result here and on. -/
abbrev Fact.held (p : World → Value → Prop) : Fact := Fact.one (fun v u => Hold (fun u' => p u' v) u) (fun hf h => h.keep hf)

theorem wanted_not {ops : Array Oper} {A : Act} {o : Oper} {g : Nat} {b : Bool} {t : Tmp} (hg : o.guard = some (g, b)) (hd : dstOf ops g = some t) (ht : A.tmps[t]? = some (.bool (!b))) : Region.wanted o (yielded ops A.tmps) = false := by
  have hy : yielded ops A.tmps g = some (!b) := by
    unfold yielded
    unfold dstOf at hd
    rw [hd, Option.bind_some, ht]
  unfold Region.wanted
  rw [hg]
  simp [hy]
def lowOk (ops : Array Oper) : Bool := (List.range ops.size).all fun i => (afters .any ops i).all fun e => decide (e < i)
theorem wpTill.list {P : Program} {ops : Array Oper} {Q : Exit → Act → World → Prop} {S : World → Prop} {j : Nat} (hlow : lowOk ops = true) : ∀ (l : List Oper) (k n : Nat) (done : Array Bool) (a : Act) (w : World), ops.toList.drop k = l → done.size = ops.size →
    (∀ i, i < ops.size → (done.getD i false = true ↔ i < k)) → wpTill P .any ops Q S j n done a w → wpList P ops Q l a w
  | [], k, n, done, a, w, hl, hs, hd, h => by
    have hk : ops.size ≤ k := by
      have := List.drop_eq_nil_iff.1 hl
      rwa [Array.length_toList] at this
    have hr : Region.ready .any ops done = [] := by
      refine List.eq_nil_iff_forall_not_mem.2 fun i hi => ?_
      obtain ⟨h0, hi', _⟩ := ready_iff.1 hi
      have := (hd i hi').2 (Nat.lt_of_lt_of_le hi' hk)
      rw [getD_tf h0] at this
      cases this
    cases n with
    | zero => exact h.2
    | succ n => exact h.1 hr
  | o :: rest, k, n, done, a, w, hl, hs, hd, h => by
    have hk : k < ops.size := by
      rcases Nat.lt_or_ge k ops.size with h | h
      · exact h
      · rw [List.drop_of_length_le (by rw [Array.length_toList]; exact h)] at hl; cases hl
    have ho : ops[k]? = some o := by
      have : (ops.toList.drop k)[0]? = some o := by rw [hl]; rfl
      rw [List.getElem?_drop, Nat.add_zero, Array.getElem?_toList] at this
      exact this
    have hrest : ops.toList.drop (k + 1) = rest := by
      rw [← List.drop_drop, hl]; rfl
    have hrd : k ∈ Region.ready .any ops done := by
      refine ready_iff.2 ⟨getD_ft (by omega) ?_, hk, fun e he => ?_⟩
      · cases h : done.getD k false with
        | false => rfl
        | true => exact absurd ((hd k hk).1 h) (Nat.lt_irrefl k)
      · have := List.all_eq_true.1 (List.all_eq_true.1 hlow k (List.mem_range.2 hk)) e he
        have hek := of_decide_eq_true this
        exact (hd e (Nat.lt_trans hek hk)).2 hek
    cases n with
    | zero => rw [h.1] at hrd; cases hrd
    | succ n =>
      have h2 := h.2 k hrd
      have hd' : ∀ i, i < ops.size → ((done.setIfInBounds k true).getD i false = true ↔ i < k + 1) := fun i hi => by
        rw [getD_set (by omega), hd i hi]
        omega
      unfold wpOp at h2
      simp only [ho] at h2
      unfold wpList
      split
      · rename_i hw
        rw [if_pos hw] at h2
        rcases h2 with h2 | h2
        · exact .inl (Oper.wp_mono (fun b u hb => wpTill.list hlow rest (k + 1) n _ b u hrest (by simp [hs]) hd' hb.2) h2)
        · exact .inr h2
      · rename_i hw
        rw [if_neg hw] at h2
        exact wpTill.list hlow rest (k + 1) n _ _ w hrest (by simp [hs]) hd' h2.2
theorem wpTill.row {P : Program} {ops : Array Oper} {Q : Exit → Act → World → Prop} (S : World → Prop) (j : Nat) {id : Nat} {a : Act} {w : World} (hlow : lowOk ops = true)
    (h : wpTill P .any ops Q S j ops.size (Array.replicate ops.size false) a w) : (Code.region id ops false).wp P Q a w :=
  wp_region_list (wpTill.list hlow ops.toList 0 ops.size _ a w rfl (by simp) (fun i hi => by simp [hi]) h)
end Go.Proofs.YtlppcfeimpcbjaaGreat


/- rat.Pow: printed by gen_ptn.py. -/
namespace Go.Proofs.YtlppcfeimpcbjaaGreat
open Go.RowKit

theorem int_pow_nn {z : Int} (h : 0 ≤ z) : ∀ n : Nat, 0 ≤ z ^ n
  | 0 => by rw [Int.pow_zero]; decide
  | n + 1 => by rw [Int.pow_succ]; exact Int.mul_nonneg (int_pow_nn h n) h
theorem int_pow_pos {z : Int} (h : 0 < z) : ∀ n : Nat, 0 < z ^ n
  | 0 => by rw [Int.pow_zero]; decide
  | n + 1 => by rw [Int.pow_succ]; exact Int.mul_pos (int_pow_pos h n) h
theorem int_neg_sq (z : Int) : (-z) ^ 2 = z ^ 2 := by
  rw [Int.pow_succ, Int.pow_succ, Int.pow_zero, Int.pow_succ, Int.pow_succ, Int.pow_zero, Int.one_mul, Int.one_mul, Int.neg_mul_neg]
theorem int_neg_even (z : Int) (n : Nat) : (-z) ^ (2 * n) = z ^ (2 * n) := by rw [Int.pow_mul, int_neg_sq, ← Int.pow_mul]
theorem sg_pow0 {q : Rat} {n : Nat} (h : sg q = false) : sg (q ^ n) = false := by
  unfold sg at *
  have h0 : 0 ≤ q.num := by have := of_decide_eq_false h; omega
  rw [Rat.num_pow]
  exact decide_eq_false (by have := int_pow_nn h0 n; omega)
theorem sg_pow1 {q : Rat} {n : Nat} (h : sg q = true) : sg (q ^ n) = decide (n % 2 = 1) := by
  unfold sg at *
  have h0 : q.num < 0 := of_decide_eq_true h
  rw [Rat.num_pow]
  generalize q.num = z at h0
  obtain ⟨m, rfl⟩ : ∃ m : Int, z = -m := ⟨-z, by omega⟩
  have hp := int_pow_pos (show 0 < m by omega) n
  rcases Nat.mod_two_eq_zero_or_one n with h2 | h2
  · obtain ⟨k, rfl⟩ : ∃ k, n = 2 * k := ⟨n / 2, by omega⟩
    rw [int_neg_even, decide_eq_false (show ¬ 2 * k % 2 = 1 by omega)]
    exact decide_eq_false (by omega)
  · obtain ⟨k, rfl⟩ : ∃ k, n = 2 * k + 1 := ⟨n / 2, by omega⟩
    have h3 : (-m) ^ (2 * k + 1) = -(m ^ (2 * k + 1)) := by rw [Int.pow_succ, Int.pow_succ, int_neg_even, Int.mul_neg]
    rw [h3, decide_eq_true h2]
    exact decide_eq_true (by omega)

end Go.Proofs.YtlppcfeimpcbjaaGreat


/- The document's Pow of a rational. -/
namespace Go.Proofs.YtlppcfeimpcbjaaGreat
open Go.RowKit

theorem pow_dg {N L n j K : Nat} (h : N < DB ^ L) (hj : j ≤ n) (hK : L * n + 1 ≤ K) : (dg DB (N ^ j)).length ≤ K :=
  dg_len_le DB2 (pow_roomD h (by have := Nat.mul_le_mul_left L hj; omega))

end Go.Proofs.YtlppcfeimpcbjaaGreat


/- point.Pow. -/
namespace Go.Proofs.YtlppcfeimpcbjaaGreat
open Go.RowKit

theorem pow_room {a k L X : Nat} (ha : a < LB ^ L) (hk : L * k < X) : a ^ k < LB ^ X := by
  have h1 : a ^ k ≤ LB ^ (L * k) := by rw [Nat.pow_mul]; exact Nat.pow_le_pow_left (Nat.le_of_lt ha) k
  exact Nat.lt_of_le_of_lt h1 (Nat.pow_lt_pow_right LB2 hk)
/-- the error of Pow -/
def powE (sh : List Int) (es : List RatL) (n : Int) : Int := if mayT sh es ≠ 0 then mayT sh es else if n < 0 ∨ 16 < n then 11 else 0

end Go.Proofs.YtlppcfeimpcbjaaGreat


/- The document's Pow over the elements: printed by gen_ptq.py. -/
namespace Go.Proofs.YtlppcfeimpcbjaaGreat
open Go.RowKit

end Go.Proofs.YtlppcfeimpcbjaaGreat


/- The document's Div over the elements: printed by gen_ptr.py. -/
namespace Go.Proofs.YtlppcfeimpcbjaaGreat
open Go.RowKit

/-- numbers of two readings: of the blocks of both -/
theorem Sl.both {k : IntKind} {m : Nat} {S T : Nat → Prop} {w : World} {v : Value} {xs : List Nat} (h : Sl (Kd.nat k m) S w v xs) (h' : Sl (Kd.nat k m) T w v xs) : Sl (Kd.nat k m) (fun j => S j ∧ T j) w v xs := by
  obtain ⟨A, c, e, h1, h2, h3, h4⟩ := h
  obtain ⟨A', c', e', _, _, _, h4'⟩ := h'
  rw [e] at e'
  cases e'
  refine ⟨A, c, e, h1, h2, h3, fun hp => ?_⟩
  obtain ⟨ad, e1, hS, hr⟩ := h4 hp
  obtain ⟨ad', e1', hT, _⟩ := h4' hp
  rw [e1] at e1'
  cases e1'
  exact ⟨ad, e1, ⟨hS, hT⟩, hr⟩
theorem RR.off {S : Nat → Prop} {w : World} {vn vd : Value} {q : Rat} {L b : Nat} {t : TypeId} {p : Bool} {a1 a2 : Option Addr} {n1 c1 n2 c2 : Nat} (h : RR S w vn vd q L) (hb : Box3 w b t (.bool p) (.slice a1 n1 c1) (.slice a2 n2 c2)) : RR (fun k => S k ∧ k ≠ b) w vn vd q L :=
  ⟨⟨h.num.sl.both (h.num.sl.notin hb), h.num.len⟩, ⟨h.den.sl.both (h.den.sl.notin hb), h.den.len⟩⟩

end Go.Proofs.YtlppcfeimpcbjaaGreat


/- The document's Small; law08's row. -/
namespace Go.Proofs.YtlppcfeimpcbjaaGreat
open Go.RowKit

def smallB (es : List Rat) : Bool := decide (es.length ≤ 64 ∧ ∀ q ∈ es, (dg DB q.num.natAbs).length ≤ 5 ∧ (dg DB q.den).length ≤ 5)

end Go.Proofs.YtlppcfeimpcbjaaGreat


/- law08's row. -/
namespace Go.Proofs.YtlppcfeimpcbjaaGreat
open Go.RowKit

theorem Sl.at_block {α : Type} {K : Kd α} {S : Nat → Prop} {w : World} {b o n c : Nat} {x : α} {xs : List α} (h : Sl K S w (.slice (some ⟨b, o, none⟩) n c) (x :: xs)) (hK : ∀ {S T : Nat → Prop} {x : α} {cs : List Value}, K.rd S w x cs → K.rd T w x cs := by exact fun h => h) : Sl K (fun k => k = b) w (.slice (some ⟨b, o, none⟩) n c) (x :: xs) := by
  obtain ⟨A, c, e, h1, h2, h3, h4⟩ := h
  cases e
  exact ⟨_, _, rfl, h1, h2, h3, fun hp => by
    obtain ⟨ad, e1, _, hr⟩ := h4 hp
    cases e1
    exact ⟨_, rfl, rfl, fun i x hx => by obtain ⟨cs, h5, h6⟩ := hr i x hx; exact ⟨cs, hK h5, h6⟩⟩⟩
theorem rfrac_h (w : World) (p q : Int) (h0 : -9223372036854775808 ≤ p) (h1 : p ≤ 9223372036854775807) (h2 : -9223372036854775808 ≤ q) (h3 : q ≤ 9223372036854775807) :
    Calls Tryz.prog 59 #[.int .i64 p, .int .i64 q] w fun e w' => ∃ s v1 v2, e = .returned (.agg #[.bool s, v1, v2]) ∧ Hid (s = sg (fr p q)) ∧ Hid (RR (fun k => w.heap.size ≤ k) w' v1 v2 (fr p q) 6) ∧ Fr (fun k => k < w.heap.size) w w' := by
  refine (rfrac_r w p q h0 h1 h2 h3).mono ?_
  rintro e w' ⟨v1, v2, rfl, h, hf⟩
  exact ⟨_, v1, v2, rfl, Lib.hid rfl, Lib.hid h, hf⟩

end Go.Proofs.YtlppcfeimpcbjaaGreat


/- What the laws of chapter 08 say of values: tensors as parts of what is answered, and the contracts in these words. -/
namespace Go.Proofs.YtlppcfeimpcbjaaGreat
open Go.RowKit

/-- a tensor's two parts -/
def TV (sh : List Int) (es : List RatL) (u : World) (a b : Value) : Prop := Sl Im (fun _ => True) u a sh ∧ Sl Rm (fun _ => True) u b es
/-- those of a tensor that is answered beside an error -/
def TC (r : Int) (sh : List Int) (es : List RatL) (u : World) (a b : Value) : Prop := (r ≠ 0 → a = .slice none 0 0 ∧ b = .slice none 0 0) ∧ (r = 0 → TV sh es u a b)
/-- those of a tensor of the document's -/
def QV (sh : List Int) (qs : List Rat) (K : Nat) (u : World) (a b : Value) : Prop := Sl Im (fun _ => True) u a sh ∧ Sl (Rk K) (fun _ => True) u b qs
def QC (r : Int) (sh : List Int) (qs : List Rat) (K : Nat) (u : World) (a b : Value) : Prop := r = 0 → QV sh qs K u a b
/-- a struct of two slices -/
def Agg (p : World → Value → Value → Prop) (u : World) (v : Value) : Prop := ∃ A n c B m k, v = .agg #[.slice A n c, .slice B m k] ∧ p u (.slice A n c) (.slice B m k)
/-- such a struct, and a number -/
def Tup (r : Int) (p : World → Value → Value → Prop) (u : World) (v : Value) : Prop := ∃ A n c B m k, v = .tuple #[.agg #[.slice A n c, .slice B m k], .int .i64 r] ∧ p u (.slice A n c) (.slice B m k)
/-- What a call answers. -/
def Ret (w : World) (p : World → Value → Prop) (e : Ending) (u : World) : Prop := ∃ v, e = .returned v ∧ Fr (fun k => k < w.heap.size) w u ∧ Hold (fun u' => p u' v) u

theorem Agg.out {p : World → Value → Value → Prop} {u : World} {a b : Value} (h : Agg p u (.agg #[a, b])) : p u a b := by
  obtain ⟨A, n, c, B, m, k, e, h⟩ := h
  cases e
  exact h
theorem Tup.out {r : Int} {p : World → Value → Value → Prop} {u : World} {a b x : Value} (h : Tup r p u (.tuple #[.agg #[a, b], x])) : p u a b := by
  obtain ⟨A, n, c, B, m, k, e, h⟩ := h
  cases e
  exact h
section
variable {sh : List Int} {es : List RatL} {qs : List Rat} {K : Nat} {r : Int} {u u' : World} {a b : Value}
theorem TV.keep (h : TV sh es u a b) (hf : Fr (fun k => k < u.heap.size) u u') : TV sh es u' a b := ⟨h.1.keep' Im_pos hf, h.2.keep' Rm_pos hf⟩
theorem TC.keep (h : TC r sh es u a b) (hf : Fr (fun k => k < u.heap.size) u u') : TC r sh es u' a b := ⟨h.1, fun e => (h.2 e).keep hf⟩
theorem QV.keep (h : QV sh qs K u a b) (hf : Fr (fun k => k < u.heap.size) u u') : QV sh qs K u' a b := ⟨h.1.keep' Im_pos hf, h.2.keep' (Rk_pos K) hf⟩
theorem QC.keep (h : QC r sh qs K u a b) (hf : Fr (fun k => k < u.heap.size) u u') : QC r sh qs K u' a b := fun e => (h e).keep hf
theorem TV.hold (h : TV sh es u a b) : Hold (fun u => TV sh es u a b) u := fun _ hu => h.keep hu
theorem TC.hold (h : TC r sh es u a b) : Hold (fun u => TC r sh es u a b) u := fun _ hu => h.keep hu
theorem QV.hold (h : QV sh qs K u a b) : Hold (fun u => QV sh qs K u a b) u := fun _ hu => h.keep hu
theorem QC.hold (h : QC r sh qs K u a b) : Hold (fun u => QC r sh qs K u a b) u := fun _ hu => h.keep hu
variable {g : Nat} {t : TypeId} {a1 a2 : Option Addr} {n1 c1 n2 c2 : Nat} (x y : Value)
theorem TV.fill (h : TV sh es u a b) (hb : Box2 u g t (.slice a1 n1 c1) (.slice a2 n2 c2)) : TV sh es ((u.setCell ⟨g, 0, none⟩ x).setCell ⟨g, 1, none⟩ y) a b :=
  ⟨((Im_notin2 h.1 hb).fr (fr_put2 u g x y)).any, ((Rm_notin2 h.2 hb).fr (fr_put2 u g x y)).any⟩
theorem TC.fill (h : TC r sh es u a b) (hb : Box2 u g t (.slice a1 n1 c1) (.slice a2 n2 c2)) : TC r sh es ((u.setCell ⟨g, 0, none⟩ x).setCell ⟨g, 1, none⟩ y) a b := ⟨h.1, fun e => (h.2 e).fill x y hb⟩
theorem QV.fill (h : QV sh qs K u a b) (hb : Box2 u g t (.slice a1 n1 c1) (.slice a2 n2 c2)) : QV sh qs K ((u.setCell ⟨g, 0, none⟩ x).setCell ⟨g, 1, none⟩ y) a b :=
  ⟨((Im_notin2 h.1 hb).fr (fr_put2 u g x y)).any, ((Rk_notin2 h.2 hb).fr (fr_put2 u g x y)).any⟩
theorem QC.fill (h : QC r sh qs K u a b) (hb : Box2 u g t (.slice a1 n1 c1) (.slice a2 n2 c2)) : QC r sh qs K ((u.setCell ⟨g, 0, none⟩ x).setCell ⟨g, 1, none⟩ y) a b := fun e => (h e).fill x y hb
theorem TV.form (h : TV sh es u a b) : (∃ A n c, a = .slice A n c) ∧ ∃ A n c, b = .slice A n c := ⟨h.1.form, h.2.form⟩
theorem TC.form (h : TC r sh es u a b) : (∃ A n c, a = .slice A n c) ∧ ∃ A n c, b = .slice A n c := by
  by_cases h0 : r = 0
  · exact (h.2 h0).form
  · exact ⟨⟨_, _, _, (h.1 h0).1⟩, ⟨_, _, _, (h.1 h0).2⟩⟩
theorem QV.form (h : QV sh qs K u a b) : (∃ A n c, a = .slice A n c) ∧ ∃ A n c, b = .slice A n c := ⟨h.1.form, h.2.form⟩
theorem TV.tc (h : TV sh es u a b) : TC 0 sh es u a b := ⟨fun h => absurd rfl h, fun _ => h⟩
theorem TC.tv (h : TC 0 sh es u a b) : TV sh es u a b := h.2 rfl
theorem QV.qc (h : QV sh qs K u a b) : QC r sh qs K u a b := fun _ => h
end
theorem Ret.eq {w u : World} {e : Ending} {x : Value} (he : e = .returned x) (hf : Fr (fun k => k < w.heap.size) w u) : Ret w (fun _ v => v = x) e u := ⟨_, he, hf, fun _ _ => rfl⟩

theorem lt_of_dg {N L : Nat} (h : (dg LB N).length ≤ L) : N < LB ^ L := by
  have := ofB_lt (dg_lt LB2 N)
  rw [ofB_dg LB2] at this
  exact Nat.lt_of_lt_of_le this (Nat.pow_le_pow_right LBpos h)
/-- bounds on a tensor's lists -/
structure Fit (sh : List Int) (es : List RatL) (L : Nat) : Prop where
  nsh : sh.length ≤ 1099511627000
  nes : es.length ≤ 1099511627000
  lx : ∀ x ∈ es, x.2.1.length ≤ L ∧ x.2.2.length ≤ L
  one : 1 ≤ L
  top : L ≤ 1048578
  lt : ∀ x ∈ es, (∀ d ∈ x.2.1, d < LB) ∧ ∀ d ∈ x.2.2, d < LB
theorem EachR.ret {w u : World} {sh : List Int} {es : List RatL} {r : Int} {e : Ending} (h : EachR w sh es r e u) : Ret w (Tup r (TC r sh es)) e u := by
  obtain ⟨A, i, j, B, k, l, rfl, h1, h2, hf⟩ := h
  exact ⟨_, rfl, hf, fun u' hu' => ⟨_, _, _, _, _, _, rfl, h1, fun e => ⟨((h2 e).1.sl.keep' Im_pos hu').any, ((h2 e).2.rm.sl.keep' Rm_pos hu').any⟩⟩⟩
theorem RefE.ret {w u : World} {sh : List Int} {qs : List Rat} {K : Nat} {r : Int} {e : Ending} (h : RefE w sh qs K r e u) : Ret w (Tup r (QC r sh qs K)) e u := by
  obtain ⟨A, i, j, B, k, l, rfl, h2, hf⟩ := h
  exact ⟨_, rfl, hf, fun u' hu' => ⟨_, _, _, _, _, _, rfl, fun e => ⟨(h2 e).1.keep' Im_pos hu', (h2 e).2.keep' (Rk_pos K) hu'⟩⟩⟩
theorem RefR.ret {w u : World} {sh : List Int} {qs : List Rat} {K : Nat} {e : Ending} (h : RefR w sh qs K e u) : Ret w (Agg (QV sh qs K)) e u := by
  obtain ⟨A, i, j, B, k, l, rfl, h1, h2, hf⟩ := h
  exact ⟨_, rfl, hf, fun u' hu' => ⟨_, _, _, _, _, _, rfl, h1.keep' Im_pos hu', h2.keep' (Rk_pos K) hu'⟩⟩

section
variable {w : World} {sha shb : List Int} {ea eb : List RatL} {qa qb : List Rat} {a b c d : Value} {L K : Nat} {r : Int}
theorem may_u (h : TV sha ea w a b) (f : Hid (Fit sha ea L)) (hr : Hid (mayT sha ea = r)) : Calls Tryz.prog 15 #[.agg #[a, b]] w (Ret w fun _ v => v = .int .i64 r) :=
  (rmay_h w a b sha ea L r hr h.1 h.2 f.out.lx f.out.one (by have := f.out.top; omega)).mono fun _ _ h => Ret.eq h.1 h.2
theorem of_u (h : TV sha ea w a b) (f : Hid (Fit sha ea L)) : Calls Tryz.prog 18 #[.agg #[a, b]] w (Ret w (Agg (QV sha (ea.map qOf) (3 * L)))) := by
  refine (tof_t w a b sha ea L h.1 h.2 f.out.nsh f.out.nes f.out.lx f.out.one (by have := f.out.top; omega)).mono ?_
  rintro e u ⟨v1, v2, rfl, h1, h2, hf⟩
  obtain ⟨A, n, c, rfl⟩ := h1.form
  obtain ⟨B, m, k, rfl⟩ := h2.form
  exact ⟨_, rfl, hf, fun u' hu' => ⟨_, _, _, _, _, _, rfl, (h1.sl.keep' Im_pos hu').any, (h2.sl.keep' (Rk_pos _) hu').any⟩⟩
theorem add_u (h : TV sha ea w a b) (g : TV shb eb w c d) (fa : Hid (Fit sha ea L)) (fb : Hid (Fit shb eb L)) (hr : Hid (bothE noR sha ea shb eb = r)) : Calls Tryz.prog 33 #[.agg #[a, b], .agg #[c, d]] w (Ret w (Tup r (TC r sha ((List.range ea.length).map (zipG addG ea eb))))) :=
  (padd_t w a b c d sha shb ea eb L r hr h.1 h.2 g.1 g.2 fa.out.lx fb.out.lx fa.out.one (by have := fa.out.top; omega) fa.out.nsh fa.out.nes).mono fun _ _ h => h.ret
theorem scale_u {y : RatL} {p q : Value} (h : TV sha ea w a b) (f : Hid (Fit sha ea L)) (hr : Hid (mayT sha ea = r)) (hp : Sl Lm (fun _ => True) w p y.2.1) (hq : Sl Lm (fun _ => True) w q y.2.2) (hy : Hid (y.2.1.length ≤ L ∧ y.2.2.length ≤ L)) : Calls Tryz.prog 49 #[.agg #[a, b], .agg #[.bool y.1, p, q]] w (Ret w (Tup r (TC r sha (ea.map fun x => canR (qOf x * qOf y))))) :=
  (pscale_t w a b p q sha ea y L r hr h.1 h.2 hp hq (Lib.hid f.out.lx) hy f.out.one (by have := f.out.top; omega) f.out.nsh f.out.nes).mono fun _ _ h => h.ret

theorem lb_db (n : Nat) {K : Nat} (h : (dg DB n).length ≤ K) : (dg LB n).length ≤ K := by
  have h1 : n < DB ^ K := by
    have := ofB_lt (dg_lt DB2 n)
    rw [ofB_dg DB2] at this
    exact Nat.lt_of_lt_of_le this (Nat.pow_le_pow_right (by decide) h)
  exact dg_len_le LB2 (Nat.lt_of_lt_of_le h1 (Nat.pow_le_pow_left (by decide) K))
theorem Rk_len {K : Nat} {S : Nat → Prop} {w : World} {v : Value} {qs : List Rat} (h : Sl (Rk K) S w v qs) : ∀ q ∈ qs, (dg LB q.num.natAbs).length ≤ K ∧ (dg LB q.den).length ≤ K := by
  intro q hq
  obtain ⟨A, c, rfl, _⟩ := h.slice
  obtain ⟨i, hi, rfl⟩ := List.mem_iff_getElem.1 hq
  obtain ⟨_, _, _, _, _, _, _, _, _, _, _, _, hr⟩ := Rk_get h hi
  exact ⟨lb_db _ hr.num.len, lb_db _ hr.den.len⟩
/-- bounds on a tensor's lists, as the document has it -/
structure FitQ (sh : List Int) (qs : List Rat) (K : Nat) : Prop where
  nsh : sh.length ≤ 1099511627000
  nqs : qs.length ≤ 1099511627000
  six : 6 ≤ K
  top : K ≤ 104857600
end
end Go.Proofs.YtlppcfeimpcbjaaGreat


/- The plain laws behind chapter 08's sums and products; law08's known. -/
namespace Go.Proofs.YtlppcfeimpcbjaaGreat
open Go.RowKit

theorem TL.fit {S : Nat → Prop} {w : World} {v : Value} {sh : List Int} {es : List RatL} {L : Nat} (h : TL S w v sh es L) (hL : L ≤ 1048576) : Fit sh es (L + 2) := by
  obtain ⟨vs, ve, rfl, h1, h2⟩ := h.ex
  have ls := h.ls
  have le := h.le
  exact ⟨by omega, by omega, fun x hx => by have := h.lx x hx; omega, by omega, by omega, Rm_lt h2⟩
theorem Fit.fq {sh : List Int} {es : List RatL} {L : Nat} (h : Fit sh es (L + 2)) : FitQ sh (es.map qOf) (3 * (L + 2)) :=
  ⟨h.nsh, by rw [List.length_map]; exact h.nes, by omega, by have := h.top; omega⟩
theorem bothE_r0 (er : RatL → RatL → Int) (sha : List Int) (ea : List RatL) (shb : List Int) (eb : List RatL) (h : (if mayT sha ea ≠ 0 then mayT sha ea else mayT shb eb) ≠ 0) : bothE er sha ea shb eb = if mayT sha ea ≠ 0 then mayT sha ea else mayT shb eb := by
  by_cases h1 : mayT sha ea ≠ 0
  · rw [if_pos h1]; exact bothE_a h1
  · rw [if_neg h1] at h ⊢
    exact bothE_b (by simpa using h1) h
theorem first_0 {r1 r2 : Int} (h : (if r1 ≠ 0 then r1 else r2) = 0) : r1 = 0 ∧ r2 = 0 := by
  by_cases h1 : r1 ≠ 0
  · rw [if_pos h1] at h; exact absurd h h1
  · rw [if_neg h1] at h; exact ⟨by simpa using h1, h⟩
theorem may_same {sh : List Int} {ea eb : List RatL} (h1 : mayT sh ea = 0) (h2 : mayT sh eb = 0) : ea.length = eb.length := by
  have := (mayT_ok h1).2.1
  have := (mayT_ok h2).2.1
  omega
theorem bothE_len {er : RatL → RatL → Int} {sha : List Int} {ea : List RatL} {shb : List Int} {eb : List RatL} (h : bothE er sha ea shb eb = 0) : ea.length = eb.length := by
  by_cases h1 : mayT sha ea = 0
  · by_cases h2 : mayT shb eb = 0
    · by_cases h3 : sha = shb
      · subst h3; exact may_same h1 h2
      · rw [bothE_13 h1 h2 h3] at h; cases h
    · rw [bothE_b h1 h2] at h; exact absurd h h2
  · rw [bothE_a h1] at h; exact absurd h h1
theorem bothE_no {sha : List Int} {ea : List RatL} {shb : List Int} {eb : List RatL} (h1 : mayT sha ea = 0) (h2 : mayT shb eb = 0) : (if sha = shb then (0 : Int) else 13) = bothE noR sha ea shb eb := by
  by_cases h3 : sha = shb
  · rw [if_pos h3, bothE_0 h1 h2 h3 fun _ _ => rfl]
  · rw [if_neg h3, bothE_13 h1 h2 h3]
theorem bothE_div {sha : List Int} {ea : List RatL} {shb : List Int} {eb : List RatL} (h1 : mayT sha ea = 0) (h2 : mayT shb eb = 0) : (if sha = shb then (if ∀ p ∈ eb.map qOf, p ≠ 0 then (0 : Int) else 17) else 13) = bothE divR sha ea shb eb := by
  by_cases h3 : sha = shb
  · rw [if_pos h3]
    subst h3
    have hl := may_same h1 h2
    have hd : (∀ i, i < ea.length → divR (ea.getD i zR) (eb.getD i zR) = 0) ↔ ∀ p ∈ eb.map qOf, p ≠ 0 := by
      constructor
      · intro h p hp h0
        obtain ⟨x, hx, rfl⟩ := List.mem_map.1 hp
        obtain ⟨i, hi, rfl⟩ := List.mem_iff_getElem.1 hx
        have := h i (by omega)
        rw [show eb.getD i zR = eb[i] by rw [List.getD_eq_getElem?_getD, List.getElem?_eq_getElem hi]; rfl] at this
        unfold divR at this
        rw [if_pos h0] at this
        cases this
      · intro h i hi
        have hi' : i < eb.length := by omega
        rw [show eb.getD i zR = eb[i] by rw [List.getD_eq_getElem?_getD, List.getElem?_eq_getElem hi']; rfl]
        exact if_neg (h _ (List.mem_map.2 ⟨_, List.getElem_mem hi', rfl⟩))
    by_cases h4 : ∀ p ∈ eb.map qOf, p ≠ 0
    · rw [if_pos h4, bothE_0 h1 h2 rfl (hd.2 h4)]
    · rw [if_neg h4, bothE_17 h1 h2 rfl fun h => h4 (hd.1 h)]
  · rw [if_neg h3, bothE_13 h1 h2 h3]
theorem zip_map (f : Rat → Rat → Rat) (g : RatL → RatL → RatL) (hg : ∀ x y, g x y = canR (f (qOf x) (qOf y))) : ∀ (ea eb : List RatL), ea.length = eb.length → (List.range ea.length).map (zipG g ea eb) = (List.zipWith f (ea.map qOf) (eb.map qOf)).map canR := by
  intro ea eb h
  apply List.ext_getElem
  · simp [h]
  · intro i h1 h2
    simp only [List.length_map, List.length_range] at h1
    have h3 : i < eb.length := by omega
    simp only [List.getElem_map, List.getElem_range, List.getElem_zipWith]
    unfold zipG
    rw [hg, show ea.getD i zR = ea[i] by rw [List.getD_eq_getElem?_getD, List.getElem?_eq_getElem h1]; rfl, show eb.getD i zR = eb[i] by rw [List.getD_eq_getElem?_getD, List.getElem?_eq_getElem h3]; rfl]
theorem zip_add (ea eb : List RatL) (h : ea.length = eb.length) : (List.range ea.length).map (zipG addG ea eb) = (List.zipWith (fun (x y : Rat) => x + y) (ea.map qOf) (eb.map qOf)).map canR := zip_map _ _ (fun _ _ => rfl) ea eb h
theorem zip_sub (ea eb : List RatL) (h : ea.length = eb.length) : (List.range ea.length).map (zipG subG ea eb) = (List.zipWith (fun (x y : Rat) => x + y) (ea.map qOf) ((eb.map qOf).map (fun q => -q))).map canR := by
  rw [zip_map (fun x y => x - y) subG (fun _ _ => rfl) ea eb h, List.map_map, List.zipWith_map_right, List.zipWith_map_right]
  simp only [Rat.sub_eq_add_neg, Function.comp_apply]
theorem zip_mul (ea eb : List RatL) (h : ea.length = eb.length) : (List.range ea.length).map (zipG mulG ea eb) = (List.zipWith (fun (x y : Rat) => x * y) (ea.map qOf) (eb.map qOf)).map canR := zip_map _ _ (fun _ _ => rfl) ea eb h
theorem zip_div (ea eb : List RatL) (h : ea.length = eb.length) : (List.range ea.length).map (zipG divG ea eb) = (List.zipWith (fun (x y : Rat) => x / y) (ea.map qOf) (eb.map qOf)).map canR := zip_map _ _ (fun _ _ => rfl) ea eb h
end Go.Proofs.YtlppcfeimpcbjaaGreat


/- law08's known: printed by gen_pty.py. -/
namespace Go.Proofs.YtlppcfeimpcbjaaGreat
open Go.RowKit

theorem ints_hold (u : World) (t : TypeId) (xs : List Int) (cells : List Value) (hc : cells = xs.map (fun x => .int .i64 x)) (hx : ∀ x ∈ xs, -9223372036854775808 ≤ x ∧ x < 9223372036854775808) (hl : xs.length ≤ 1099511627000) : Hold (fun u' => IntG xs u' (.slice (some ⟨u.heap.size, 0, none⟩) xs.length xs.length)) (u.alloc (.cells cells.toArray t)) :=
  fun _ hu => ⟨_, _, _, rfl, ((sl_ints xs cells hc hx hl (heap_alloc_new u _)).keep' Im_pos hu).any⟩
theorem back_u {w : World} {sh : List Int} {qs : List Rat} {K : Nat} {a b : Value} (h : QV sh qs K w a b) (f : FitQ sh qs K) : Calls Tryz.prog 38 #[.agg #[a, b]] w (Ret w (Agg (TV sh (qs.map canR)))) := by
  refine (tback_t w a b sh qs K h.1 h.2 f.nsh f.nqs (by have := f.top; omega) fun q hq => by have := Rk_len h.2 q hq; have := f.top; omega).mono ?_
  rintro e u ⟨v1, v2, rfl, h1, h2, hf⟩
  obtain ⟨A, n, c, rfl⟩ := h1.form
  obtain ⟨B, m, k, rfl⟩ := h2.form
  exact ⟨_, rfl, hf, fun u' hu' => ⟨_, _, _, _, _, _, rfl, (h1.sl.keep' Im_pos hu').any, (h2.sl.keep' Rm_pos hu').any⟩⟩

def kx : List Rat := ([2, -4, 0] : List Int).map fun z => fr z 2
def ky : List Rat := ([1, 4, 6] : List Int).map fun z => fr z 2
def kxe : List RatL := kx.map canR
def kye : List RatL := ky.map canR
theorem kx_eq : kx = [1, -2, 0] := by decide +kernel
theorem ky_eq : ky = [mkRat 1 2, 2, 3] := by decide +kernel
theorem kq_small {q : Rat} (h : q.num.natAbs < LB) (h2 : q.den < LB) : (canR q).2.1.length ≤ 2 ∧ (canR q).2.2.length ≤ 2 :=
  ⟨Nat.le_trans (dg_len_le LB2 (k := 1) (by simpa using h)) (by decide), Nat.le_trans (dg_len_le LB2 (k := 1) (by simpa using h2)) (by decide)⟩
theorem kfit {l : List Rat} (hl : l.length ≤ 3) (h : ∀ q ∈ l, q.num.natAbs < LB ∧ q.den < LB) : Fit [3] (l.map canR) 2 :=
  ⟨by decide, by rw [List.length_map]; omega, fun x hx => by obtain ⟨q, hq, rfl⟩ := List.mem_map.1 hx; exact kq_small (h q hq).1 (h q hq).2, by decide, by decide, fun x hx => by obtain ⟨q, hq, rfl⟩ := List.mem_map.1 hx; exact ⟨dg_lt LB2 _, dg_lt LB2 _⟩⟩
theorem kx_fit : Fit [3] kxe 2 := kfit (by rw [kx_eq]; decide) (by rw [kx_eq]; decide)
theorem ky_fit : Fit [3] kye 2 := kfit (by rw [ky_eq]; decide) (by rw [ky_eq]; decide +kernel)
theorem k_may {l : List Rat} (h : l.length = 3) : mayT [3] (l.map canR) = 0 := mayT_0 (by rw [List.length_map, h]; decide) fun x hx => by
  obtain ⟨q, _, rfl⟩ := List.mem_map.1 hx
  exact like_can _
theorem kx_may : mayT [3] kxe = 0 := k_may (by rw [kx_eq]; rfl)
theorem ky_may : mayT [3] kye = 0 := k_may (by rw [ky_eq]; rfl)
theorem k_q (l : List Rat) : (l.map canR).map qOf = l := by
  rw [List.map_map]
  exact (List.map_congr_left fun q _ => qOf_can q).trans (List.map_id l)
theorem k_len : kxe.length = kye.length := by unfold kxe kye; rw [kx_eq, ky_eq]; rfl
theorem k_add : (List.range kxe.length).map (zipG addG kxe kye) = (([3, 0, 6] : List Int).map fun z => fr z 2).map canR := by
  rw [zip_add kxe kye k_len]
  unfold kxe kye
  rw [k_q, k_q]
  exact congrArg (List.map canR) (by decide +kernel)
theorem k_div : (List.range kxe.length).map (zipG divG kxe kye) = (([4, -2, 0] : List Int).map fun z => fr z 2).map canR := by
  rw [zip_div kxe kye k_len]
  unfold kxe kye
  rw [k_q, k_q]
  exact congrArg (List.map canR) (by decide +kernel)
theorem k_relu : (kxe.map fun x => canR (if (qOf x).num.sign < 0 then 0 else qOf x)) = (([2, 0, 0] : List Int).map fun z => fr z 2).map canR := by
  have : (kxe.map fun x => canR (if (qOf x).num.sign < 0 then 0 else qOf x)) = ((kxe.map qOf).map fun q => if q.num.sign < 0 then 0 else q).map canR := by rw [List.map_map, List.map_map]; rfl
  rw [this]
  unfold kxe
  rw [k_q]
  exact congrArg (List.map canR) (by decide +kernel)
theorem k_step : (kxe.map fun x => canR ((max (qOf x).num.sign 0 : Int) : Rat)) = (([2, 0, 0] : List Int).map fun z => fr z 2).map canR := by
  have : (kxe.map fun x => canR ((max (qOf x).num.sign 0 : Int) : Rat)) = ((kxe.map qOf).map fun q => ((max q.num.sign 0 : Int) : Rat)).map canR := by rw [List.map_map, List.map_map]; rfl
  rw [this]
  unfold kxe
  rw [k_q]
  exact congrArg (List.map canR) (by decide +kernel)
theorem k_pow : (kxe.map fun x => canR (qOf x ^ (2 : Int).toNat)) = (([2, 8, 0] : List Int).map fun z => fr z 2).map canR := by
  have : (kxe.map fun x => canR (qOf x ^ (2 : Int).toNat)) = ((kxe.map qOf).map fun q => q ^ 2).map canR := by rw [List.map_map, List.map_map]; rfl
  rw [this]
  unfold kxe
  rw [k_q]
  exact congrArg (List.map canR) (by decide +kernel)
theorem k_noR : bothE noR [3] kxe [3] kye = 0 := bothE_0 kx_may ky_may rfl fun _ _ => rfl
theorem k_divR : bothE divR [3] kxe [3] kye = 0 := by
  rw [← bothE_div kx_may ky_may, if_pos rfl, if_pos]
  unfold kye
  rw [k_q, ky_eq]
  decide +kernel
theorem k_divR' : bothE divR [3] kye [3] kxe = 17 := by
  rw [← bothE_div ky_may kx_may, if_pos rfl, if_neg]
  unfold kxe
  rw [k_q, kx_eq]
  decide +kernel
theorem k_powE : powE [3] kxe 2 = 0 := by unfold powE; rw [kx_may]; rfl
theorem k_fitq {l : List Rat} (h : l.length = 3) : FitQ [3] l 6 := ⟨by decide, by omega, by decide, by decide⟩

end Go.Proofs.YtlppcfeimpcbjaaGreat
