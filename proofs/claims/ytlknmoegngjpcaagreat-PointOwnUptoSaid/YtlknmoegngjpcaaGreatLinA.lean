import Derived.Test.YtlknmoegngjpcaaGreatTenX
import Derived.Test.YtlknmoegngjpcaaGreatTenQT
set_option linter.unusedSimpArgs false
set_option linter.unusedVariables false

/- TensorLinear: the plain law. -/
namespace Go.Proofs.YtlknmoegngjpcaaGreat
open Go.RowKit

theorem mk_len {q : Rat} {z : Int} {P K : Nat} (hP : 0 < P) (e : q = mkRat z P) (hz : z.natAbs < LB ^ K) (hp : P < LB ^ K) : (dg LB q.num.natAbs).length ≤ K ∧ (dg LB q.den).length ≤ K := by
  have hden : q.den ≤ P := by
    rw [e, Rat.den_mkRat, if_neg (by omega)]
    exact Nat.div_le_self _ _
  have hnum : q.num.natAbs ≤ z.natAbs := by
    rw [e, Rat.num_mkRat, if_neg (by omega)]
    exact Int.natAbs_ediv_le_natAbs _ _
  exact ⟨dg_len_le LB2 (Nat.lt_of_le_of_lt hnum hz), dg_len_le LB2 (Nat.lt_of_le_of_lt hden hp)⟩
theorem fold_mk {α : Type} (f : α → Rat) (P B : Nat) (hP : 0 < P) (h : ∀ i, ∃ z : Int, f i = mkRat z P ∧ z.natAbs ≤ B) (pre : List α) : ∀ z0 : Int, ∃ z : Int, pre.foldl (fun s i => s + f i) (mkRat z0 P) = mkRat z P ∧ z.natAbs ≤ z0.natAbs + pre.length * B := by
  induction pre with
  | nil => exact fun z0 => ⟨z0, rfl, by simp⟩
  | cons x pre ih =>
    intro z0
    obtain ⟨y, h1, h2⟩ := h x
    obtain ⟨z, h3, h4⟩ := ih (z0 + y)
    refine ⟨z, ?_, ?_⟩
    · rw [List.foldl_cons, h1, mk_add hP]
      exact h3
    · have h5 := Int.natAbs_add_le z0 y
      rw [List.length_cons, Nat.succ_mul]
      omega
theorem scaled (l : List RatL) (i : Nat) : ∃ z : Int, qOf (l.getD i zR) = mkRat z (dprod l) ∧ (Ok l → z.natAbs ≤ LB ^ limbsN l * dprod l) := by
  obtain ⟨k, h⟩ := dd_dvd' l i
  have hp := dprod_pos l
  have hk : k ≠ 0 := by
    rintro rfl
    rw [Nat.mul_zero] at h
    omega
  refine ⟨nn (l.getD i zR) * (k : Nat), ?_, fun o => ?_⟩
  · rw [q_mk, h, Rat.mkRat_mul_right hk]
  · rw [Int.natAbs_mul, Int.natAbs_natCast]
    exact Nat.mul_le_mul (num_le o i) (by rw [h]; exact Nat.le_mul_of_pos_left _ (dd_pos _))
/-- The elements of a tensor times a number, and another one. -/
def mixQ (ea eb : List RatL) (k : Rat) (i : Nat) : Rat := qOf (ea.getD i zR) + k * qOf (eb.getD i zR)
def mixE (ea eb : List RatL) (k : Rat) (n : Nat) : List RatL := (List.range n).map fun i => canR (mixQ ea eb k i)
theorem mixE_len (ea eb : List RatL) (k : Rat) (n : Nat) : (mixE ea eb k n).length = n := by rw [mixE, List.length_map, List.length_range]
theorem mixE_step (ea eb : List RatL) (k : Rat) (n : Nat) : mixE ea eb k (n + 1) = mixE ea eb k n ++ [canR (mixQ ea eb k n)] := by rw [mixE, List.range_succ, List.map_append]; rfl
theorem mixE_get (ea eb : List RatL) (k : Rat) {n i : Nat} (h : i < n) : qOf ((mixE ea eb k n).getD i zR) = mixQ ea eb k i := by
  rw [mixE, List.getD_eq_getElem?_getD, List.getElem?_map, List.getElem?_range h]
  exact qOf_can _
theorem mixE_may {sh : List Int} {ea eb : List RatL} {k : Rat} (h : mayT sh ea = 0) : mayT sh (mixE ea eb k ea.length) = 0 := by
  obtain ⟨h1, h2, _⟩ := mayT_ok h
  refine mayT_0 (fitsT_0 h1 (by rw [mixE_len]; exact h2)) fun x hx => ?_
  obtain ⟨i, _, rfl⟩ := List.mem_map.1 hx
  exact like_can _
theorem mix_mk (ea eb : List RatL) (k : RatL) (i : Nat) : ∃ z : Int, mixQ ea eb (qOf k) i = mkRat z (dprod ea * (dd k * dprod eb)) ∧ (Ok ea → Ok eb → (∀ d ∈ k.2.1, d < LB) → z.natAbs ≤ 2 * (LB ^ (limbsN ea + k.2.1.length + limbsN eb) * (dprod ea * (dd k * dprod eb)))) := by
  obtain ⟨za, h1, h2⟩ := scaled ea i
  obtain ⟨zb, h3, h4⟩ := scaled eb i
  have pa := dprod_pos ea
  have pb := dprod_pos eb
  have pk := dd_pos k
  have hkb : dd k * dprod eb ≠ 0 := by have := Nat.mul_pos pk pb; omega
  refine ⟨za * ((dd k * dprod eb : Nat) : Int) + nn k * zb * ((dprod ea : Nat) : Int), ?_, fun oa ob ok => ?_⟩
  · rw [mixQ, h1, h3, q_mk k, Rat.mkRat_mul_mkRat, Rat.mkRat_add_mkRat _ _ (by omega) hkb]
  · have a1 := h2 oa
    have a2 := h4 ob
    have a3 : (nn k).natAbs ≤ LB ^ k.2.1.length := Nat.le_trans (nn_le k) (Nat.le_of_lt (ofB_lt ok))
    have e1 := Int.natAbs_add_le (za * ((dd k * dprod eb : Nat) : Int)) (nn k * zb * ((dprod ea : Nat) : Int))
    rw [Int.natAbs_mul, Int.natAbs_natCast, Int.natAbs_mul (nn k * zb), Int.natAbs_natCast, Int.natAbs_mul] at e1
    have p1 := Nat.pow_pos (n := k.2.1.length) LBpos
    have p2 := Nat.pow_pos (n := limbsN ea) LBpos
    have p3 := Nat.pow_pos (n := limbsN eb) LBpos
    have b1 : za.natAbs * (dd k * dprod eb) ≤ LB ^ (limbsN ea + k.2.1.length + limbsN eb) * (dprod ea * (dd k * dprod eb)) := by
      have : za.natAbs ≤ LB ^ (limbsN ea + k.2.1.length + limbsN eb) * dprod ea := by
        refine Nat.le_trans a1 (Nat.mul_le_mul_right _ (Nat.pow_le_pow_right LBpos (by omega)))
      have h6 := Nat.mul_le_mul_right (dd k * dprod eb) this
      rwa [Nat.mul_assoc (LB ^ _)] at h6
    have b2 : (nn k).natAbs * zb.natAbs * dprod ea ≤ LB ^ (limbsN ea + k.2.1.length + limbsN eb) * (dprod ea * (dd k * dprod eb)) := by
      have h5 : (nn k).natAbs * zb.natAbs ≤ LB ^ (limbsN ea + k.2.1.length + limbsN eb) * (dd k * dprod eb) := by
        have h6 := Nat.mul_le_mul a3 a2
        refine Nat.le_trans h6 ?_
        rw [← Nat.mul_assoc, ← Nat.pow_add]
        refine Nat.mul_le_mul (Nat.pow_le_pow_right LBpos (by omega)) ?_
        exact Nat.le_mul_of_pos_left _ pk
      have := Nat.mul_le_mul_right (dprod ea) h5
      rwa [Nat.mul_assoc (LB ^ _), Nat.mul_comm (dd k * dprod eb)] at this
    omega
theorem dd_le {k : RatL} (h : ∀ d ∈ k.2.2, d < LB) : dd k ≤ LB ^ k.2.2.length := by
  have := ofB_lt h
  have hp := Nat.pow_pos (n := k.2.2.length) LBpos
  unfold dd
  split
  · omega
  · exact Nat.le_of_lt this
theorem mix_len (ea eb : List RatL) (k : RatL) (oa : Ok ea) (ob : Ok eb) (ok : (∀ d ∈ k.2.1, d < LB) ∧ ∀ d ∈ k.2.2, d < LB) (K : Nat) (hK : limbsN ea + k.2.1.length + limbsN eb + (limbsD ea + (k.2.2.length + limbsD eb)) + 1 ≤ K) (i : Nat) :
    (dg LB (mixQ ea eb (qOf k) i).num.natAbs).length ≤ K ∧ (dg LB (mixQ ea eb (qOf k) i).den).length ≤ K := by
  obtain ⟨z, h1, h2⟩ := mix_mk ea eb k i
  have hz := h2 oa ob ok.1
  have hP : 0 < dprod ea * (dd k * dprod eb) := Nat.mul_pos (dprod_pos ea) (Nat.mul_pos (dd_pos k) (dprod_pos eb))
  have hle : dprod ea * (dd k * dprod eb) ≤ LB ^ (limbsD ea + (k.2.2.length + limbsD eb)) := by
    rw [Nat.pow_add, Nat.pow_add]
    exact Nat.mul_le_mul (dprod_le oa) (Nat.mul_le_mul (dd_le ok.2) (dprod_le ob))
  have h3 := Nat.mul_le_mul (Nat.le_refl (LB ^ (limbsN ea + k.2.1.length + limbsN eb))) hle
  rw [← Nat.pow_add] at h3
  have h4 : 2 * LB ^ (limbsN ea + k.2.1.length + limbsN eb + (limbsD ea + (k.2.2.length + limbsD eb))) < LB ^ K := by
    refine Nat.lt_of_lt_of_le ?_ (Nat.pow_le_pow_right LBpos hK)
    rw [Nat.pow_succ, Nat.mul_comm]
    exact Nat.mul_lt_mul_of_pos_left (by decide) (Nat.pow_pos LBpos)
  refine mk_len hP h1 (by omega) (Nat.lt_of_le_of_lt hle (Nat.pow_lt_pow_right (by decide) (by omega)))
theorem mixdot_len (ea eb ec : List RatL) (k : RatL) (oa : Ok ea) (ob : Ok eb) (oc : Ok ec) (ok : (∀ d ∈ k.2.1, d < LB) ∧ ∀ d ∈ k.2.2, d < LB) (n : Nat) (hn : n ≤ 1048576) (K : Nat)
    (hK : limbsN ea + k.2.1.length + limbsN eb + limbsN ec + (limbsD ea + (k.2.2.length + limbsD eb) + limbsD ec) + 1 ≤ K) (pre : List (Fin (mixE ea eb (qOf k) n).length)) (hp : pre.length ≤ (mixE ea eb (qOf k) n).length) :
    (dg LB (dotQ (mixE ea eb (qOf k) n) ec pre).num.natAbs).length ≤ K ∧ (dg LB (dotQ (mixE ea eb (qOf k) n) ec pre).den).length ≤ K := by
  have hP : 0 < dprod ea * (dd k * dprod eb) * dprod ec := Nat.mul_pos (Nat.mul_pos (dprod_pos ea) (Nat.mul_pos (dd_pos k) (dprod_pos eb))) (dprod_pos ec)
  have hle : dprod ea * (dd k * dprod eb) * dprod ec ≤ LB ^ (limbsD ea + (k.2.2.length + limbsD eb) + limbsD ec) := by
    rw [Nat.pow_add, Nat.pow_add, Nat.pow_add]
    exact Nat.mul_le_mul (Nat.mul_le_mul (dprod_le oa) (Nat.mul_le_mul (dd_le ok.2) (dprod_le ob))) (dprod_le oc)
  obtain ⟨z, h1, h2⟩ := fold_mk (fun i : Fin (mixE ea eb (qOf k) n).length => qOf ((mixE ea eb (qOf k) n).getD i.val zR) * qOf (ec.getD i.val zR)) (dprod ea * (dd k * dprod eb) * dprod ec) (2 * (LB ^ (limbsN ea + k.2.1.length + limbsN eb) * (dprod ea * (dd k * dprod eb))) * (LB ^ limbsN ec * dprod ec)) hP (fun i => by
    obtain ⟨zm, h1, h2⟩ := mix_mk ea eb k i.val
    obtain ⟨zc, h3, h4⟩ := scaled ec i.val
    refine ⟨zm * zc, ?_, ?_⟩
    · show qOf ((mixE ea eb (qOf k) n).getD i.val zR) * qOf (ec.getD i.val zR) = _
      rw [mixE_get _ _ _ (Nat.lt_of_lt_of_eq i.isLt (mixE_len _ _ _ _)), h1, h3, Rat.mkRat_mul_mkRat]
    · rw [Int.natAbs_mul]
      exact Nat.mul_le_mul (h2 oa ob ok.1) (h4 oc)) pre 0
  have e : dotQ (mixE ea eb (qOf k) n) ec pre = mkRat z (dprod ea * (dd k * dprod eb) * dprod ec) := by
    rw [← h1, Rat.zero_mkRat]
    rfl
  replace hp : pre.length ≤ n := Nat.le_trans hp (Nat.le_of_eq (mixE_len _ _ _ _))
  have h3 : 2 * (LB ^ (limbsN ea + k.2.1.length + limbsN eb) * (dprod ea * (dd k * dprod eb))) * (LB ^ limbsN ec * dprod ec) ≤ 2 * LB ^ (limbsN ea + k.2.1.length + limbsN eb + limbsN ec + (limbsD ea + (k.2.2.length + limbsD eb) + limbsD ec)) := by
    have h5 := Nat.mul_le_mul (Nat.le_refl (LB ^ (limbsN ea + k.2.1.length + limbsN eb) * LB ^ limbsN ec)) hle
    rw [← Nat.pow_add, ← Nat.pow_add] at h5
    have h6 : 2 * (LB ^ (limbsN ea + k.2.1.length + limbsN eb) * (dprod ea * (dd k * dprod eb))) * (LB ^ limbsN ec * dprod ec) = 2 * (LB ^ (limbsN ea + k.2.1.length + limbsN eb + limbsN ec) * (dprod ea * (dd k * dprod eb) * dprod ec)) := by
      rw [Nat.pow_add (m := limbsN ea + k.2.1.length + limbsN eb)]
      simp only [Nat.mul_assoc, Nat.mul_left_comm, Nat.mul_comm]
    rw [h6]
    exact Nat.mul_le_mul_left _ h5
  have h4 : pre.length * (2 * LB ^ (limbsN ea + k.2.1.length + limbsN eb + limbsN ec + (limbsD ea + (k.2.2.length + limbsD eb) + limbsD ec))) < LB ^ K := by
    refine Nat.lt_of_lt_of_le ?_ (Nat.pow_le_pow_right LBpos hK)
    rw [Nat.pow_succ, ← Nat.mul_assoc, Nat.mul_comm (_ ^ _) LB]
    refine Nat.mul_lt_mul_of_pos_right ?_ (Nat.pow_pos LBpos)
    have : LB = 4294967296 := rfl
    omega
  have h5 := Nat.mul_le_mul_left pre.length h3
  simp only [Int.natAbs_zero, Nat.zero_add] at h2
  exact mk_len hP e (by omega) (Nat.lt_of_le_of_lt hle (Nat.pow_lt_pow_right (by decide) (by omega)))
/-- A sum of products, up to a place. -/
def sumT (ea eb : List RatL) : Nat → Rat
  | 0 => 0
  | j + 1 => sumT ea eb j + qOf (ea.getD j zR) * qOf (eb.getD j zR)
theorem sumT_dot (ea eb : List RatL) : ∀ j, j ≤ ea.length → sumT ea eb j = dotQ ea eb ((List.finRange ea.length).take j)
  | 0, _ => rfl
  | j + 1, h => by
    have hl : j < (List.finRange ea.length).length := by rw [List.length_finRange]; exact h
    rw [sumT, sumT_dot ea eb j (by omega), List.take_succ_eq_append_getElem hl, dotQ_step, List.getElem_finRange]
    rfl
theorem dotT_sum (ea eb : List RatL) : dotT ea eb = sumT ea eb ea.length := by
  rw [sumT_dot ea eb _ (Nat.le_refl _), List.take_of_length_le (by rw [List.length_finRange]; exact Nat.le_refl _)]
  rfl
theorem sumT_comm (ea eb : List RatL) : ∀ j, sumT ea eb j = sumT eb ea j
  | 0 => rfl
  | j + 1 => by rw [sumT, sumT, sumT_comm ea eb j, Rat.mul_comm (qOf (ea.getD j zR))]
theorem dot_comm {ea eb : List RatL} (h : ea.length = eb.length) : dotT ea eb = dotT eb ea := by rw [dotT_sum, dotT_sum, sumT_comm, h]
theorem sumT_mix (ea eb ec : List RatL) (k : Rat) (n : Nat) : ∀ j, j ≤ n → sumT (mixE ea eb k n) ec j = sumT ea ec j + k * sumT eb ec j
  | 0, _ => by simp only [sumT, Rat.mul_zero, Rat.add_zero]
  | j + 1, h => by
    rw [sumT, sumT, sumT, sumT_mix ea eb ec k n j (by omega), mixE_get _ _ _ (by omega), mixQ, Rat.add_mul, Rat.mul_add, Rat.mul_assoc]
    simp only [Rat.add_assoc, Rat.add_comm, Rat.add_left_comm]
theorem dot_mix {ea eb ec : List RatL} (k : Rat) (h : ea.length = eb.length) : dotT (mixE ea eb k ea.length) ec = dotT ea ec + k * dotT eb ec := by
  rw [dotT_sum, dotT_sum, dotT_sum, mixE_len, sumT_mix _ _ _ _ _ _ (Nat.le_refl _), h]
theorem sq_pos (q : Rat) : 0 ≤ q * q := by
  rcases @Rat.le_total 0 q with h | h
  · exact Rat.mul_nonneg h h
  · have h1 : 0 ≤ -q := by have := Rat.neg_le_neg h; simpa using this
    have := Rat.mul_nonneg h1 h1
    rwa [Rat.neg_mul, Rat.mul_neg, Rat.neg_neg] at this
theorem sumT_pos (ea : List RatL) : ∀ j, 0 ≤ sumT ea ea j
  | 0 => Rat.le_refl
  | j + 1 => Rat.add_nonneg (sumT_pos ea j) (sq_pos _)
theorem add_eq0 {x y : Rat} (hx : 0 ≤ x) (hy : 0 ≤ y) (h : x + y = 0) : x = 0 ∧ y = 0 := by
  have h1 : x = -y := by rw [← Rat.add_zero (-y), ← h, Rat.add_comm x y, ← Rat.add_assoc, Rat.neg_add_cancel, Rat.zero_add]
  have h2 : x ≤ 0 := by rw [h1]; have := Rat.neg_le_neg hy; simpa using this
  have h3 : x = 0 := Rat.le_antisymm h2 hx
  exact ⟨h3, by rw [h3, Rat.zero_add] at h; exact h⟩
theorem sumT_zero (ea : List RatL) : ∀ j, sumT ea ea j = 0 ↔ ∀ i, i < j → qOf (ea.getD i zR) = 0
  | 0 => ⟨fun _ i hi => absurd hi (Nat.not_lt_zero i), fun _ => rfl⟩
  | j + 1 => by
    constructor
    · intro h i hi
      obtain ⟨h1, h2⟩ := add_eq0 (sumT_pos ea j) (sq_pos _) h
      rcases Nat.lt_or_ge i j with h3 | h3
      · exact (sumT_zero ea j).1 h1 i h3
      · obtain rfl : i = j := by omega
        rcases Rat.mul_eq_zero.1 h2 with h | h <;> exact h
    · intro h
      rw [sumT, (sumT_zero ea j).2 fun i hi => h i (by omega), h j (by omega), Rat.mul_zero, Rat.add_zero]
/-- Are all of the first ones noughts? -/
def nought (ea : List RatL) (j : Nat) : Bool := (ea.take j).all fun x => (x.2.1.length : Int) == 0
theorem nought_step {ea : List RatL} {j : Nat} {y : RatL} (h : ea.take (j + 1) = ea.take j ++ [y]) : nought ea (j + 1) = (nought ea j && ((y.2.1.length : Int) == 0)) := by
  unfold nought
  rw [h, List.all_append, List.all_cons, List.all_nil, Bool.and_true]
theorem like_zero {x : RatL} (h : LikeR x) : ((x.2.1.length : Int) == 0) = decide (qOf x = 0) := by
  obtain ⟨_, h2, _⟩ := h
  rw [h2]
  by_cases h0 : qOf x = 0
  · rw [decide_eq_true h0, h0, show (0 : Rat).num.natAbs = 0 from rfl, dg_zero]
    rfl
  · rw [decide_eq_false h0]
    have := (dg_len_pos LB2 (n := (qOf x).num.natAbs)).2 (by
      have : (qOf x).num ≠ 0 := fun e => h0 (Rat.num_eq_zero.1 e)
      omega)
    exact beq_eq_false_iff_ne.2 (by omega)
theorem nought_dot {ea : List RatL} (h : ∀ x ∈ ea, LikeR x) : nought ea ea.length = ((dotT ea ea).num.sign == 0) := by
  have h1 : nought ea ea.length = decide (dotT ea ea = 0) := by
    rw [Bool.eq_iff_iff, decide_eq_true_iff, dotT_sum, sumT_zero]
    unfold nought
    rw [List.take_length, List.all_eq_true]
    constructor
    · intro h2 i hi
      have hm := getD_mem hi
      have := h2 _ hm
      rw [like_zero (h _ hm)] at this
      exact of_decide_eq_true this
    · intro h2 x hx
      rw [like_zero (h x hx)]
      obtain ⟨i, hi, rfl⟩ := List.mem_iff_getElem.1 hx
      have := h2 i hi
      rw [List.getD_eq_getElem?_getD, List.getElem?_eq_getElem hi] at this
      exact decide_eq_true this
  rw [h1]
  by_cases h0 : dotT ea ea = 0
  · rw [decide_eq_true h0, h0]; rfl
  · rw [decide_eq_false h0]
    exact (beq_eq_false_iff_ne.2 fun e => h0 (Rat.num_eq_zero.1 (Int.sign_eq_zero_iff_zero.1 e))).symm
theorem dot_sign (ea : List RatL) : (dotT ea ea).num.sign = 0 ∨ (dotT ea ea).num.sign = 1 := by
  have h : 0 ≤ (dotT ea ea).num := Rat.num_nonneg.2 (by rw [dotT_sum]; exact sumT_pos ea _)
  rcases Int.lt_or_eq_of_le h with h | h
  · exact .inr (Int.sign_eq_one_of_pos h)
  · exact .inl (by rw [← h]; rfl)
end Go.Proofs.YtlknmoegngjpcaaGreat
