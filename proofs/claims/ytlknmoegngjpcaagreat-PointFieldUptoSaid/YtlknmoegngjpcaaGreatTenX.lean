import Derived.Test.YtlknmoegngjpcaaGreatTenW
set_option linter.unusedSimpArgs false
set_option linter.unusedVariables false

/- How long a sum of products may be: its denominator divides the product of all. -/
namespace Go.Proofs.YtlknmoegngjpcaaGreat
open Go.RowKit

/-- A rational's numerator and denominator, as they lie there. -/
def dd (x : RatL) : Nat := if val x.2.2 = 0 then 1 else val x.2.2
def nn (x : RatL) : Int := if val x.2.2 = 0 then 0 else sgn x.1 (val x.2.1)
theorem dd_pos (x : RatL) : 0 < dd x := by unfold dd; split <;> omega
theorem q_mk (x : RatL) : qOf x = mkRat (nn x) (dd x) := by
  unfold qOf rv nn dd
  split
  · rename_i h; rw [h]; simp
  · rfl
theorem nn_le (x : RatL) : (nn x).natAbs ≤ val x.2.1 := by
  unfold nn
  split
  · simp
  · unfold sgn; split <;> simp
/-- The product of all denominators. -/
def dprod : List RatL → Nat
  | [] => 1
  | x :: l => dd x * dprod l
theorem dprod_pos (l : List RatL) : 0 < dprod l := by
  induction l with
  | nil => decide
  | cons x l ih => exact Nat.mul_pos (dd_pos x) ih
theorem dd_dvd {l : List RatL} {x : RatL} (h : x ∈ l) : dd x ∣ dprod l := by
  induction l with
  | nil => cases h
  | cons y l ih =>
    rcases List.mem_cons.1 h with rfl | h
    · exact Nat.dvd_mul_right _ _
    · exact Nat.dvd_trans (ih h) (Nat.dvd_mul_left _ _)
theorem dd_dvd' (l : List RatL) (i : Nat) : dd (l.getD i zR) ∣ dprod l := by
  by_cases h : i < l.length
  · exact dd_dvd (getD_mem h)
  · rw [List.getD_eq_getElem?_getD, List.getElem?_eq_none (Nat.le_of_not_lt h)]
    exact ⟨dprod l, by simp [dd, zR, val, ofB]⟩
def Ok (l : List RatL) : Prop := ∀ x ∈ l, (∀ d ∈ x.2.1, d < LB) ∧ ∀ d ∈ x.2.2, d < LB
theorem dprod_le {l : List RatL} (h : Ok l) : dprod l ≤ LB ^ limbsD l := by
  induction l with
  | nil => simp [dprod, limbsD]
  | cons x l ih =>
    have h1 := ih fun y hy => h y (List.mem_cons_of_mem _ hy)
    have h2 : dd x ≤ LB ^ x.2.2.length := by
      have := ofB_lt (h x List.mem_cons_self).2
      have hp := Nat.pow_pos (n := x.2.2.length) LBpos
      unfold dd
      split
      · omega
      · exact Nat.le_of_lt this
    have := Nat.mul_le_mul h2 h1
    rw [← Nat.pow_add] at this
    simpa [dprod, limbsD] using this
theorem num_le {l : List RatL} (h : Ok l) (i : Nat) : (nn (l.getD i zR)).natAbs ≤ LB ^ limbsN l := by
  by_cases hi : i < l.length
  · have hm := getD_mem hi
    refine Nat.le_trans (nn_le _) (Nat.le_trans (Nat.le_of_lt (ofB_lt (h _ hm).1)) (Nat.pow_le_pow_right LBpos ?_))
    have : ∀ (l : List RatL) (x : RatL), x ∈ l → x.2.1.length ≤ limbsN l := fun l x hx => by
      induction l with
      | nil => cases hx
      | cons y l ih =>
        simp only [limbsN, List.map_cons, List.sum_cons]
        rcases List.mem_cons.1 hx with rfl | hx
        · omega
        · have := ih hx
          simp only [limbsN] at this
          omega
    exact this l _ hm
  · rw [List.getD_eq_getElem?_getD, List.getElem?_eq_none (Nat.le_of_not_lt hi)]
    have : nn zR = 0 := by simp [nn, zR, val, ofB]
    simp only [Option.getD_none, this]
    exact Nat.zero_le _
theorem mk_add {z y : Int} {P : Nat} (hP : 0 < P) : mkRat z P + mkRat y P = mkRat (z + y) P := by
  have h : P ≠ 0 := by omega
  rw [Rat.mkRat_add_mkRat _ _ h h, ← Int.add_mul, Rat.mkRat_mul_right h]
theorem term_mk (ea eb : List RatL) (i : Nat) : ∃ z : Int, qOf (ea.getD i zR) * qOf (eb.getD i zR) = mkRat z (dprod ea * dprod eb) ∧ (Ok ea → Ok eb → z.natAbs ≤ LB ^ limbsN ea * LB ^ limbsN eb * (dprod ea * dprod eb)) := by
  obtain ⟨k1, h1⟩ := dd_dvd' ea i
  obtain ⟨k2, h2⟩ := dd_dvd' eb i
  have hp1 := dprod_pos ea
  have hp2 := dprod_pos eb
  have hk : k1 * k2 ≠ 0 := by
    intro h
    rcases Nat.mul_eq_zero.1 h with h | h
    · rw [h, Nat.mul_zero] at h1; omega
    · rw [h, Nat.mul_zero] at h2; omega
  refine ⟨nn (ea.getD i zR) * nn (eb.getD i zR) * ((k1 * k2 : Nat) : Int), ?_, fun oa ob => ?_⟩
  · rw [q_mk, q_mk, Rat.mkRat_mul_mkRat, show dprod ea * dprod eb = dd (ea.getD i zR) * dd (eb.getD i zR) * (k1 * k2) by rw [h1, h2]; simp [Nat.mul_assoc, Nat.mul_left_comm, Nat.mul_comm], Rat.mkRat_mul_right hk]
  · rw [Int.natAbs_mul, Int.natAbs_mul, Int.natAbs_natCast]
    refine Nat.mul_le_mul (Nat.mul_le_mul (num_le oa i) (num_le ob i)) ?_
    have a1 : k1 ≤ dprod ea := by rw [h1]; exact Nat.le_mul_of_pos_left _ (dd_pos _)
    have a2 : k2 ≤ dprod eb := by rw [h2]; exact Nat.le_mul_of_pos_left _ (dd_pos _)
    exact Nat.mul_le_mul a1 a2
theorem sum_mk (ea eb : List RatL) (oa : Ok ea) (ob : Ok eb) (pre : List (Fin ea.length)) : ∀ z0 : Int, ∃ z : Int, pre.foldl (fun s i => s + qOf (ea.getD i.val zR) * qOf (eb.getD i.val zR)) (mkRat z0 (dprod ea * dprod eb)) = mkRat z (dprod ea * dprod eb) ∧ z.natAbs ≤ z0.natAbs + pre.length * (LB ^ limbsN ea * LB ^ limbsN eb * (dprod ea * dprod eb)) := by
  induction pre with
  | nil => exact fun z0 => ⟨z0, rfl, by simp⟩
  | cons x pre ih =>
    intro z0
    obtain ⟨y, h1, h2⟩ := term_mk ea eb x.val
    obtain ⟨z, h3, h4⟩ := ih (z0 + y)
    refine ⟨z, ?_, ?_⟩
    · rw [List.foldl_cons, h1, mk_add (Nat.mul_pos (dprod_pos ea) (dprod_pos eb))]
      exact h3
    · have := h2 oa ob
      have h5 := Int.natAbs_add_le z0 y
      rw [List.length_cons, Nat.succ_mul]
      omega
theorem dot_len (ea eb : List RatL) (oa : Ok ea) (ob : Ok eb) (hn : ea.length ≤ 1048576) (K : Nat) (hK : limbsN ea + limbsN eb + limbsD ea + limbsD eb + 2 ≤ K) (pre : List (Fin ea.length)) (hp : pre.length ≤ ea.length) :
    (dg LB (dotQ ea eb pre).num.natAbs).length ≤ K ∧ (dg LB (dotQ ea eb pre).den).length ≤ K := by
  have hP := Nat.mul_pos (dprod_pos ea) (dprod_pos eb)
  obtain ⟨z, h1, h2⟩ := sum_mk ea eb oa ob pre 0
  have e : dotQ ea eb pre = mkRat z (dprod ea * dprod eb) := by
    rw [← h1, Rat.zero_mkRat]
    rfl
  have hPle : dprod ea * dprod eb ≤ LB ^ (limbsD ea + limbsD eb) := by rw [Nat.pow_add]; exact Nat.mul_le_mul (dprod_le oa) (dprod_le ob)
  have hden : (dotQ ea eb pre).den ≤ dprod ea * dprod eb := by
    rw [e, Rat.den_mkRat, if_neg (by omega)]
    exact Nat.div_le_self _ _
  have hnum : (dotQ ea eb pre).num.natAbs ≤ z.natAbs := by
    rw [e, Rat.num_mkRat, if_neg (by omega)]
    exact Int.natAbs_ediv_le_natAbs _ _
  have hzl : z.natAbs < LB ^ K := by
    have h3 : pre.length * (LB ^ limbsN ea * LB ^ limbsN eb * (dprod ea * dprod eb)) ≤ LB ^ 1 * (LB ^ (limbsN ea + limbsN eb) * LB ^ (limbsD ea + limbsD eb)) := by
      refine Nat.mul_le_mul (by unfold LB; omega) ?_
      rw [← Nat.pow_add (m := limbsN ea)]
      exact Nat.mul_le_mul (Nat.le_refl _) hPle
    rw [← Nat.pow_add, ← Nat.pow_add, ← Nat.pow_add] at h3
    rw [← Nat.pow_add (m := limbsN ea)] at h2
    have h4 : LB ^ (1 + (limbsN ea + limbsN eb + (limbsD ea + limbsD eb))) < LB ^ K := Nat.pow_lt_pow_right (by decide) (by omega)
    simp only [Int.natAbs_zero, Nat.zero_add] at h2
    omega
  have hdl : (dotQ ea eb pre).den < LB ^ K := by
    have h4 : LB ^ (limbsD ea + limbsD eb) < LB ^ K := Nat.pow_lt_pow_right (by decide) (by omega)
    omega
  exact ⟨dg_len_le LB2 (Nat.lt_of_le_of_lt hnum hzl), dg_len_le LB2 hdl⟩
end Go.Proofs.YtlknmoegngjpcaaGreat
