
/- The long division, in plain numbers. -/
import Derived.Test.YtodpbkcdcchljaaQuoD
namespace Go.Proofs.Ytodpbkcdcchljaa
open Go.RowKit

theorem val_split (l : List Nat) (j : Nat) (h : j ≤ l.length) : val l = val (l.take j) + LB ^ j * val (l.drop j) := by
  have e := ofB_append LB (l.take j) (l.drop j)
  rw [List.take_append_drop, List.length_take, Nat.min_eq_left h] at e
  exact e
theorem take_mid (us ds : List Nat) (j r : Nat) (h : j ≤ us.length) : (us.take j ++ ds ++ us.drop r).take j = us.take j := by
  rw [List.append_assoc, List.take_append_of_le_length (by simp; omega), List.take_take]; simp
theorem drop_mid (us ds : List Nat) (j r : Nat) (h : j ≤ us.length) : (us.take j ++ ds ++ us.drop r).drop j = ds ++ us.drop r := by
  have : (us.take j).length = j := by simp; omega
  rw [List.append_assoc, List.drop_append_of_le_length (by omega), List.drop_of_length_le (by omega), List.nil_append]

structure DivN (A V n m k : Nat) (us qs : List Nat) : Prop where
  ulen : us.length = m + n
  usm : ∀ d ∈ us, d < LB
  qlen : qs.length = m
  qsm : ∀ d ∈ qs, d < LB
  less : val (us.drop k) < V
  sum : A = V * (LB ^ k * val (qs.drop k)) + val us

section
variable {A V n m j : Nat} {us qs : List Nat}
/-- what stands above the part is nought -/
theorem DivN.above (h : DivN A V n m (j + 1) us qs) (hV : V < LB ^ n) (hj : j < m) : val (us.drop (j + (n + 1))) = 0 := by
  have h1 := h.less
  have h2 := val_split (us.drop (j + 1)) n (by have := h.ulen; simp; omega)
  rw [List.drop_drop, show j + 1 + n = j + (n + 1) by omega] at h2
  rcases Nat.eq_zero_or_pos (val (us.drop (j + (n + 1)))) with e | e
  · exact e
  · have h3 : LB ^ n * 1 ≤ LB ^ n * val (us.drop (j + (n + 1))) := Nat.mul_le_mul_left _ e
    omega
theorem DivN.part (h : DivN A V n m (j + 1) us qs) (hV : V < LB ^ n) (hj : j < m) : val (us.drop j) = val ((us.drop j).take (n + 1)) ∧ val ((us.drop j).take (n + 1)) < LB * V := by
  have h1 := val_split (us.drop j) (n + 1) (by have := h.ulen; simp; omega)
  rw [List.drop_drop, h.above hV hj, Nat.mul_zero, Nat.add_zero] at h1
  refine ⟨h1, ?_⟩
  rw [← h1]
  have hjl : j < us.length := by have := h.ulen; omega
  rw [List.drop_eq_getElem_cons hjl]
  show us[j] + LB * val (us.drop (j + 1)) < LB * V
  have h2 := h.usm us[j] (List.getElem_mem hjl)
  have h3 := Nat.mul_le_mul_left LB (show val (us.drop (j + 1)) + 1 ≤ V from h.less)
  rw [Nat.mul_add] at h3
  omega
theorem DivN.step (h : DivN A V n m (j + 1) us qs) (hV : V < LB ^ n) (hV0 : 0 < V) (hj : j < m) {ds : List Nat} (hdl : ds.length = n + 1) (hds : ∀ d ∈ ds, d < LB) (hd : ofB LB ds = val ((us.drop j).take (n + 1)) % V) :
    DivN A V n m j (us.take j ++ ds ++ us.drop (j + (n + 1))) (qs.set j (val ((us.drop j).take (n + 1)) / V)) := by
  have hp := h.part hV hj
  have ha := h.above hV hj
  have hul := h.ulen
  obtain ⟨U, hU⟩ : ∃ U, U = val ((us.drop j).take (n + 1)) := ⟨_, rfl⟩
  rw [← hU] at hd hp ⊢
  have hq : U / V < LB := (Nat.div_lt_iff_lt_mul hV0).2 hp.2
  have hdrop : val (ds ++ us.drop (j + (n + 1))) = U % V := by
    show ofB LB (ds ++ us.drop (j + (n + 1))) = _
    rw [ofB_append, show ofB LB (us.drop (j + (n + 1))) = 0 from ha, Nat.mul_zero, Nat.add_zero, hd]
  refine ⟨by simp [hdl]; omega, ?_, by simp [h.qlen], ?_, ?_, ?_⟩
  · intro d hm
    rcases List.mem_append.1 hm with hm | hm
    · rcases List.mem_append.1 hm with hm | hm
      · exact h.usm d (List.mem_of_mem_take hm)
      · exact hds d hm
    · exact h.usm d (List.mem_of_mem_drop hm)
  · intro q hm
    rcases List.mem_or_eq_of_mem_set hm with h' | rfl
    · exact h.qsm q h'
    · exact hq
  · rw [drop_mid us ds j _ (by omega), hdrop]
    exact Nat.mod_lt _ hV0
  · have e1 : val (us.take j ++ ds ++ us.drop (j + (n + 1))) = val (us.take j) + LB ^ j * (U % V) := by
      rw [val_split _ j (by simp [hdl]; omega), take_mid us ds j _ (by omega), drop_mid us ds j _ (by omega), hdrop]
    have e2 : val us = val (us.take j) + LB ^ j * U := by rw [val_split us j (by omega), hp.1]
    have e3 : val ((qs.set j (U / V)).drop j) = U / V + LB * val (qs.drop (j + 1)) := by
      rw [List.drop_eq_getElem_cons (by simp [h.qlen]; exact hj)]
      simp [List.drop_set_of_lt, val, ofB]
    have e4 := Nat.div_add_mod U V
    rw [e1, e3, h.sum, e2]
    have e5 : LB ^ j * U = V * (LB ^ j * (U / V)) + LB ^ j * (U % V) := by
      rw [Nat.mul_left_comm, ← Nat.mul_add, e4]
    have e6 : LB ^ (j + 1) * val (qs.drop (j + 1)) = LB ^ j * (LB * val (qs.drop (j + 1))) := by rw [Nat.pow_succ, Nat.mul_assoc]
    rw [e5, e6, Nat.mul_add, Nat.mul_add]
    omega
theorem DivN.done (h : DivN A V n m 0 us qs) : val qs = A / V ∧ val us = A % V := by
  have h1 := h.sum
  have h2 := h.less
  rw [List.drop_zero] at h2
  rw [Nat.pow_zero, Nat.one_mul, List.drop_zero] at h1
  have hV0 : 0 < V := by omega
  constructor
  · rw [h1, Nat.mul_add_div hV0, Nat.div_eq_of_lt h2, Nat.add_zero]
  · rw [h1, Nat.mul_add_mod, Nat.mod_eq_of_lt h2]
end
/-- taking a guess: it was the quotient, or one above it -/
theorem take_done {U V g X b d : Nat} (hg1 : U / V ≤ g) (hg2 : g ≤ U / V + 1) (hV : 0 < V) (hd : d < X) (hb : b = 0 ∨ b = 1) (hs : d + g * V = U + X * b) : (b = 0 → g = U / V ∧ d = U % V) ∧ (b = 1 → g = U / V + 1 ∧ (d + V) % X = U % V % X) := by
  have e := Nat.div_add_mod U V
  have hr := Nat.mod_lt U hV
  generalize U / V = q at *
  generalize U % V = r at *
  have hc : V * q = q * V := Nat.mul_comm _ _
  constructor
  · rintro rfl
    rcases (show g = q ∨ g = q + 1 by omega) with rfl | rfl
    · exact ⟨rfl, by omega⟩
    · rw [Nat.succ_mul] at hs; omega
  · rintro rfl
    rcases (show g = q ∨ g = q + 1 by omega) with rfl | rfl
    · omega
    · rw [Nat.succ_mul] at hs
      refine ⟨rfl, ?_⟩
      rw [show d + V = r + X by omega, Nat.add_mod_right]
end Go.Proofs.Ytodpbkcdcchljaa
