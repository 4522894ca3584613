
/- A limb of a quotient: Knuth's guess, in plain numbers. -/
import Derived.Test.YtodpbkcdcchljaaNatA
namespace Go.Proofs.Ytodpbkcdcchljaa
open Go.RowKit

/-- Too much: the guess is above the quotient. -/
theorem guess_over {U V T V2 P g : Nat} (hU : U < (T + 1) * P) (hV : V2 * P ≤ V) (hV0 : 0 < V) (h : T < g * V2) : U / V < g := by
  refine (Nat.div_lt_iff_lt_mul hV0).2 ?_
  have h1 : (T + 1) * P ≤ g * V2 * P := Nat.mul_le_mul_right P h
  have h2 : g * (V2 * P) ≤ g * V := Nat.mul_le_mul_left g hV
  rw [Nat.mul_assoc] at h1
  omega
/-- Not too much by the first limbs: at most one above the quotient. -/
theorem guess_close {U V T V2 P g : Nat} (hU : T * P ≤ U) (hV : V < (V2 + 1) * P) (hV0 : 0 < V) (h : g * V2 ≤ T) (hg : g ≤ V2 + 1) : g ≤ U / V + 1 := by
  rcases Nat.lt_or_ge (U / V + 1) g with hlt | hge
  · exfalso
    have hg0 : 0 < g := Nat.lt_of_le_of_lt (Nat.zero_le _) hlt
    obtain ⟨k, rfl⟩ : ∃ k, g = k + 1 := ⟨g - 1, by omega⟩
    have h1 : U < k * V := (Nat.div_lt_iff_lt_mul hV0).1 (Nat.lt_of_succ_lt_succ hlt)
    have h2 : k * V ≤ k * ((V2 + 1) * P) := Nat.mul_le_mul_left k (Nat.le_of_lt hV)
    have h3 : (k + 1) * V2 * P ≤ T * P := Nat.mul_le_mul_right P h
    have h4 : k * (V2 + 1) ≤ (k + 1) * V2 := by rw [Nat.mul_succ, Nat.succ_mul]; omega
    have h5 := Nat.mul_le_mul_right P h4
    rw [Nat.mul_assoc] at h5
    omega
  · exact hge

/-- What stands of the guess between two rounds. -/
structure GuessI (top v1 q g r : Nat) : Prop where
  sum : g * v1 + r = top
  low : q ≤ g
theorem guess_sum {top v1 v2 g r : Nat} (h : g * v1 + r = top) : g * (v1 * LB + v2) + r * LB = top * LB + g * v2 := by
  rw [← h, Nat.mul_add, Nat.add_mul, Nat.mul_assoc]; omega

/-- the first limbs of what is left, and of the divisor -/
theorem limbs3 {us : List Nat} {n : Nat} (hn : 2 ≤ n) (hl : us.length = n + 1) (hd : ∀ d ∈ us, d < LB) :
    let T := (us.getD n 0 * LB + us.getD (n - 1) 0) * LB + us.getD (n - 2) 0
    T * LB ^ (n - 2) ≤ val us ∧ val us < (T + 1) * LB ^ (n - 2) := by
  intro T
  have h1 : us = us.take (n - 2) ++ us.drop (n - 2) := (List.take_append_drop _ _).symm
  have h2 : val us = ofB LB (us.take (n - 2)) + LB ^ (n - 2) * ofB LB (us.drop (n - 2)) := by
    have h := ofB_append LB (us.take (n - 2)) (us.drop (n - 2))
    rw [← h1] at h
    rw [List.length_take, Nat.min_eq_left (by omega)] at h
    exact h
  have hlt := ofB_lt (b := LB) (l := us.take (n - 2)) (fun d hd' => hd d (List.mem_of_mem_take hd'))
  rw [List.length_take, Nat.min_eq_left (by omega)] at hlt
  have h3 : us.drop (n - 2) = [us.getD (n - 2) 0, us.getD (n - 1) 0, us.getD n 0] := by
    have e : ∀ i (h : i < us.length), us.getD i 0 = us[i] := fun i h => by rw [List.getD_eq_getElem?_getD, List.getElem?_eq_getElem h]; rfl
    rw [e (n - 2) (by omega), e (n - 1) (by omega), e n (by omega)]
    apply List.ext_getElem
    · simp; omega
    · intro i h4 h5
      simp at h5
      rw [List.getElem_drop]
      match i, h5 with
      | 0, _ => simp
      | 1, _ => simp; congr 1; omega
      | 2, _ => simp; congr 1; omega
  have h4 : ofB LB (us.drop (n - 2)) = T := by
    rw [h3]
    show us.getD (n - 2) 0 + LB * (us.getD (n - 1) 0 + LB * (us.getD n 0 + LB * 0)) = T
    show _ = (us.getD n 0 * LB + us.getD (n - 1) 0) * LB + us.getD (n - 2) 0
    rw [Nat.mul_zero, Nat.add_zero, Nat.mul_add, Nat.add_mul, Nat.mul_comm LB (us.getD (n - 1) 0), Nat.mul_comm LB (us.getD n 0), Nat.mul_comm LB (us.getD n 0 * LB)]
    omega
  rw [h4] at h2
  clear_value T
  have e1 : T * LB ^ (n - 2) = LB ^ (n - 2) * T := Nat.mul_comm _ _
  have e2 : (T + 1) * LB ^ (n - 2) = LB ^ (n - 2) * T + LB ^ (n - 2) := by rw [Nat.add_mul, Nat.one_mul, Nat.mul_comm]
  rw [e1, e2, h2]
  generalize LB ^ (n - 2) * T = X
  omega
theorem limbs2 {vs : List Nat} {n : Nat} (hn : 2 ≤ n) (hl : vs.length = n) (hd : ∀ d ∈ vs, d < LB) :
    let V2 := vs.getD (n - 1) 0 * LB + vs.getD (n - 2) 0
    V2 * LB ^ (n - 2) ≤ val vs ∧ val vs < (V2 + 1) * LB ^ (n - 2) := by
  intro V2
  have h := limbs3 (us := vs ++ [0]) (n := n) hn (by simp [hl]) (fun d hd' => by
    rcases List.mem_append.1 hd' with h | h
    · exact hd d h
    · simp at h; subst h; exact LBpos)
  have e1 : val (vs ++ [0]) = val vs := by
    show ofB LB (vs ++ [0]) = ofB LB vs
    rw [ofB_snoc]; simp
  have g : ∀ i, i < n → (vs ++ [0]).getD i 0 = vs.getD i 0 := fun i hi => by
    rw [List.getD_eq_getElem?_getD, List.getD_eq_getElem?_getD, List.getElem?_append_left (by omega)]
  have g0 : (vs ++ [0]).getD n 0 = 0 := by
    rw [List.getD_eq_getElem?_getD, List.getElem?_append_right (by omega), hl]; simp
  rw [e1] at h
  simp only [g (n - 1) (by omega), g (n - 2) (by omega), g0, Nat.zero_mul, Nat.zero_add] at h
  exact h

/-- What is known of the first limbs: of U, a0, a1, a2; of V, b1, b2. -/
structure Tops (U V a0 a1 a2 b1 b2 P : Nat) : Prop where
  uLo : ((a0 * LB + a1) * LB + a2) * P ≤ U
  uHi : U < ((a0 * LB + a1) * LB + a2 + 1) * P
  vLo : (b1 * LB + b2) * P ≤ V
  vHi : V < (b1 * LB + b2 + 1) * P
  less : U < LB * V
  b1Lo : 2147483648 ≤ b1
  b1Hi : b1 < LB
  b2Hi : b2 < LB
  a1Hi : a1 < LB
  pos : 0 < P
section
variable {U V a0 a1 a2 b1 b2 P g r : Nat}
theorem Tops.vPos (h : Tops U V a0 a1 a2 b1 b2 P) : 0 < V := by
  have h1 := h.vLo
  have h2 : 1 ≤ (b1 * LB + b2) * P := Nat.mul_pos (by have := h.b1Lo; have := Nat.mul_pos (show 0 < b1 by omega) LBpos; omega) h.pos
  omega
theorem Tops.first (h : Tops U V a0 a1 a2 b1 b2 P) : (a0 * LB + a1) / b1 ≤ LB + 1 := by
  have h1 := h.uLo
  have h2 := Nat.mul_lt_mul_of_pos_left h.vHi LBpos
  have h3 := h.less
  have h4 : ((a0 * LB + a1) * LB + a2) * P < (LB * (b1 * LB + b2 + 1)) * P := by rw [Nat.mul_assoc]; omega
  have h5 := Nat.lt_of_mul_lt_mul_right h4
  have h6 : b1 * LB + b2 + 1 ≤ (b1 + 1) * LB := by have := h.b2Hi; rw [Nat.add_mul, Nat.one_mul]; omega
  have h7 : (a0 * LB + a1) * LB < (b1 + 1) * LB * LB := by
    have := Nat.mul_le_mul_left LB h6
    rw [Nat.mul_comm ((b1 + 1) * LB) LB]; omega
  have h8 := Nat.lt_of_mul_lt_mul_right h7
  have h9 : a0 * LB + a1 < b1 * (LB + 2) := by
    have := h.b1Lo
    rw [Nat.add_mul, Nat.one_mul] at h8
    rw [Nat.mul_add]
    have : LB ≤ b1 * 2 := by unfold LB; omega
    omega
  have := Nat.div_lt_of_lt_mul h9
  omega
theorem Tops.low (h : Tops U V a0 a1 a2 b1 b2 P) (ha2 : a2 < LB) : U / V ≤ (a0 * LB + a1) / b1 := by
  refine (Nat.le_div_iff_mul_le (by have := h.b1Lo; omega)).2 ?_
  have h1 : U / V * V ≤ U := Nat.div_mul_le_self U V
  have h2 := Nat.mul_le_mul_left (U / V) h.vLo
  have h3 := h.uHi
  have h4 : U / V * (b1 * LB + b2) * P < ((a0 * LB + a1) * LB + a2 + 1) * P := by rw [Nat.mul_assoc]; omega
  have h5 := Nat.lt_of_mul_lt_mul_right h4
  rw [Nat.mul_add, ← Nat.mul_assoc] at h5
  have h6 : U / V * b1 * LB < (a0 * LB + a1 + 1) * LB := by rw [Nat.add_mul (a0 * LB + a1) 1, Nat.one_mul]; omega
  exact Nat.le_of_lt_succ (Nat.lt_of_mul_lt_mul_right h6)
theorem Tops.step (h : Tops U V a0 a1 a2 b1 b2 P) (hs : g * b1 + r = a0 * LB + a1) (hl : U / V ≤ g) (ho : LB ≤ g ∨ r * LB + a2 < g * b2) : 1 ≤ g ∧ U / V ≤ g - 1 ∧ (g - 1) * b1 + (r + b1) = a0 * LB + a1 := by
  have hlt : U / V < g := by
    rcases ho with ho | ho
    · exact Nat.lt_of_lt_of_le ((Nat.div_lt_iff_lt_mul h.vPos).2 h.less) ho
    · refine guess_over h.uHi h.vLo h.vPos ?_
      have := guess_sum (v2 := b2) hs
      omega
  have h1 : 1 ≤ g := Nat.lt_of_le_of_lt (Nat.zero_le _) hlt
  refine ⟨h1, Nat.le_sub_one_of_lt hlt, ?_⟩
  obtain ⟨k, rfl⟩ : ∃ k, g = k + 1 := ⟨g - 1, by omega⟩
  rw [Nat.succ_mul] at hs
  rw [Nat.add_sub_cancel]
  omega
theorem Tops.close (h : Tops U V a0 a1 a2 b1 b2 P) (hs : g * b1 + r = a0 * LB + a1) (hg : g ≤ LB + 1) (hc : g * b2 ≤ r * LB + a2) : g ≤ U / V + 1 := by
  refine guess_close h.uLo h.vHi h.vPos ?_ ?_
  · have := guess_sum (v2 := b2) hs
    omega
  · have := Nat.mul_le_mul_right LB (show 1 ≤ b1 by have := h.b1Lo; omega)
    omega
theorem Tops.close' (h : Tops U V a0 a1 a2 b1 b2 P) (hs : g * b1 + r = a0 * LB + a1) (hg : g ≤ LB) (hr : LB ≤ r) : g ≤ U / V + 1 := by
  refine h.close hs (by omega) ?_
  have h1 := Nat.mul_le_mul_left g (Nat.le_of_lt h.b2Hi)
  have h2 : g * LB ≤ r * LB := Nat.mul_le_mul_right LB (by omega)
  omega
end
end Go.Proofs.Ytodpbkcdcchljaa
