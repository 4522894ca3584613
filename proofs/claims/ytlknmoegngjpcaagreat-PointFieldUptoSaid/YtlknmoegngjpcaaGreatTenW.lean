import Derived.Test.YtlknmoegngjpcaaGreatTenV
set_option linter.unusedSimpArgs false
set_option linter.unusedVariables false

/- TensorMakes. -/
namespace Go.Proofs.YtlknmoegngjpcaaGreat
open Go.RowKit

theorem mayT_norm {sh : List Int} {es : List RatL} (h : fitsT sh es.length = 0) : mayT sh (es.map normR) = 0 := mayT_0 (by rw [List.length_map]; exact h) fun x hx => by
  obtain ⟨y, _, rfl⟩ := List.mem_map.1 hx
  exact like_can _
theorem norm_can (es : List RatL) : es.map normR = (es.map qOf).map canR := by rw [List.map_map]; rfl

theorem Rm_lt {S : Nat → Prop} {w : World} {v : Value} {es : List RatL} (h : Sl Rm S w v es) : ∀ x ∈ es, (∀ d ∈ x.2.1, d < LB) ∧ ∀ d ∈ x.2.2, d < LB := by
  intro x hx
  obtain ⟨A, c, rfl, _⟩ := h.slice
  obtain ⟨i, hi, rfl⟩ := List.mem_iff_getElem.1 hx
  obtain ⟨_, _, _, _, _, _, _, _, _, _, _, _, h1, h2⟩ := Rm_get h hi
  exact ⟨Kd.nat_all h1, Kd.nat_all h2⟩
theorem qOf_len {x : RatL} {L : Nat} (h : (∀ d ∈ x.2.1, d < LB) ∧ ∀ d ∈ x.2.2, d < LB) (l1 : x.2.1.length ≤ L) (l2 : x.2.2.length ≤ L) (hL : 1 ≤ L) : (dg LB (qOf x).num.natAbs).length ≤ L ∧ (dg LB (qOf x).den).length ≤ L := by
  have b1 : val x.2.1 < LB ^ L := Nat.lt_of_lt_of_le (ofB_lt h.1) (Nat.pow_le_pow_right LBpos l1)
  have b2 : val x.2.2 < LB ^ L := Nat.lt_of_lt_of_le (ofB_lt h.2) (Nat.pow_le_pow_right LBpos l2)
  unfold qOf
  rcases Nat.eq_zero_or_pos (val x.2.2) with h0 | hp
  · rw [h0, rv_den0]
    refine ⟨by rw [show (0 : Rat).num.natAbs = 0 from rfl, dg_zero]; exact Nat.zero_le _, Nat.le_trans (dg_len_le LB2 (k := 1) ?_) hL⟩
    rw [show (0 : Rat).den = 1 from rfl]
    decide
  · rw [rv_num hp, rv_den hp]
    exact ⟨dg_len_le LB2 (Nat.lt_of_le_of_lt (Nat.div_le_self _ _) b1), dg_len_le LB2 (Nat.lt_of_le_of_lt (Nat.div_le_self _ _) b2)⟩

end Go.Proofs.YtlknmoegngjpcaaGreat
