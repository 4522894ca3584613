
import Derived.Test.YtlppcfeimpcbjaaGreatFpE
set_option linter.unusedSimpArgs false
set_option linter.unusedVariables false

/- The plain law of Gemm: elements that are laid along a shape. -/
namespace Go.Proofs.YtlppcfeimpcbjaaGreat
open Go.RowKit

/-- where the element lies that stands at an index of a shape along which it is laid -/
def sprN (sh idx : List Int) (g : Nat) : Nat := (ofs sh (cutI (idx.drop g) sh sh.length) sh.length).toNat
/-- that element -/
def sprQ (shc : List Int) (qc : List Rat) (sh : List Int) (n : Nat) : Rat := qc.getD (sprN shc (seqI sh n) (sh.length - shc.length)) 0
/-- the first j of the sums -/
def gemL (qs qc : List Rat) (shc sh : List Int) (j : Nat) : List Rat := (List.range qs.length).map fun n => if n < j then qs.getD n 0 + sprQ shc qc sh n else qs.getD n 0
theorem gemL_len {qs qc : List Rat} {shc sh : List Int} {j : Nat} : (gemL qs qc shc sh j).length = qs.length := by rw [gemL, List.length_map, List.length_range]
theorem gemL_0 {qs qc : List Rat} {shc sh : List Int} : gemL qs qc shc sh 0 = qs := by
  refine getD_ext gemL_len fun i hi => ?_
  rw [gemL_len] at hi
  rw [gemL, getD_map_range _ _ _ hi, if_neg (by omega)]
theorem gemL_at {qs qc : List Rat} {shc sh : List Int} {j : Nat} (h : j < qs.length) : (gemL qs qc shc sh j).getD j 0 = qs.getD j 0 := by
  rw [gemL, getD_map_range _ _ _ h, if_neg (by omega)]
theorem gemL_step {qs qc : List Rat} {shc sh : List Int} {j : Nat} (h : j < qs.length) : gemL qs qc shc sh (j + 1) = (gemL qs qc shc sh j).set j (qs.getD j 0 + sprQ shc qc sh j) := by
  refine getD_ext (by rw [List.length_set, gemL_len, gemL_len]) fun i hi => ?_
  rw [gemL_len] at hi
  have hr : ((gemL qs qc shc sh j).set j (qs.getD j 0 + sprQ shc qc sh j)).getD i 0 = if j = i then qs.getD j 0 + sprQ shc qc sh j else (gemL qs qc shc sh j).getD i 0 := by
    rw [List.getD_eq_getElem?_getD, List.getElem?_set]
    by_cases e : j = i
    · subst e
      rw [if_pos rfl, if_pos rfl, gemL_len, if_pos hi]
      rfl
    · rw [if_neg e, if_neg e, ← List.getD_eq_getElem?_getD]
  rw [hr, gemL, getD_map_range _ _ _ hi]
  by_cases e : j = i
  · subst e
    rw [if_pos rfl, if_pos (by omega)]
  · rw [if_neg e, gemL, getD_map_range _ _ _ hi]
    by_cases h2 : i < j
    · rw [if_pos h2, if_pos (by omega)]
    · rw [if_neg h2, if_neg (by omega)]
theorem cut_at {l sh : List Int} {j k : Nat} (h : k < l.length) : (cutI l sh j).getD k 0 = if k < j then min (l.getD k 0) (sh.getD k 0 - 1) else l.getD k 0 := by
  rw [cutI, List.getD_eq_getElem?_getD, List.getElem?_map, List.getElem?_range h]
  rfl
theorem cut_in {sh idx : List Int} {g : Nat} (hlen : idx.length = g + sh.length) (h1 : ∀ d ∈ sh, 1 ≤ d) (h0 : ∀ x ∈ idx, 0 ≤ x) : inR sh (cutI (idx.drop g) sh sh.length) := fun k hk => by
  have hl : k < (idx.drop g).length := by rw [List.length_drop]; omega
  rw [cut_at hl, if_pos hk]
  have ha := h0 _ (List.mem_of_mem_drop (List.getElem_mem hl))
  have hb := h1 _ (List.getElem_mem hk)
  rw [getI_at hl, getI_at hk]
  omega
theorem seq_nn {sh : List Int} (h : ∀ d ∈ sh, 1 ≤ d) {k : Nat} (hk : (k : Int) < pr sh) : (seqI sh k).length = sh.length ∧ (∀ x ∈ seqI sh k, 0 ≤ x) ∧ inR sh (seqI sh k) := by
  have h1 := (seq_in h hk).1
  have hl := inL_len h1
  have h2 := (inL_iff hl).1 h1
  refine ⟨hl, fun x hx => ?_, h2⟩
  obtain ⟨i, hi, rfl⟩ := List.mem_iff_getElem.1 hx
  rw [← getI_at hi]
  exact (h2 i (by omega)).1
theorem spr_ok {shc sh : List Int} {ec : List RatL} {k : Nat} (hm : mayT shc ec = 0) (hl : shc.length ≤ sh.length) (h : ∀ d ∈ sh, 1 ≤ d) (hk : (k : Int) < pr sh) : (seqI sh k).length = (sh.length - shc.length) + shc.length ∧ atE shc ec (cutI ((seqI sh k).drop (sh.length - shc.length)) shc shc.length) = 0 := by
  obtain ⟨h1, h2, h3⟩ := seq_nn h hk
  have hms := (mayT_ok hm).1
  have hlen : (seqI sh k).length = (sh.length - shc.length) + shc.length := by omega
  exact ⟨hlen, (atE_off hm).trans (offE_0 hms (by rw [cutI_len, List.length_drop]; omega) (cut_in hlen (mayS_ok hms).2.1 h2))⟩
end Go.Proofs.YtlppcfeimpcbjaaGreat
