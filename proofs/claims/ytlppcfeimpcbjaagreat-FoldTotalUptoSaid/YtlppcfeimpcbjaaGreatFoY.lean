import Derived.Test.YtlppcfeimpcbjaaGreatFoldF
set_option linter.unusedSimpArgs false
set_option linter.unusedVariables false

/- Axes that rise. -/
namespace Go.Proofs.YtlppcfeimpcbjaaGreat
open Go.RowKit Go.Shelf

theorem rise_last {axes : List Int} (h : Rise axes) : ∀ (k i : Nat), i + k + 1 = axes.length → axes.getD i 0 ≤ axes.getD (axes.length - 1) 0
  | 0, i, e => by rw [show axes.length - 1 = i by omega]; exact Int.le_refl _
  | k + 1, i, e => by
    have h1 := (h (i + 1) (by omega)).2 (by omega)
    rw [Nat.add_sub_cancel] at h1
    have h2 := rise_last h k (i + 1) (by omega)
    omega
theorem rise_below {axes : List Int} (h : Rise axes) {n : Int} (h0 : 0 < axes.length → axes.getD (axes.length - 1) 0 < n) : ∀ x ∈ axes, x < n := fun x hx => by
  obtain ⟨i, hi, rfl⟩ := List.mem_iff_getElem.1 hx
  have h1 := rise_last h (axes.length - 1 - i) i (by omega)
  have h2 := h0 (by omega)
  rw [getI_at hi] at h1
  omega
end Go.Proofs.YtlppcfeimpcbjaaGreat
