
import Derived.Test.YtlppcfeimpcbjaaGreatFullCD
import Derived.Test.YtlppcfeimpcbjaaGreatFacts
import Derived.Test.YtlppcfeimpcbjaaGreatTenUZ
set_option linter.unusedSimpArgs false
set_option linter.unusedVariables false

/- TensorFull. -/
namespace Go.Proofs.YtlppcfeimpcbjaaGreat
open Go.RowKit

/-- A list of rationals of the document. -/
def RefL (qs : List Rat) (L : Nat) (u : World) (v : Value) : Prop := ∃ A n c, v = .slice A n c ∧ Sl (Rk L) (fun _ => True) u (.slice A n c) qs
theorem RefL.keep {qs : List Rat} {L : Nat} {v : Value} {u u' : World} (hf : Fr (fun k => k < u.heap.size) u u') (h : RefL qs L u v) : RefL qs L u' v := by
  obtain ⟨A, n, c, e, h1⟩ := h
  exact ⟨A, n, c, e, h1.keep' (Rk_pos L) hf⟩

end Go.Proofs.YtlppcfeimpcbjaaGreat
