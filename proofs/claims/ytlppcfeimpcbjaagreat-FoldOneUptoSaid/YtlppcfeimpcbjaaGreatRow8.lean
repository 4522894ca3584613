import Derived.Test.YtlppcfeimpcbjaaGreatRow7
set_option linter.unusedSimpArgs false
set_option linter.unusedVariables false

/- Opening the arguments of a law: lists of rationals. -/
namespace Go.Proofs.YtlppcfeimpcbjaaGreat
open Go.ChangeShapes Go.WideShapes Go.ChangeAt Go.RowKit Go.Joins Go.Deep

theorem open_ratlist {H : Type} {enc : TypeId × Value → H} {W : World} {v : Value} {d : DataW H} {p : List MemPlace} (hv : ∃ a len cap, v = .slice a len cap)
    (h : DataW.Trod enc Tryz.prog W 0 (fun _ => true) true 24 v d p) : ∃ es, Sl Rm (fun k => k < W.heap.size) W v es ∧ es.length + 1 ≤ Rows.uptoBulk d ∧ (∀ x ∈ es, x.2.1.length + x.2.2.length + 2 ≤ Rows.uptoBulk d) ∧ limbsN es + limbsD es ≤ Rows.uptoBulk d := by
  obtain ⟨a, len, cap, rfl⟩ := hv
  obtain ⟨fuel, hf⟩ := h
  exact open_rats (n := fuel) (by simpa [Value.cells] using hf)
end Go.Proofs.YtlppcfeimpcbjaaGreat
