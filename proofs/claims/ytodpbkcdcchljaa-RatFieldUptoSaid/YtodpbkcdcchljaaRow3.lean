
/- Opening the arguments of a law: rationals. -/
import Derived.Test.YtodpbkcdcchljaaRow0
import Derived.Test.YtodpbkcdcchljaaRatK
import Derived.Lib.SmallJoins
namespace Go.Proofs.Ytodpbkcdcchljaa
open Go.ChangeShapes Go.WideShapes Go.ChangeAt Go.RowKit Go.Joins

theorem cells_rat : Try.prog.cellsOf 25 = 3 := by kernel_rfl
set_option maxRecDepth 20000 in
theorem open_rat {H : Type} {enc : TypeId × Value → H} {W : World} {r : Reach} {b0 : Nat} {v : Value} {d : DataW H} {p : List MemPlace} (hv : Value.okWide Try.prog W r b0 25 v)
    (h : DataW.Trod enc Try.prog W 0 (fun _ => true) true 25 v d p) :
    ∃ s vn vd xs ys, v = .agg #[.bool s, vn, vd] ∧ Sl Lm (fun k => k < W.heap.size) W vn xs ∧ Sl Lm (fun k => k < W.heap.size) W vd ys ∧ xs.length + ys.length + 2 ≤ Rows.uptoBulk d := by
  obtain ⟨c0, c1, c2, y0, y1, y2, n, rfl, rfl, rfl, h0, h1, h2⟩ := open_agg3 Try.underlying25 (by kernel_rfl) cells_rat hv h
  obtain ⟨s, e0, _⟩ := DataW.trod_bool Try.underlying4 h0
  obtain ⟨a1, l1, k1, e1⟩ := slice_form Try.underlying23 h1
  obtain ⟨a2, l2, k2, e2⟩ := slice_form Try.underlying23 h2
  simp only [List.cons.injEq, and_true] at e0 e1 e2
  subst e0 e1 e2
  obtain ⟨xs, hx, lx⟩ := open_nat ⟨a1, l1, k1, rfl⟩ ⟨n, by simpa [Value.cells] using h1⟩
  obtain ⟨ys, hy, ly⟩ := open_nat ⟨a2, l2, k2, rfl⟩ ⟨n, by simpa [Value.cells] using h2⟩
  refine ⟨s, _, _, xs, ys, rfl, hx, hy, ?_⟩
  have h3 := bulk_pos y0.1
  simp only [Rows.uptoBulk, Rows.uptoBulkAll]
  omega
end Go.Proofs.Ytodpbkcdcchljaa
