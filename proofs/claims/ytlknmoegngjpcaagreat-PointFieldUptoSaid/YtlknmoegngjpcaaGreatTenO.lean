import Derived.Test.YtlknmoegngjpcaaGreatTenN
set_option linter.unusedSimpArgs false
set_option linter.unusedVariables false

/- tensor.Make. -/
namespace Go.Proofs.YtlknmoegngjpcaaGreat
open Go.RowKit

/-- What Make answers. -/
def MakeR (w : World) (sh : List Int) (es : List RatL) (r : Int) (e : Ending) (w' : World) : Prop := ∃ v1 v2, e = .returned (.tuple #[.agg #[v1, v2], .int .i64 r]) ∧ (r ≠ 0 → v1 = .slice none 0 0 ∧ v2 = .slice none 0 0) ∧
  (r = 0 → Own Im 3 (fun k => w.heap.size ≤ k) w' v1 sh ∧ Own Rm 51 (fun k => w.heap.size ≤ k) w' v2 (es.map normR)) ∧ Fr (fun k => k < w.heap.size) w w'

end Go.Proofs.YtlknmoegngjpcaaGreat
