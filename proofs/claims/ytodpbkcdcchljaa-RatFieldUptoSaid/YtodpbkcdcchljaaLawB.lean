
/- known. -/
import Derived.Test.YtodpbkcdcchljaaLawA
namespace Go.Proofs.Ytodpbkcdcchljaa
open Go.RowKit

theorem k1 : dg LB (val [4294967295] + val [1]) = [0, 1] :=
  (congrArg (dg LB) (show val [4294967295] + val [1] = ofB LB [0, 1] by decide)).trans (dg_ofB LB2 (by decide) (by intro d hd; simp at hd; omega))
theorem k2 : dg LB (val [4294967295] * val [4294967295]) = [1, 4294967294] :=
  (congrArg (dg LB) (show val [4294967295] * val [4294967295] = ofB LB [1, 4294967294] by decide)).trans (dg_ofB LB2 (by decide) (by intro d hd; simp at hd; omega))
theorem k3 : val [1] < val [2] := by decide
theorem k4 : blen (val [0, 1]) = 33 := blen_of (by decide) (by decide)

end Go.Proofs.Ytodpbkcdcchljaa
