/-
  No cell of these rows narrows 'for every input' (looked for: loops, veiled, ifaces, maps, wideKeys, modest, calm, conditions, laid).
  DERIVED. THE GIVEN ROWS OF THIS SEAT. 8 by the template 'for every input the law returns true; each argument reads behind the call as it read before'; 0 by the template 'total and deterministic' (their statements: YtlknmoegngjpcaaGreatTotals.lean).
  GIVEN WITH THE SEED: the statements are not yours to turn. If you find one false, say at which input.
  Laid BY PROGRAM, IN A SANDBOX (cutbox-rows.mjs): the forced cells as the released guide's own fill.sh prints them over the translation 13215e81157bf603… (all of the seat's roots in one cut). By AI agents, Wed Nov 11 2026. No macro, syntax, notation, axiom, sorry.
-/
import Derived.Test.YtlknmoegngjpcaaGreatChecked
import GoSem.Claim
import GoSem.ClaimJoined
import GoSem.ClaimMapViews
import Derived.JoinedTies
import Derived.KernelRfl
namespace Go.Proofs.YtlknmoegngjpcaaGreat
/- THE CELL 'sum', in the pinned program and in every row, IS THE sha256 OF THE DUMP (.gsa) THAT YtlknmoegngjpcaaGreatProg.lean LOADS. Nothing in Lean hashes anything: it is a label: what it is worth is what the hold of that sum in a sandbox is worth. -/
noncomputable def Tryz.pinned : Pinned := { name := "ytlknmoegngjpcaagreat", sum := "13215e81157bf603099f32fa55b0e526f9f2df53b5bae5fc69d22673b916ec7c", checked := Tryz.checked }
namespace Rows
def none {H : Type} : Left H := { results := [], args := [] }

/-- 'fluxionlaw08.PointPowers': WHATEVER THE INPUT: true; the input reads as it did. -/
def pointPowersSpec : ChangeSpec := { name := "pointPowers", fn := fun _ => fun
  | [d1, d2] => { results := [.lit (.bool true)], args := [d1, d2] }
  | _ => none }
def pointPowersRow : OpenClaim := { program := "ytlknmoegngjpcaagreat", sum := "13215e81157bf603099f32fa55b0e526f9f2df53b5bae5fc69d22673b916ec7c", func := "fluxion/fluxionlaw08.PointPowers", spec := "pointPowers", unfollowed := true, recurses := true, apart := false }
def PointPowersSaid : Prop := pointPowersRow.holds Tryz.pinned (OpenSpec.ofChange pointPowersSpec)

/-- ITS FALSE NEIGHBOUR: 'it returns false'. Refute it at one input. -/
def pointPowersWrong : ChangeSpec := { name := "pointPowers", fn := fun _ => fun
  | [d1, d2] => { results := [.lit (.bool false)], args := [d1, d2] }
  | _ => none }
def PointPowersWrongFalsely : Prop := pointPowersRow.holds Tryz.pinned (OpenSpec.ofChange pointPowersWrong)

/-- 'fluxionlaw08.PointSigns': WHATEVER THE INPUT: true; the input reads as it did. -/
def pointSignsSpec : ChangeSpec := { name := "pointSigns", fn := fun _ => fun
  | [d] => { results := [.lit (.bool true)], args := [d] }
  | _ => none }
def pointSignsRow : OpenClaim := { program := "ytlknmoegngjpcaagreat", sum := "13215e81157bf603099f32fa55b0e526f9f2df53b5bae5fc69d22673b916ec7c", func := "fluxion/fluxionlaw08.PointSigns", spec := "pointSigns", unfollowed := true, recurses := true, apart := false }
def PointSignsSaid : Prop := pointSignsRow.holds Tryz.pinned (OpenSpec.ofChange pointSignsSpec)

/-- ITS FALSE NEIGHBOUR: 'it returns false'. Refute it at one input. -/
def pointSignsWrong : ChangeSpec := { name := "pointSigns", fn := fun _ => fun
  | [d] => { results := [.lit (.bool false)], args := [d] }
  | _ => none }
def PointSignsWrongFalsely : Prop := pointSignsRow.holds Tryz.pinned (OpenSpec.ofChange pointSignsWrong)

/-- 'fluxionlaw08.PointSums': WHATEVER THE INPUT: true; the input reads as it did. -/
def pointSumsSpec : ChangeSpec := { name := "pointSums", fn := fun _ => fun
  | [d1, d2] => { results := [.lit (.bool true)], args := [d1, d2] }
  | _ => none }
def pointSumsRow : OpenClaim := { program := "ytlknmoegngjpcaagreat", sum := "13215e81157bf603099f32fa55b0e526f9f2df53b5bae5fc69d22673b916ec7c", func := "fluxion/fluxionlaw08.PointSums", spec := "pointSums", unfollowed := true, recurses := true, apart := false }
def PointSumsSaid : Prop := pointSumsRow.holds Tryz.pinned (OpenSpec.ofChange pointSumsSpec)

/-- ITS FALSE NEIGHBOUR: 'it returns false'. Refute it at one input. -/
def pointSumsWrong : ChangeSpec := { name := "pointSums", fn := fun _ => fun
  | [d1, d2] => { results := [.lit (.bool false)], args := [d1, d2] }
  | _ => none }
def PointSumsWrongFalsely : Prop := pointSumsRow.holds Tryz.pinned (OpenSpec.ofChange pointSumsWrong)

/-- 'fluxionlaw08.PointProducts': WHATEVER THE INPUT: true; the input reads as it did. -/
def pointProductsSpec : ChangeSpec := { name := "pointProducts", fn := fun _ => fun
  | [d1, d2] => { results := [.lit (.bool true)], args := [d1, d2] }
  | _ => none }
def pointProductsRow : OpenClaim := { program := "ytlknmoegngjpcaagreat", sum := "13215e81157bf603099f32fa55b0e526f9f2df53b5bae5fc69d22673b916ec7c", func := "fluxion/fluxionlaw08.PointProducts", spec := "pointProducts", unfollowed := true, recurses := true, apart := false }
def PointProductsSaid : Prop := pointProductsRow.holds Tryz.pinned (OpenSpec.ofChange pointProductsSpec)

/-- ITS FALSE NEIGHBOUR: 'it returns false'. Refute it at one input. -/
def pointProductsWrong : ChangeSpec := { name := "pointProducts", fn := fun _ => fun
  | [d1, d2] => { results := [.lit (.bool false)], args := [d1, d2] }
  | _ => none }
def PointProductsWrongFalsely : Prop := pointProductsRow.holds Tryz.pinned (OpenSpec.ofChange pointProductsWrong)

/-- 'fluxionlaw08.PointScales': WHATEVER THE INPUT: true; the input reads as it did. -/
def pointScalesSpec : ChangeSpec := { name := "pointScales", fn := fun _ => fun
  | [d1, d2] => { results := [.lit (.bool true)], args := [d1, d2] }
  | _ => none }
def pointScalesRow : OpenClaim := { program := "ytlknmoegngjpcaagreat", sum := "13215e81157bf603099f32fa55b0e526f9f2df53b5bae5fc69d22673b916ec7c", func := "fluxion/fluxionlaw08.PointScales", spec := "pointScales", unfollowed := true, recurses := true, apart := false }
def PointScalesSaid : Prop := pointScalesRow.holds Tryz.pinned (OpenSpec.ofChange pointScalesSpec)

/-- ITS FALSE NEIGHBOUR: 'it returns false'. Refute it at one input. -/
def pointScalesWrong : ChangeSpec := { name := "pointScales", fn := fun _ => fun
  | [d1, d2] => { results := [.lit (.bool false)], args := [d1, d2] }
  | _ => none }
def PointScalesWrongFalsely : Prop := pointScalesRow.holds Tryz.pinned (OpenSpec.ofChange pointScalesWrong)

/-- 'fluxionlaw08.PointOwn': WHATEVER THE INPUT: true; the input reads as it did. -/
def pointOwnSpec : ChangeSpec := { name := "pointOwn", fn := fun _ => fun
  | [d] => { results := [.lit (.bool true)], args := [d] }
  | _ => none }
def pointOwnRow : OpenClaim := { program := "ytlknmoegngjpcaagreat", sum := "13215e81157bf603099f32fa55b0e526f9f2df53b5bae5fc69d22673b916ec7c", func := "fluxion/fluxionlaw08.PointOwn", spec := "pointOwn", unfollowed := true, recurses := true, apart := false }
def PointOwnSaid : Prop := pointOwnRow.holds Tryz.pinned (OpenSpec.ofChange pointOwnSpec)

/-- ITS FALSE NEIGHBOUR: 'it returns false'. Refute it at one input. -/
def pointOwnWrong : ChangeSpec := { name := "pointOwn", fn := fun _ => fun
  | [d] => { results := [.lit (.bool false)], args := [d] }
  | _ => none }
def PointOwnWrongFalsely : Prop := pointOwnRow.holds Tryz.pinned (OpenSpec.ofChange pointOwnWrong)

/-- 'fluxionlaw08.PointField': WHATEVER THE INPUT: true; the input reads as it did. -/
def pointFieldSpec : ChangeSpec := { name := "pointField", fn := fun _ => fun
  | [d1, d2, d3] => { results := [.lit (.bool true)], args := [d1, d2, d3] }
  | _ => none }
def pointFieldRow : OpenClaim := { program := "ytlknmoegngjpcaagreat", sum := "13215e81157bf603099f32fa55b0e526f9f2df53b5bae5fc69d22673b916ec7c", func := "fluxion/fluxionlaw08.PointField", spec := "pointField", unfollowed := true, recurses := true, apart := false }
def PointFieldSaid : Prop := pointFieldRow.holds Tryz.pinned (OpenSpec.ofChange pointFieldSpec)

/-- ITS FALSE NEIGHBOUR: 'it returns false'. Refute it at one input. -/
def pointFieldWrong : ChangeSpec := { name := "pointField", fn := fun _ => fun
  | [d1, d2, d3] => { results := [.lit (.bool false)], args := [d1, d2, d3] }
  | _ => none }
def PointFieldWrongFalsely : Prop := pointFieldRow.holds Tryz.pinned (OpenSpec.ofChange pointFieldWrong)

/-- 'fluxionlaw08.PointRelus': WHATEVER THE INPUT: true; the input reads as it did. -/
def pointRelusSpec : ChangeSpec := { name := "pointRelus", fn := fun _ => fun
  | [d] => { results := [.lit (.bool true)], args := [d] }
  | _ => none }
def pointRelusRow : OpenClaim := { program := "ytlknmoegngjpcaagreat", sum := "13215e81157bf603099f32fa55b0e526f9f2df53b5bae5fc69d22673b916ec7c", func := "fluxion/fluxionlaw08.PointRelus", spec := "pointRelus", unfollowed := true, recurses := true, apart := false }
def PointRelusSaid : Prop := pointRelusRow.holds Tryz.pinned (OpenSpec.ofChange pointRelusSpec)

/-- ITS FALSE NEIGHBOUR: 'it returns false'. Refute it at one input. -/
def pointRelusWrong : ChangeSpec := { name := "pointRelus", fn := fun _ => fun
  | [d] => { results := [.lit (.bool false)], args := [d] }
  | _ => none }
def PointRelusWrongFalsely : Prop := pointRelusRow.holds Tryz.pinned (OpenSpec.ofChange pointRelusWrong)

/- THE SECOND FORM. 'bulk': how many values and letters a reading holds, each counted each time it is reached (what is shared counts as often as it is met; a slice's spare places count too). A statement '..UptoSaid' is the law's where the arguments, and the package variables that the reading takes, are together of bulk at most 1048576: NARROWER than '..Said'. Prove '..Said' where nothing that the law and all that it calls make is longer than what came in: it says more and counts as full. Else prove '..UptoSaid'. A law counts once. -/
mutual
def uptoBulk {H : Type} : DataW H → Nat
  | .lit (.string bytes) => bytes.length + 1
  | .lit _ => 1
  | .nil => 1
  | .ptr d => uptoBulk d + 1
  | .slice elems spare => uptoBulkAll elems + uptoBulkAll spare + 1
  | .agg parts => uptoBulkAll parts + 1
  | .iface _ d => uptoBulk d + 1
  | .map entries => uptoBulkEntries entries + 1
  | .held _ => 1
def uptoBulkAll {H : Type} : List (DataW H) → Nat
  | [] => 0
  | d :: r => uptoBulk d + uptoBulkAll r
def uptoBulkEntries {H : Type} : List (Lit × DataW H) → Nat
  | [] => 0
  | x :: r => uptoBulkEntry x + uptoBulkEntries r
def uptoBulkEntry {H : Type} : Lit × DataW H → Nat
  | (.string bytes, d) => bytes.length + uptoBulk d + 1
  | (_, d) => uptoBulk d + 1
 end
def uptoSmall : (H : Type) → List (DataW H) → Bool := fun _ ds => decide (uptoBulkAll ds ≤ 1048576)
def OpenSpec.upto (s : _root_.Go.ChangeSpec) : _root_.Go.OpenSpec := { _root_.Go.OpenSpec.ofChange s with cond := some uptoSmall }

/-- 'fluxionlaw08.PointPowers', WHERE WHAT IT READS IS OF BULK AT MOST 1048576: true; the input reads as it did. -/
def pointPowersUptoRow : OpenClaim := { program := "ytlknmoegngjpcaagreat", sum := "13215e81157bf603099f32fa55b0e526f9f2df53b5bae5fc69d22673b916ec7c", func := "fluxion/fluxionlaw08.PointPowers", spec := "pointPowers", unfollowed := true, recurses := true, apart := false, narrowed := true }
def PointPowersUptoSaid : Prop := pointPowersUptoRow.holds Tryz.pinned (OpenSpec.upto pointPowersSpec)

/-- 'fluxionlaw08.PointSigns', WHERE WHAT IT READS IS OF BULK AT MOST 1048576: true; the input reads as it did. -/
def pointSignsUptoRow : OpenClaim := { program := "ytlknmoegngjpcaagreat", sum := "13215e81157bf603099f32fa55b0e526f9f2df53b5bae5fc69d22673b916ec7c", func := "fluxion/fluxionlaw08.PointSigns", spec := "pointSigns", unfollowed := true, recurses := true, apart := false, narrowed := true }
def PointSignsUptoSaid : Prop := pointSignsUptoRow.holds Tryz.pinned (OpenSpec.upto pointSignsSpec)

/-- 'fluxionlaw08.PointSums', WHERE WHAT IT READS IS OF BULK AT MOST 1048576: true; the input reads as it did. -/
def pointSumsUptoRow : OpenClaim := { program := "ytlknmoegngjpcaagreat", sum := "13215e81157bf603099f32fa55b0e526f9f2df53b5bae5fc69d22673b916ec7c", func := "fluxion/fluxionlaw08.PointSums", spec := "pointSums", unfollowed := true, recurses := true, apart := false, narrowed := true }
def PointSumsUptoSaid : Prop := pointSumsUptoRow.holds Tryz.pinned (OpenSpec.upto pointSumsSpec)

/-- 'fluxionlaw08.PointProducts', WHERE WHAT IT READS IS OF BULK AT MOST 1048576: true; the input reads as it did. -/
def pointProductsUptoRow : OpenClaim := { program := "ytlknmoegngjpcaagreat", sum := "13215e81157bf603099f32fa55b0e526f9f2df53b5bae5fc69d22673b916ec7c", func := "fluxion/fluxionlaw08.PointProducts", spec := "pointProducts", unfollowed := true, recurses := true, apart := false, narrowed := true }
def PointProductsUptoSaid : Prop := pointProductsUptoRow.holds Tryz.pinned (OpenSpec.upto pointProductsSpec)

/-- 'fluxionlaw08.PointScales', WHERE WHAT IT READS IS OF BULK AT MOST 1048576: true; the input reads as it did. -/
def pointScalesUptoRow : OpenClaim := { program := "ytlknmoegngjpcaagreat", sum := "13215e81157bf603099f32fa55b0e526f9f2df53b5bae5fc69d22673b916ec7c", func := "fluxion/fluxionlaw08.PointScales", spec := "pointScales", unfollowed := true, recurses := true, apart := false, narrowed := true }
def PointScalesUptoSaid : Prop := pointScalesUptoRow.holds Tryz.pinned (OpenSpec.upto pointScalesSpec)

/-- 'fluxionlaw08.PointOwn', WHERE WHAT IT READS IS OF BULK AT MOST 1048576: true; the input reads as it did. -/
def pointOwnUptoRow : OpenClaim := { program := "ytlknmoegngjpcaagreat", sum := "13215e81157bf603099f32fa55b0e526f9f2df53b5bae5fc69d22673b916ec7c", func := "fluxion/fluxionlaw08.PointOwn", spec := "pointOwn", unfollowed := true, recurses := true, apart := false, narrowed := true }
def PointOwnUptoSaid : Prop := pointOwnUptoRow.holds Tryz.pinned (OpenSpec.upto pointOwnSpec)

/-- 'fluxionlaw08.PointField', WHERE WHAT IT READS IS OF BULK AT MOST 1048576: true; the input reads as it did. -/
def pointFieldUptoRow : OpenClaim := { program := "ytlknmoegngjpcaagreat", sum := "13215e81157bf603099f32fa55b0e526f9f2df53b5bae5fc69d22673b916ec7c", func := "fluxion/fluxionlaw08.PointField", spec := "pointField", unfollowed := true, recurses := true, apart := false, narrowed := true }
def PointFieldUptoSaid : Prop := pointFieldUptoRow.holds Tryz.pinned (OpenSpec.upto pointFieldSpec)

/-- 'fluxionlaw08.PointRelus', WHERE WHAT IT READS IS OF BULK AT MOST 1048576: true; the input reads as it did. -/
def pointRelusUptoRow : OpenClaim := { program := "ytlknmoegngjpcaagreat", sum := "13215e81157bf603099f32fa55b0e526f9f2df53b5bae5fc69d22673b916ec7c", func := "fluxion/fluxionlaw08.PointRelus", spec := "pointRelus", unfollowed := true, recurses := true, apart := false, narrowed := true }
def PointRelusUptoSaid : Prop := pointRelusUptoRow.holds Tryz.pinned (OpenSpec.upto pointRelusSpec)

end Rows
end Go.Proofs.YtlknmoegngjpcaaGreat
