/-
  No cell of these rows narrows 'for every input' (looked for: loops, veiled, ifaces, maps, wideKeys, modest, calm, conditions, laid).
  DERIVED. THE GIVEN ROWS OF THIS SEAT. 5 by the template 'for every input the law returns true; each argument reads behind the call as it read before'; 0 by the template 'total and deterministic' (their statements: YtjnojkfkhccgaaaGreatTotals.lean).
  GIVEN WITH THE SEED: the statements are not yours to turn. If you find one false, say at which input.
  Laid BY PROGRAM, IN A SANDBOX (cutbox-rows.mjs): the forced cells as the released guide's own fill.sh prints them over the translation 00176041f80ff27b… (all of the seat's roots in one cut). By AI agents, Wed Nov 11 2026. No macro, syntax, notation, axiom, sorry.
-/
import Derived.Test.YtjnojkfkhccgaaaGreatChecked
import GoSem.Claim
import GoSem.ClaimJoined
import GoSem.ClaimMapViews
import Derived.JoinedTies
import Derived.KernelRfl
namespace Go.Proofs.YtjnojkfkhccgaaaGreat
/- THE CELL 'sum', in the pinned program and in every row, IS THE sha256 OF THE DUMP (.gsa) THAT YtjnojkfkhccgaaaGreatProg.lean LOADS. Nothing in Lean hashes anything: it is a label: what it is worth is what the hold of that sum in a sandbox is worth. -/
noncomputable def Tryz.pinned : Pinned := { name := "ytjnojkfkhccgaaagreat", sum := "00176041f80ff27bf26a0389fdf9c7a2fb9328c66231f89b42ceb7794703661b", checked := Tryz.checked }
namespace Rows
def none {H : Type} : Left H := { results := [], args := [] }

/-- 'fluxionlaw07.TensorMakes': WHATEVER THE INPUT: true; the input reads as it did. -/
def tensorMakesSpec : ChangeSpec := { name := "tensorMakes", fn := fun _ => fun
  | [d] => { results := [.lit (.bool true)], args := [d] }
  | _ => none }
def tensorMakesRow : OpenClaim := { program := "ytjnojkfkhccgaaagreat", sum := "00176041f80ff27bf26a0389fdf9c7a2fb9328c66231f89b42ceb7794703661b", func := "fluxion/fluxionlaw07.TensorMakes", spec := "tensorMakes", unfollowed := true, recurses := true, apart := false }
def TensorMakesSaid : Prop := tensorMakesRow.holds Tryz.pinned (OpenSpec.ofChange tensorMakesSpec)

/-- ITS FALSE NEIGHBOUR: 'it returns false'. Refute it at one input. -/
def tensorMakesWrong : ChangeSpec := { name := "tensorMakes", fn := fun _ => fun
  | [d] => { results := [.lit (.bool false)], args := [d] }
  | _ => none }
def TensorMakesWrongFalsely : Prop := tensorMakesRow.holds Tryz.pinned (OpenSpec.ofChange tensorMakesWrong)

/-- 'fluxionlaw07.TensorAt': WHATEVER THE INPUT: true; the input reads as it did. -/
def tensorAtSpec : ChangeSpec := { name := "tensorAt", fn := fun _ => fun
  | [d1, d2] => { results := [.lit (.bool true)], args := [d1, d2] }
  | _ => none }
def tensorAtRow : OpenClaim := { program := "ytjnojkfkhccgaaagreat", sum := "00176041f80ff27bf26a0389fdf9c7a2fb9328c66231f89b42ceb7794703661b", func := "fluxion/fluxionlaw07.TensorAt", spec := "tensorAt", unfollowed := true, recurses := true, apart := false }
def TensorAtSaid : Prop := tensorAtRow.holds Tryz.pinned (OpenSpec.ofChange tensorAtSpec)

/-- ITS FALSE NEIGHBOUR: 'it returns false'. Refute it at one input. -/
def tensorAtWrong : ChangeSpec := { name := "tensorAt", fn := fun _ => fun
  | [d1, d2] => { results := [.lit (.bool false)], args := [d1, d2] }
  | _ => none }
def TensorAtWrongFalsely : Prop := tensorAtRow.holds Tryz.pinned (OpenSpec.ofChange tensorAtWrong)

/-- 'fluxionlaw07.TensorDots': WHATEVER THE INPUT: true; the input reads as it did. -/
def tensorDotsSpec : ChangeSpec := { name := "tensorDots", fn := fun _ => fun
  | [d1, d2] => { results := [.lit (.bool true)], args := [d1, d2] }
  | _ => none }
def tensorDotsRow : OpenClaim := { program := "ytjnojkfkhccgaaagreat", sum := "00176041f80ff27bf26a0389fdf9c7a2fb9328c66231f89b42ceb7794703661b", func := "fluxion/fluxionlaw07.TensorDots", spec := "tensorDots", unfollowed := true, recurses := true, apart := false }
def TensorDotsSaid : Prop := tensorDotsRow.holds Tryz.pinned (OpenSpec.ofChange tensorDotsSpec)

/-- ITS FALSE NEIGHBOUR: 'it returns false'. Refute it at one input. -/
def tensorDotsWrong : ChangeSpec := { name := "tensorDots", fn := fun _ => fun
  | [d1, d2] => { results := [.lit (.bool false)], args := [d1, d2] }
  | _ => none }
def TensorDotsWrongFalsely : Prop := tensorDotsRow.holds Tryz.pinned (OpenSpec.ofChange tensorDotsWrong)

/-- 'fluxionlaw07.TensorFull': WHATEVER THE INPUT: true; the input reads as it did. -/
def tensorFullSpec : ChangeSpec := { name := "tensorFull", fn := fun _ => fun
  | [d1, d2, d3] => { results := [.lit (.bool true)], args := [d1, d2, d3] }
  | _ => none }
def tensorFullRow : OpenClaim := { program := "ytjnojkfkhccgaaagreat", sum := "00176041f80ff27bf26a0389fdf9c7a2fb9328c66231f89b42ceb7794703661b", func := "fluxion/fluxionlaw07.TensorFull", spec := "tensorFull", unfollowed := true, recurses := true, apart := false }
def TensorFullSaid : Prop := tensorFullRow.holds Tryz.pinned (OpenSpec.ofChange tensorFullSpec)

/-- ITS FALSE NEIGHBOUR: 'it returns false'. Refute it at one input. -/
def tensorFullWrong : ChangeSpec := { name := "tensorFull", fn := fun _ => fun
  | [d1, d2, d3] => { results := [.lit (.bool false)], args := [d1, d2, d3] }
  | _ => none }
def TensorFullWrongFalsely : Prop := tensorFullRow.holds Tryz.pinned (OpenSpec.ofChange tensorFullWrong)

/-- 'fluxionlaw07.TensorOwn': WHATEVER THE INPUT: true; the input reads as it did. -/
def tensorOwnSpec : ChangeSpec := { name := "tensorOwn", fn := fun _ => fun
  | [d] => { results := [.lit (.bool true)], args := [d] }
  | _ => none }
def tensorOwnRow : OpenClaim := { program := "ytjnojkfkhccgaaagreat", sum := "00176041f80ff27bf26a0389fdf9c7a2fb9328c66231f89b42ceb7794703661b", func := "fluxion/fluxionlaw07.TensorOwn", spec := "tensorOwn", unfollowed := true, recurses := true, apart := false }
def TensorOwnSaid : Prop := tensorOwnRow.holds Tryz.pinned (OpenSpec.ofChange tensorOwnSpec)

/-- ITS FALSE NEIGHBOUR: 'it returns false'. Refute it at one input. -/
def tensorOwnWrong : ChangeSpec := { name := "tensorOwn", fn := fun _ => fun
  | [d] => { results := [.lit (.bool false)], args := [d] }
  | _ => none }
def TensorOwnWrongFalsely : Prop := tensorOwnRow.holds Tryz.pinned (OpenSpec.ofChange tensorOwnWrong)

/- THE SECOND FORM. 'bulk': how many values and letters a reading holds, each counted each time it is reached (what is shared counts as often as it is met; a slice's spare places count too). A statement '..UptoSaid' is the law's where the arguments, and the package variables that the reading takes, are together of bulk at most 1048576: NARROWER than '..Said'. Prove '..Said' where nothing that the law and all that it calls make is longer than what came in: it says more and counts as full. Else prove '..UptoSaid'. A law counts once. -/
mutual
def uptoBulk {H : Type} : DataW H → Nat
  | .lit (.string bytes) => bytes.length + 1
  | .lit _ => 1
  | .nil => 1
  | .ptr d => uptoBulk d + 1
  | .slice elems spare => uptoBulkAll elems + uptoBulkAll spare + 1
  | .agg parts => uptoBulkAll parts + 1
  | .iface _ d => uptoBulk d + 1
  | .map entries => uptoBulkEntries entries + 1
  | .held _ => 1
def uptoBulkAll {H : Type} : List (DataW H) → Nat
  | [] => 0
  | d :: r => uptoBulk d + uptoBulkAll r
def uptoBulkEntries {H : Type} : List (Lit × DataW H) → Nat
  | [] => 0
  | x :: r => uptoBulkEntry x + uptoBulkEntries r
def uptoBulkEntry {H : Type} : Lit × DataW H → Nat
  | (.string bytes, d) => bytes.length + uptoBulk d + 1
  | (_, d) => uptoBulk d + 1
 end
def uptoSmall : (H : Type) → List (DataW H) → Bool := fun _ ds => decide (uptoBulkAll ds ≤ 1048576)
def OpenSpec.upto (s : _root_.Go.ChangeSpec) : _root_.Go.OpenSpec := { _root_.Go.OpenSpec.ofChange s with cond := some uptoSmall }

/-- 'fluxionlaw07.TensorMakes', WHERE WHAT IT READS IS OF BULK AT MOST 1048576: true; the input reads as it did. -/
def tensorMakesUptoRow : OpenClaim := { program := "ytjnojkfkhccgaaagreat", sum := "00176041f80ff27bf26a0389fdf9c7a2fb9328c66231f89b42ceb7794703661b", func := "fluxion/fluxionlaw07.TensorMakes", spec := "tensorMakes", unfollowed := true, recurses := true, apart := false, narrowed := true }
def TensorMakesUptoSaid : Prop := tensorMakesUptoRow.holds Tryz.pinned (OpenSpec.upto tensorMakesSpec)

/-- 'fluxionlaw07.TensorAt', WHERE WHAT IT READS IS OF BULK AT MOST 1048576: true; the input reads as it did. -/
def tensorAtUptoRow : OpenClaim := { program := "ytjnojkfkhccgaaagreat", sum := "00176041f80ff27bf26a0389fdf9c7a2fb9328c66231f89b42ceb7794703661b", func := "fluxion/fluxionlaw07.TensorAt", spec := "tensorAt", unfollowed := true, recurses := true, apart := false, narrowed := true }
def TensorAtUptoSaid : Prop := tensorAtUptoRow.holds Tryz.pinned (OpenSpec.upto tensorAtSpec)

/-- 'fluxionlaw07.TensorDots', WHERE WHAT IT READS IS OF BULK AT MOST 1048576: true; the input reads as it did. -/
def tensorDotsUptoRow : OpenClaim := { program := "ytjnojkfkhccgaaagreat", sum := "00176041f80ff27bf26a0389fdf9c7a2fb9328c66231f89b42ceb7794703661b", func := "fluxion/fluxionlaw07.TensorDots", spec := "tensorDots", unfollowed := true, recurses := true, apart := false, narrowed := true }
def TensorDotsUptoSaid : Prop := tensorDotsUptoRow.holds Tryz.pinned (OpenSpec.upto tensorDotsSpec)

/-- 'fluxionlaw07.TensorFull', WHERE WHAT IT READS IS OF BULK AT MOST 1048576: true; the input reads as it did. -/
def tensorFullUptoRow : OpenClaim := { program := "ytjnojkfkhccgaaagreat", sum := "00176041f80ff27bf26a0389fdf9c7a2fb9328c66231f89b42ceb7794703661b", func := "fluxion/fluxionlaw07.TensorFull", spec := "tensorFull", unfollowed := true, recurses := true, apart := false, narrowed := true }
def TensorFullUptoSaid : Prop := tensorFullUptoRow.holds Tryz.pinned (OpenSpec.upto tensorFullSpec)

/-- 'fluxionlaw07.TensorOwn', WHERE WHAT IT READS IS OF BULK AT MOST 1048576: true; the input reads as it did. -/
def tensorOwnUptoRow : OpenClaim := { program := "ytjnojkfkhccgaaagreat", sum := "00176041f80ff27bf26a0389fdf9c7a2fb9328c66231f89b42ceb7794703661b", func := "fluxion/fluxionlaw07.TensorOwn", spec := "tensorOwn", unfollowed := true, recurses := true, apart := false, narrowed := true }
def TensorOwnUptoSaid : Prop := tensorOwnUptoRow.holds Tryz.pinned (OpenSpec.upto tensorOwnSpec)

end Rows
end Go.Proofs.YtjnojkfkhccgaaaGreat
