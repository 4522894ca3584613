/-
  No cell of these rows narrows 'for every input' (looked for: loops, veiled, ifaces, maps, wideKeys, modest, calm, conditions, laid).
  DERIVED. THE GIVEN ROWS OF THIS SEAT. 2 by the template 'for every input the law returns true; each argument reads behind the call as it read before'; 0 by the template 'total and deterministic' (their statements: YtjnojkfkhccgaaaTotals.lean).
  GIVEN WITH THE SEED: the statements are not yours to turn. If you find one false, say at which input.
  Laid BY PROGRAM, IN A SANDBOX (cutbox-rows.mjs): the forced cells as the released guide's own fill.sh prints them over the translation 32a13e5c35e1af6a… (all of the seat's roots in one cut). By AI agents, Wed Nov 11 2026. No macro, syntax, notation, axiom, sorry.
-/
import Derived.Test.YtjnojkfkhccgaaaChecked
import GoSem.Claim
import GoSem.ClaimJoined
import GoSem.ClaimMapViews
import Derived.JoinedTies
import Derived.KernelRfl
namespace Go.Proofs.Ytjnojkfkhccgaaa
/- THE CELL 'sum', in the pinned program and in every row, IS THE sha256 OF THE DUMP (.gsa) THAT YtjnojkfkhccgaaaProg.lean LOADS. Nothing in Lean hashes anything: it is a label: what it is worth is what the hold of that sum in a sandbox is worth. -/
noncomputable def Try.pinned : Pinned := { name := "ytjnojkfkhccgaaa", sum := "32a13e5c35e1af6aa315b249adbe933e8b79edbde2632b79fabed57b829079e8", checked := Try.checked }
namespace Rows
def none {H : Type} : Left H := { results := [], args := [] }

/-- 'fluxionlaw07.TensorMay': WHATEVER THE INPUT: true; the input reads as it did. -/
def tensorMaySpec : ChangeSpec := { name := "tensorMay", fn := fun _ => fun
  | [d] => { results := [.lit (.bool true)], args := [d] }
  | _ => none }
def tensorMayRow : OpenClaim := { program := "ytjnojkfkhccgaaa", sum := "32a13e5c35e1af6aa315b249adbe933e8b79edbde2632b79fabed57b829079e8", func := "fluxion/fluxionlaw07.TensorMay", spec := "tensorMay", unfollowed := true, recurses := true, apart := false }
def TensorMaySaid : Prop := tensorMayRow.holds Try.pinned (OpenSpec.ofChange tensorMaySpec)

/-- ITS FALSE NEIGHBOUR: 'it returns false'. Refute it at one input. -/
def tensorMayWrong : ChangeSpec := { name := "tensorMay", fn := fun _ => fun
  | [d] => { results := [.lit (.bool false)], args := [d] }
  | _ => none }
def TensorMayWrongFalsely : Prop := tensorMayRow.holds Try.pinned (OpenSpec.ofChange tensorMayWrong)

/-- 'fluxionlaw07.TensorLinear': WHATEVER THE INPUT: true; the input reads as it did. -/
def tensorLinearSpec : ChangeSpec := { name := "tensorLinear", fn := fun _ => fun
  | [d1, d2, d3, d4] => { results := [.lit (.bool true)], args := [d1, d2, d3, d4] }
  | _ => none }
def tensorLinearRow : OpenClaim := { program := "ytjnojkfkhccgaaa", sum := "32a13e5c35e1af6aa315b249adbe933e8b79edbde2632b79fabed57b829079e8", func := "fluxion/fluxionlaw07.TensorLinear", spec := "tensorLinear", unfollowed := true, recurses := true, apart := false }
def TensorLinearSaid : Prop := tensorLinearRow.holds Try.pinned (OpenSpec.ofChange tensorLinearSpec)

/-- ITS FALSE NEIGHBOUR: 'it returns false'. Refute it at one input. -/
def tensorLinearWrong : ChangeSpec := { name := "tensorLinear", fn := fun _ => fun
  | [d1, d2, d3, d4] => { results := [.lit (.bool false)], args := [d1, d2, d3, d4] }
  | _ => none }
def TensorLinearWrongFalsely : Prop := tensorLinearRow.holds Try.pinned (OpenSpec.ofChange tensorLinearWrong)

/- THE SECOND FORM. 'bulk': how many values and letters a reading holds, each counted each time it is reached (what is shared counts as often as it is met; a slice's spare places count too). A statement '..UptoSaid' is the law's where the arguments, and the package variables that the reading takes, are together of bulk at most 1048576: NARROWER than '..Said'. Prove '..Said' where nothing that the law and all that it calls make is longer than what came in: it says more and counts as full. Else prove '..UptoSaid'. A law counts once. -/
mutual
def uptoBulk {H : Type} : DataW H → Nat
  | .lit (.string bytes) => bytes.length + 1
  | .lit _ => 1
  | .nil => 1
  | .ptr d => uptoBulk d + 1
  | .slice elems spare => uptoBulkAll elems + uptoBulkAll spare + 1
  | .agg parts => uptoBulkAll parts + 1
  | .iface _ d => uptoBulk d + 1
  | .map entries => uptoBulkEntries entries + 1
  | .held _ => 1
def uptoBulkAll {H : Type} : List (DataW H) → Nat
  | [] => 0
  | d :: r => uptoBulk d + uptoBulkAll r
def uptoBulkEntries {H : Type} : List (Lit × DataW H) → Nat
  | [] => 0
  | x :: r => uptoBulkEntry x + uptoBulkEntries r
def uptoBulkEntry {H : Type} : Lit × DataW H → Nat
  | (.string bytes, d) => bytes.length + uptoBulk d + 1
  | (_, d) => uptoBulk d + 1
 end
def uptoSmall : (H : Type) → List (DataW H) → Bool := fun _ ds => decide (uptoBulkAll ds ≤ 1048576)
def OpenSpec.upto (s : _root_.Go.ChangeSpec) : _root_.Go.OpenSpec := { _root_.Go.OpenSpec.ofChange s with cond := some uptoSmall }

/-- 'fluxionlaw07.TensorMay', WHERE WHAT IT READS IS OF BULK AT MOST 1048576: true; the input reads as it did. -/
def tensorMayUptoRow : OpenClaim := { program := "ytjnojkfkhccgaaa", sum := "32a13e5c35e1af6aa315b249adbe933e8b79edbde2632b79fabed57b829079e8", func := "fluxion/fluxionlaw07.TensorMay", spec := "tensorMay", unfollowed := true, recurses := true, apart := false, narrowed := true }
def TensorMayUptoSaid : Prop := tensorMayUptoRow.holds Try.pinned (OpenSpec.upto tensorMaySpec)

/-- 'fluxionlaw07.TensorLinear', WHERE WHAT IT READS IS OF BULK AT MOST 1048576: true; the input reads as it did. -/
def tensorLinearUptoRow : OpenClaim := { program := "ytjnojkfkhccgaaa", sum := "32a13e5c35e1af6aa315b249adbe933e8b79edbde2632b79fabed57b829079e8", func := "fluxion/fluxionlaw07.TensorLinear", spec := "tensorLinear", unfollowed := true, recurses := true, apart := false, narrowed := true }
def TensorLinearUptoSaid : Prop := tensorLinearUptoRow.holds Try.pinned (OpenSpec.upto tensorLinearSpec)

end Rows
end Go.Proofs.Ytjnojkfkhccgaaa
