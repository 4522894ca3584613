/-
  No cell of these rows narrows 'for every input' (looked for: loops, veiled, ifaces, maps, wideKeys, modest, calm, conditions, laid).
  DERIVED. THE GIVEN ROWS OF THIS SEAT. 9 by the template 'for every input the law returns true; each argument reads behind the call as it read before'; 0 by the template 'total and deterministic' (their statements: YtodpbkcdcchljaaTotals.lean).
  GIVEN WITH THE SEED: the statements are not yours to turn. If you find one false, say at which input.
  Laid BY PROGRAM, IN A SANDBOX (cutbox-rows.mjs): the forced cells as the released guide's own fill.sh prints them over the translation 73540c95b96b7fdb… (all of the seat's roots in one cut). By AI agents, Wed Nov 11 2026. No macro, syntax, notation, axiom, sorry.
-/
import Derived.Test.YtodpbkcdcchljaaChecked
import GoSem.Claim
import GoSem.ClaimJoined
import GoSem.ClaimMapViews
import Derived.JoinedTies
import Derived.KernelRfl
namespace Go.Proofs.Ytodpbkcdcchljaa
/- THE CELL 'sum', in the pinned program and in every row, IS THE sha256 OF THE DUMP (.gsa) THAT YtodpbkcdcchljaaProg.lean LOADS. Nothing in Lean hashes anything: it is a label: what it is worth is what the hold of that sum in a sandbox is worth. -/
noncomputable def Try.pinned : Pinned := { name := "ytodpbkcdcchljaa", sum := "73540c95b96b7fdbb70b50f4e7405f1fec38027c267250b24bf761b5fc44a825", checked := Try.checked }
namespace Rows
def none {H : Type} : Left H := { results := [], args := [] }

/-- 'fluxionlaw03.RatMay': WHATEVER THE INPUT: true; the input reads as it did. -/
def ratMaySpec : ChangeSpec := { name := "ratMay", fn := fun _ => fun
  | [d] => { results := [.lit (.bool true)], args := [d] }
  | _ => none }
def ratMayRow : OpenClaim := { program := "ytodpbkcdcchljaa", sum := "73540c95b96b7fdbb70b50f4e7405f1fec38027c267250b24bf761b5fc44a825", func := "fluxion/fluxionlaw03.RatMay", spec := "ratMay", unfollowed := true, recurses := true, apart := false }
def RatMaySaid : Prop := ratMayRow.holds Try.pinned (OpenSpec.ofChange ratMaySpec)

/-- ITS FALSE NEIGHBOUR: 'it returns false'. Refute it at one input. -/
def ratMayWrong : ChangeSpec := { name := "ratMay", fn := fun _ => fun
  | [d] => { results := [.lit (.bool false)], args := [d] }
  | _ => none }
def RatMayWrongFalsely : Prop := ratMayRow.holds Try.pinned (OpenSpec.ofChange ratMayWrong)

/-- 'fluxionlaw03.RatMakes': WHATEVER THE INPUT: true; the input reads as it did. -/
def ratMakesSpec : ChangeSpec := { name := "ratMakes", fn := fun _ => fun
  | [d1, d2, d3] => { results := [.lit (.bool true)], args := [d1, d2, d3] }
  | _ => none }
def ratMakesRow : OpenClaim := { program := "ytodpbkcdcchljaa", sum := "73540c95b96b7fdbb70b50f4e7405f1fec38027c267250b24bf761b5fc44a825", func := "fluxion/fluxionlaw03.RatMakes", spec := "ratMakes", unfollowed := true, recurses := true, apart := false }
def RatMakesSaid : Prop := ratMakesRow.holds Try.pinned (OpenSpec.ofChange ratMakesSpec)

/-- ITS FALSE NEIGHBOUR: 'it returns false'. Refute it at one input. -/
def ratMakesWrong : ChangeSpec := { name := "ratMakes", fn := fun _ => fun
  | [d1, d2, d3] => { results := [.lit (.bool false)], args := [d1, d2, d3] }
  | _ => none }
def RatMakesWrongFalsely : Prop := ratMakesRow.holds Try.pinned (OpenSpec.ofChange ratMakesWrong)

/-- 'fluxionlaw03.RatFracs': WHATEVER THE INPUT: true; the input reads as it did. -/
def ratFracsSpec : ChangeSpec := { name := "ratFracs", fn := fun _ => fun
  | [d1, d2] => { results := [.lit (.bool true)], args := [d1, d2] }
  | _ => none }
def ratFracsRow : OpenClaim := { program := "ytodpbkcdcchljaa", sum := "73540c95b96b7fdbb70b50f4e7405f1fec38027c267250b24bf761b5fc44a825", func := "fluxion/fluxionlaw03.RatFracs", spec := "ratFracs", unfollowed := true, recurses := true, apart := false }
def RatFracsSaid : Prop := ratFracsRow.holds Try.pinned (OpenSpec.ofChange ratFracsSpec)

/-- ITS FALSE NEIGHBOUR: 'it returns false'. Refute it at one input. -/
def ratFracsWrong : ChangeSpec := { name := "ratFracs", fn := fun _ => fun
  | [d1, d2] => { results := [.lit (.bool false)], args := [d1, d2] }
  | _ => none }
def RatFracsWrongFalsely : Prop := ratFracsRow.holds Try.pinned (OpenSpec.ofChange ratFracsWrong)

/-- 'fluxionlaw03.RatSums': WHATEVER THE INPUT: true; the input reads as it did. -/
def ratSumsSpec : ChangeSpec := { name := "ratSums", fn := fun _ => fun
  | [d1, d2] => { results := [.lit (.bool true)], args := [d1, d2] }
  | _ => none }
def ratSumsRow : OpenClaim := { program := "ytodpbkcdcchljaa", sum := "73540c95b96b7fdbb70b50f4e7405f1fec38027c267250b24bf761b5fc44a825", func := "fluxion/fluxionlaw03.RatSums", spec := "ratSums", unfollowed := true, recurses := true, apart := false }
def RatSumsSaid : Prop := ratSumsRow.holds Try.pinned (OpenSpec.ofChange ratSumsSpec)

/-- ITS FALSE NEIGHBOUR: 'it returns false'. Refute it at one input. -/
def ratSumsWrong : ChangeSpec := { name := "ratSums", fn := fun _ => fun
  | [d1, d2] => { results := [.lit (.bool false)], args := [d1, d2] }
  | _ => none }
def RatSumsWrongFalsely : Prop := ratSumsRow.holds Try.pinned (OpenSpec.ofChange ratSumsWrong)

/-- 'fluxionlaw03.RatQuotients': WHATEVER THE INPUT: true; the input reads as it did. -/
def ratQuotientsSpec : ChangeSpec := { name := "ratQuotients", fn := fun _ => fun
  | [d1, d2] => { results := [.lit (.bool true)], args := [d1, d2] }
  | _ => none }
def ratQuotientsRow : OpenClaim := { program := "ytodpbkcdcchljaa", sum := "73540c95b96b7fdbb70b50f4e7405f1fec38027c267250b24bf761b5fc44a825", func := "fluxion/fluxionlaw03.RatQuotients", spec := "ratQuotients", unfollowed := true, recurses := true, apart := false }
def RatQuotientsSaid : Prop := ratQuotientsRow.holds Try.pinned (OpenSpec.ofChange ratQuotientsSpec)

/-- ITS FALSE NEIGHBOUR: 'it returns false'. Refute it at one input. -/
def ratQuotientsWrong : ChangeSpec := { name := "ratQuotients", fn := fun _ => fun
  | [d1, d2] => { results := [.lit (.bool false)], args := [d1, d2] }
  | _ => none }
def RatQuotientsWrongFalsely : Prop := ratQuotientsRow.holds Try.pinned (OpenSpec.ofChange ratQuotientsWrong)

/-- 'fluxionlaw03.RatField': WHATEVER THE INPUT: true; the input reads as it did. -/
def ratFieldSpec : ChangeSpec := { name := "ratField", fn := fun _ => fun
  | [d1, d2, d3] => { results := [.lit (.bool true)], args := [d1, d2, d3] }
  | _ => none }
def ratFieldRow : OpenClaim := { program := "ytodpbkcdcchljaa", sum := "73540c95b96b7fdbb70b50f4e7405f1fec38027c267250b24bf761b5fc44a825", func := "fluxion/fluxionlaw03.RatField", spec := "ratField", unfollowed := true, recurses := true, apart := false }
def RatFieldSaid : Prop := ratFieldRow.holds Try.pinned (OpenSpec.ofChange ratFieldSpec)

/-- ITS FALSE NEIGHBOUR: 'it returns false'. Refute it at one input. -/
def ratFieldWrong : ChangeSpec := { name := "ratField", fn := fun _ => fun
  | [d1, d2, d3] => { results := [.lit (.bool false)], args := [d1, d2, d3] }
  | _ => none }
def RatFieldWrongFalsely : Prop := ratFieldRow.holds Try.pinned (OpenSpec.ofChange ratFieldWrong)

/-- 'fluxionlaw03.RatGoes': WHATEVER THE INPUT: true; the input reads as it did. -/
def ratGoesSpec : ChangeSpec := { name := "ratGoes", fn := fun _ => fun
  | [d1, d2, d3] => { results := [.lit (.bool true)], args := [d1, d2, d3] }
  | _ => none }
def ratGoesRow : OpenClaim := { program := "ytodpbkcdcchljaa", sum := "73540c95b96b7fdbb70b50f4e7405f1fec38027c267250b24bf761b5fc44a825", func := "fluxion/fluxionlaw03.RatGoes", spec := "ratGoes", unfollowed := true, recurses := true, apart := false }
def RatGoesSaid : Prop := ratGoesRow.holds Try.pinned (OpenSpec.ofChange ratGoesSpec)

/-- ITS FALSE NEIGHBOUR: 'it returns false'. Refute it at one input. -/
def ratGoesWrong : ChangeSpec := { name := "ratGoes", fn := fun _ => fun
  | [d1, d2, d3] => { results := [.lit (.bool false)], args := [d1, d2, d3] }
  | _ => none }
def RatGoesWrongFalsely : Prop := ratGoesRow.holds Try.pinned (OpenSpec.ofChange ratGoesWrong)

/-- 'fluxionlaw03.RatOrders': WHATEVER THE INPUT: true; the input reads as it did. -/
def ratOrdersSpec : ChangeSpec := { name := "ratOrders", fn := fun _ => fun
  | [d1, d2] => { results := [.lit (.bool true)], args := [d1, d2] }
  | _ => none }
def ratOrdersRow : OpenClaim := { program := "ytodpbkcdcchljaa", sum := "73540c95b96b7fdbb70b50f4e7405f1fec38027c267250b24bf761b5fc44a825", func := "fluxion/fluxionlaw03.RatOrders", spec := "ratOrders", unfollowed := true, recurses := true, apart := false }
def RatOrdersSaid : Prop := ratOrdersRow.holds Try.pinned (OpenSpec.ofChange ratOrdersSpec)

/-- ITS FALSE NEIGHBOUR: 'it returns false'. Refute it at one input. -/
def ratOrdersWrong : ChangeSpec := { name := "ratOrders", fn := fun _ => fun
  | [d1, d2] => { results := [.lit (.bool false)], args := [d1, d2] }
  | _ => none }
def RatOrdersWrongFalsely : Prop := ratOrdersRow.holds Try.pinned (OpenSpec.ofChange ratOrdersWrong)

/-- 'fluxionlaw03.RatOwn': WHATEVER THE INPUT: true; the input reads as it did. -/
def ratOwnSpec : ChangeSpec := { name := "ratOwn", fn := fun _ => fun
  | [d1, d2] => { results := [.lit (.bool true)], args := [d1, d2] }
  | _ => none }
def ratOwnRow : OpenClaim := { program := "ytodpbkcdcchljaa", sum := "73540c95b96b7fdbb70b50f4e7405f1fec38027c267250b24bf761b5fc44a825", func := "fluxion/fluxionlaw03.RatOwn", spec := "ratOwn", unfollowed := true, recurses := true, apart := false }
def RatOwnSaid : Prop := ratOwnRow.holds Try.pinned (OpenSpec.ofChange ratOwnSpec)

/-- ITS FALSE NEIGHBOUR: 'it returns false'. Refute it at one input. -/
def ratOwnWrong : ChangeSpec := { name := "ratOwn", fn := fun _ => fun
  | [d1, d2] => { results := [.lit (.bool false)], args := [d1, d2] }
  | _ => none }
def RatOwnWrongFalsely : Prop := ratOwnRow.holds Try.pinned (OpenSpec.ofChange ratOwnWrong)

/- THE SECOND FORM. 'bulk': how many values and letters a reading holds, each counted each time it is reached (what is shared counts as often as it is met; a slice's spare places count too). A statement '..UptoSaid' is the law's where the arguments, and the package variables that the reading takes, are together of bulk at most 1048576: NARROWER than '..Said'. Prove '..Said' where nothing that the law and all that it calls make is longer than what came in: it says more and counts as full. Else prove '..UptoSaid'. A law counts once. -/
mutual
def uptoBulk {H : Type} : DataW H → Nat
  | .lit (.string bytes) => bytes.length + 1
  | .lit _ => 1
  | .nil => 1
  | .ptr d => uptoBulk d + 1
  | .slice elems spare => uptoBulkAll elems + uptoBulkAll spare + 1
  | .agg parts => uptoBulkAll parts + 1
  | .iface _ d => uptoBulk d + 1
  | .map entries => uptoBulkEntries entries + 1
  | .held _ => 1
def uptoBulkAll {H : Type} : List (DataW H) → Nat
  | [] => 0
  | d :: r => uptoBulk d + uptoBulkAll r
def uptoBulkEntries {H : Type} : List (Lit × DataW H) → Nat
  | [] => 0
  | x :: r => uptoBulkEntry x + uptoBulkEntries r
def uptoBulkEntry {H : Type} : Lit × DataW H → Nat
  | (.string bytes, d) => bytes.length + uptoBulk d + 1
  | (_, d) => uptoBulk d + 1
 end
def uptoSmall : (H : Type) → List (DataW H) → Bool := fun _ ds => decide (uptoBulkAll ds ≤ 1048576)
def OpenSpec.upto (s : _root_.Go.ChangeSpec) : _root_.Go.OpenSpec := { _root_.Go.OpenSpec.ofChange s with cond := some uptoSmall }

/-- 'fluxionlaw03.RatMay', WHERE WHAT IT READS IS OF BULK AT MOST 1048576: true; the input reads as it did. -/
def ratMayUptoRow : OpenClaim := { program := "ytodpbkcdcchljaa", sum := "73540c95b96b7fdbb70b50f4e7405f1fec38027c267250b24bf761b5fc44a825", func := "fluxion/fluxionlaw03.RatMay", spec := "ratMay", unfollowed := true, recurses := true, apart := false, narrowed := true }
def RatMayUptoSaid : Prop := ratMayUptoRow.holds Try.pinned (OpenSpec.upto ratMaySpec)

/-- 'fluxionlaw03.RatMakes', WHERE WHAT IT READS IS OF BULK AT MOST 1048576: true; the input reads as it did. -/
def ratMakesUptoRow : OpenClaim := { program := "ytodpbkcdcchljaa", sum := "73540c95b96b7fdbb70b50f4e7405f1fec38027c267250b24bf761b5fc44a825", func := "fluxion/fluxionlaw03.RatMakes", spec := "ratMakes", unfollowed := true, recurses := true, apart := false, narrowed := true }
def RatMakesUptoSaid : Prop := ratMakesUptoRow.holds Try.pinned (OpenSpec.upto ratMakesSpec)

/-- 'fluxionlaw03.RatFracs', WHERE WHAT IT READS IS OF BULK AT MOST 1048576: true; the input reads as it did. -/
def ratFracsUptoRow : OpenClaim := { program := "ytodpbkcdcchljaa", sum := "73540c95b96b7fdbb70b50f4e7405f1fec38027c267250b24bf761b5fc44a825", func := "fluxion/fluxionlaw03.RatFracs", spec := "ratFracs", unfollowed := true, recurses := true, apart := false, narrowed := true }
def RatFracsUptoSaid : Prop := ratFracsUptoRow.holds Try.pinned (OpenSpec.upto ratFracsSpec)

/-- 'fluxionlaw03.RatSums', WHERE WHAT IT READS IS OF BULK AT MOST 1048576: true; the input reads as it did. -/
def ratSumsUptoRow : OpenClaim := { program := "ytodpbkcdcchljaa", sum := "73540c95b96b7fdbb70b50f4e7405f1fec38027c267250b24bf761b5fc44a825", func := "fluxion/fluxionlaw03.RatSums", spec := "ratSums", unfollowed := true, recurses := true, apart := false, narrowed := true }
def RatSumsUptoSaid : Prop := ratSumsUptoRow.holds Try.pinned (OpenSpec.upto ratSumsSpec)

/-- 'fluxionlaw03.RatQuotients', WHERE WHAT IT READS IS OF BULK AT MOST 1048576: true; the input reads as it did. -/
def ratQuotientsUptoRow : OpenClaim := { program := "ytodpbkcdcchljaa", sum := "73540c95b96b7fdbb70b50f4e7405f1fec38027c267250b24bf761b5fc44a825", func := "fluxion/fluxionlaw03.RatQuotients", spec := "ratQuotients", unfollowed := true, recurses := true, apart := false, narrowed := true }
def RatQuotientsUptoSaid : Prop := ratQuotientsUptoRow.holds Try.pinned (OpenSpec.upto ratQuotientsSpec)

/-- 'fluxionlaw03.RatField', WHERE WHAT IT READS IS OF BULK AT MOST 1048576: true; the input reads as it did. -/
def ratFieldUptoRow : OpenClaim := { program := "ytodpbkcdcchljaa", sum := "73540c95b96b7fdbb70b50f4e7405f1fec38027c267250b24bf761b5fc44a825", func := "fluxion/fluxionlaw03.RatField", spec := "ratField", unfollowed := true, recurses := true, apart := false, narrowed := true }
def RatFieldUptoSaid : Prop := ratFieldUptoRow.holds Try.pinned (OpenSpec.upto ratFieldSpec)

/-- 'fluxionlaw03.RatGoes', WHERE WHAT IT READS IS OF BULK AT MOST 1048576: true; the input reads as it did. -/
def ratGoesUptoRow : OpenClaim := { program := "ytodpbkcdcchljaa", sum := "73540c95b96b7fdbb70b50f4e7405f1fec38027c267250b24bf761b5fc44a825", func := "fluxion/fluxionlaw03.RatGoes", spec := "ratGoes", unfollowed := true, recurses := true, apart := false, narrowed := true }
def RatGoesUptoSaid : Prop := ratGoesUptoRow.holds Try.pinned (OpenSpec.upto ratGoesSpec)

/-- 'fluxionlaw03.RatOrders', WHERE WHAT IT READS IS OF BULK AT MOST 1048576: true; the input reads as it did. -/
def ratOrdersUptoRow : OpenClaim := { program := "ytodpbkcdcchljaa", sum := "73540c95b96b7fdbb70b50f4e7405f1fec38027c267250b24bf761b5fc44a825", func := "fluxion/fluxionlaw03.RatOrders", spec := "ratOrders", unfollowed := true, recurses := true, apart := false, narrowed := true }
def RatOrdersUptoSaid : Prop := ratOrdersUptoRow.holds Try.pinned (OpenSpec.upto ratOrdersSpec)

/-- 'fluxionlaw03.RatOwn', WHERE WHAT IT READS IS OF BULK AT MOST 1048576: true; the input reads as it did. -/
def ratOwnUptoRow : OpenClaim := { program := "ytodpbkcdcchljaa", sum := "73540c95b96b7fdbb70b50f4e7405f1fec38027c267250b24bf761b5fc44a825", func := "fluxion/fluxionlaw03.RatOwn", spec := "ratOwn", unfollowed := true, recurses := true, apart := false, narrowed := true }
def RatOwnUptoSaid : Prop := ratOwnUptoRow.holds Try.pinned (OpenSpec.upto ratOwnSpec)

end Rows
end Go.Proofs.Ytodpbkcdcchljaa
