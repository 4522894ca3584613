/-
  No cell of these rows narrows 'for every input' (looked for: loops, veiled, ifaces, maps, wideKeys, modest, calm, conditions, laid).
  DERIVED. THE GIVEN ROWS OF THIS SEAT. 11 by the template 'for every input the law returns true; each argument reads behind the call as it read before'; 0 by the template 'total and deterministic' (their statements: YtgfjcifggabahaaTotals.lean).
  GIVEN WITH THE SEED: the statements are not yours to turn. If you find one false, say at which input.
  Laid BY PROGRAM, IN A SANDBOX (cutbox-rows.mjs): the forced cells as the released guide's own fill.sh prints them over the translation c6c7cc58d88ed2b1… (all of the seat's roots in one cut). By AI agents, Wed Nov 11 2026. No macro, syntax, notation, axiom, sorry.
-/
import Derived.Test.YtgfjcifggabahaaChecked
import GoSem.Claim
import GoSem.ClaimJoined
import GoSem.ClaimMapViews
import Derived.JoinedTies
import Derived.KernelRfl
namespace Go.Proofs.Ytgfjcifggabahaa
/- THE CELL 'sum', in the pinned program and in every row, IS THE sha256 OF THE DUMP (.gsa) THAT YtgfjcifggabahaaProg.lean LOADS. Nothing in Lean hashes anything: it is a label: what it is worth is what the hold of that sum in a sandbox is worth. -/
noncomputable def Try.pinned : Pinned := { name := "ytgfjcifggabahaa", sum := "c6c7cc58d88ed2b132d51568d6f38a3967dde58d564c05e0672df97ba7390016", checked := Try.checked }
namespace Rows
def none {H : Type} : Left H := { results := [], args := [] }

/-- 'fluxionlaw02.QuoDivides': WHATEVER THE INPUT: true; the input reads as it did. -/
def quoDividesSpec : ChangeSpec := { name := "quoDivides", fn := fun _ => fun
  | [d1, d2] => { results := [.lit (.bool true)], args := [d1, d2] }
  | _ => none }
def quoDividesRow : OpenClaim := { program := "ytgfjcifggabahaa", sum := "c6c7cc58d88ed2b132d51568d6f38a3967dde58d564c05e0672df97ba7390016", func := "fluxion/fluxionlaw02.QuoDivides", spec := "quoDivides", unfollowed := true, recurses := true, apart := false }
def QuoDividesSaid : Prop := quoDividesRow.holds Try.pinned (OpenSpec.ofChange quoDividesSpec)

/-- ITS FALSE NEIGHBOUR: 'it returns false'. Refute it at one input. -/
def quoDividesWrong : ChangeSpec := { name := "quoDivides", fn := fun _ => fun
  | [d1, d2] => { results := [.lit (.bool false)], args := [d1, d2] }
  | _ => none }
def QuoDividesWrongFalsely : Prop := quoDividesRow.holds Try.pinned (OpenSpec.ofChange quoDividesWrong)

/-- 'fluxionlaw02.QuoBack': WHATEVER THE INPUT: true; the input reads as it did. -/
def quoBackSpec : ChangeSpec := { name := "quoBack", fn := fun _ => fun
  | [d1, d2, d3] => { results := [.lit (.bool true)], args := [d1, d2, d3] }
  | _ => none }
def quoBackRow : OpenClaim := { program := "ytgfjcifggabahaa", sum := "c6c7cc58d88ed2b132d51568d6f38a3967dde58d564c05e0672df97ba7390016", func := "fluxion/fluxionlaw02.QuoBack", spec := "quoBack", unfollowed := true, recurses := true, apart := false }
def QuoBackSaid : Prop := quoBackRow.holds Try.pinned (OpenSpec.ofChange quoBackSpec)

/-- ITS FALSE NEIGHBOUR: 'it returns false'. Refute it at one input. -/
def quoBackWrong : ChangeSpec := { name := "quoBack", fn := fun _ => fun
  | [d1, d2, d3] => { results := [.lit (.bool false)], args := [d1, d2, d3] }
  | _ => none }
def QuoBackWrongFalsely : Prop := quoBackRow.holds Try.pinned (OpenSpec.ofChange quoBackWrong)

/-- 'fluxionlaw02.QuoParts': WHATEVER THE INPUT: true; the input reads as it did. -/
def quoPartsSpec : ChangeSpec := { name := "quoParts", fn := fun _ => fun
  | [d1, d2] => { results := [.lit (.bool true)], args := [d1, d2] }
  | _ => none }
def quoPartsRow : OpenClaim := { program := "ytgfjcifggabahaa", sum := "c6c7cc58d88ed2b132d51568d6f38a3967dde58d564c05e0672df97ba7390016", func := "fluxion/fluxionlaw02.QuoParts", spec := "quoParts", unfollowed := true, recurses := true, apart := false }
def QuoPartsSaid : Prop := quoPartsRow.holds Try.pinned (OpenSpec.ofChange quoPartsSpec)

/-- ITS FALSE NEIGHBOUR: 'it returns false'. Refute it at one input. -/
def quoPartsWrong : ChangeSpec := { name := "quoParts", fn := fun _ => fun
  | [d1, d2] => { results := [.lit (.bool false)], args := [d1, d2] }
  | _ => none }
def QuoPartsWrongFalsely : Prop := quoPartsRow.holds Try.pinned (OpenSpec.ofChange quoPartsWrong)

/-- 'fluxionlaw02.QuoShort': WHATEVER THE INPUT: true; the input reads as it did. -/
def quoShortSpec : ChangeSpec := { name := "quoShort", fn := fun _ => fun
  | [d1, d2] => { results := [.lit (.bool true)], args := [d1, d2] }
  | _ => none }
def quoShortRow : OpenClaim := { program := "ytgfjcifggabahaa", sum := "c6c7cc58d88ed2b132d51568d6f38a3967dde58d564c05e0672df97ba7390016", func := "fluxion/fluxionlaw02.QuoShort", spec := "quoShort", unfollowed := true, recurses := true, apart := false }
def QuoShortSaid : Prop := quoShortRow.holds Try.pinned (OpenSpec.ofChange quoShortSpec)

/-- ITS FALSE NEIGHBOUR: 'it returns false'. Refute it at one input. -/
def quoShortWrong : ChangeSpec := { name := "quoShort", fn := fun _ => fun
  | [d1, d2] => { results := [.lit (.bool false)], args := [d1, d2] }
  | _ => none }
def QuoShortWrongFalsely : Prop := quoShortRow.holds Try.pinned (OpenSpec.ofChange quoShortWrong)

/-- 'fluxionlaw02.QuoGcds': WHATEVER THE INPUT: true; the input reads as it did. -/
def quoGcdsSpec : ChangeSpec := { name := "quoGcds", fn := fun _ => fun
  | [d1, d2] => { results := [.lit (.bool true)], args := [d1, d2] }
  | _ => none }
def quoGcdsRow : OpenClaim := { program := "ytgfjcifggabahaa", sum := "c6c7cc58d88ed2b132d51568d6f38a3967dde58d564c05e0672df97ba7390016", func := "fluxion/fluxionlaw02.QuoGcds", spec := "quoGcds", unfollowed := true, recurses := true, apart := false }
def QuoGcdsSaid : Prop := quoGcdsRow.holds Try.pinned (OpenSpec.ofChange quoGcdsSpec)

/-- ITS FALSE NEIGHBOUR: 'it returns false'. Refute it at one input. -/
def quoGcdsWrong : ChangeSpec := { name := "quoGcds", fn := fun _ => fun
  | [d1, d2] => { results := [.lit (.bool false)], args := [d1, d2] }
  | _ => none }
def QuoGcdsWrongFalsely : Prop := quoGcdsRow.holds Try.pinned (OpenSpec.ofChange quoGcdsWrong)

/-- 'fluxionlaw02.QuoSteps': WHATEVER THE INPUT: true; the input reads as it did. -/
def quoStepsSpec : ChangeSpec := { name := "quoSteps", fn := fun _ => fun
  | [d1, d2] => { results := [.lit (.bool true)], args := [d1, d2] }
  | _ => none }
def quoStepsRow : OpenClaim := { program := "ytgfjcifggabahaa", sum := "c6c7cc58d88ed2b132d51568d6f38a3967dde58d564c05e0672df97ba7390016", func := "fluxion/fluxionlaw02.QuoSteps", spec := "quoSteps", unfollowed := true, recurses := true, apart := false }
def QuoStepsSaid : Prop := quoStepsRow.holds Try.pinned (OpenSpec.ofChange quoStepsSpec)

/-- ITS FALSE NEIGHBOUR: 'it returns false'. Refute it at one input. -/
def quoStepsWrong : ChangeSpec := { name := "quoSteps", fn := fun _ => fun
  | [d1, d2] => { results := [.lit (.bool false)], args := [d1, d2] }
  | _ => none }
def QuoStepsWrongFalsely : Prop := quoStepsRow.holds Try.pinned (OpenSpec.ofChange quoStepsWrong)

/-- 'fluxionlaw02.QuoPowers': WHATEVER THE INPUT: true; the input reads as it did. -/
def quoPowersSpec : ChangeSpec := { name := "quoPowers", fn := fun _ => fun
  | [d1, d2] => { results := [.lit (.bool true)], args := [d1, d2] }
  | _ => none }
def quoPowersRow : OpenClaim := { program := "ytgfjcifggabahaa", sum := "c6c7cc58d88ed2b132d51568d6f38a3967dde58d564c05e0672df97ba7390016", func := "fluxion/fluxionlaw02.QuoPowers", spec := "quoPowers", unfollowed := true, recurses := true, apart := false }
def QuoPowersSaid : Prop := quoPowersRow.holds Try.pinned (OpenSpec.ofChange quoPowersSpec)

/-- ITS FALSE NEIGHBOUR: 'it returns false'. Refute it at one input. -/
def quoPowersWrong : ChangeSpec := { name := "quoPowers", fn := fun _ => fun
  | [d1, d2] => { results := [.lit (.bool false)], args := [d1, d2] }
  | _ => none }
def QuoPowersWrongFalsely : Prop := quoPowersRow.holds Try.pinned (OpenSpec.ofChange quoPowersWrong)

/-- 'fluxionlaw02.QuoSums': WHATEVER THE INPUT: true; the input reads as it did. -/
def quoSumsSpec : ChangeSpec := { name := "quoSums", fn := fun _ => fun
  | [d1, d2, d3] => { results := [.lit (.bool true)], args := [d1, d2, d3] }
  | _ => none }
def quoSumsRow : OpenClaim := { program := "ytgfjcifggabahaa", sum := "c6c7cc58d88ed2b132d51568d6f38a3967dde58d564c05e0672df97ba7390016", func := "fluxion/fluxionlaw02.QuoSums", spec := "quoSums", unfollowed := true, recurses := true, apart := false }
def QuoSumsSaid : Prop := quoSumsRow.holds Try.pinned (OpenSpec.ofChange quoSumsSpec)

/-- ITS FALSE NEIGHBOUR: 'it returns false'. Refute it at one input. -/
def quoSumsWrong : ChangeSpec := { name := "quoSums", fn := fun _ => fun
  | [d1, d2, d3] => { results := [.lit (.bool false)], args := [d1, d2, d3] }
  | _ => none }
def QuoSumsWrongFalsely : Prop := quoSumsRow.holds Try.pinned (OpenSpec.ofChange quoSumsWrong)

/-- 'fluxionlaw02.QuoOwn': WHATEVER THE INPUT: true; the input reads as it did. -/
def quoOwnSpec : ChangeSpec := { name := "quoOwn", fn := fun _ => fun
  | [d1, d2] => { results := [.lit (.bool true)], args := [d1, d2] }
  | _ => none }
def quoOwnRow : OpenClaim := { program := "ytgfjcifggabahaa", sum := "c6c7cc58d88ed2b132d51568d6f38a3967dde58d564c05e0672df97ba7390016", func := "fluxion/fluxionlaw02.QuoOwn", spec := "quoOwn", unfollowed := true, recurses := true, apart := false }
def QuoOwnSaid : Prop := quoOwnRow.holds Try.pinned (OpenSpec.ofChange quoOwnSpec)

/-- ITS FALSE NEIGHBOUR: 'it returns false'. Refute it at one input. -/
def quoOwnWrong : ChangeSpec := { name := "quoOwn", fn := fun _ => fun
  | [d1, d2] => { results := [.lit (.bool false)], args := [d1, d2] }
  | _ => none }
def QuoOwnWrongFalsely : Prop := quoOwnRow.holds Try.pinned (OpenSpec.ofChange quoOwnWrong)

/-- 'fluxionlaw02.QuoCommon': WHATEVER THE INPUT: true; the input reads as it did. -/
def quoCommonSpec : ChangeSpec := { name := "quoCommon", fn := fun _ => fun
  | [d1, d2, d3] => { results := [.lit (.bool true)], args := [d1, d2, d3] }
  | _ => none }
def quoCommonRow : OpenClaim := { program := "ytgfjcifggabahaa", sum := "c6c7cc58d88ed2b132d51568d6f38a3967dde58d564c05e0672df97ba7390016", func := "fluxion/fluxionlaw02.QuoCommon", spec := "quoCommon", unfollowed := true, recurses := true, apart := false }
def QuoCommonSaid : Prop := quoCommonRow.holds Try.pinned (OpenSpec.ofChange quoCommonSpec)

/-- ITS FALSE NEIGHBOUR: 'it returns false'. Refute it at one input. -/
def quoCommonWrong : ChangeSpec := { name := "quoCommon", fn := fun _ => fun
  | [d1, d2, d3] => { results := [.lit (.bool false)], args := [d1, d2, d3] }
  | _ => none }
def QuoCommonWrongFalsely : Prop := quoCommonRow.holds Try.pinned (OpenSpec.ofChange quoCommonWrong)

/-- 'fluxionlaw02.QuoTells': WHATEVER THE INPUT: true; the input reads as it did. -/
def quoTellsSpec : ChangeSpec := { name := "quoTells", fn := fun _ => fun
  | [d1, d2] => { results := [.lit (.bool true)], args := [d1, d2] }
  | _ => none }
def quoTellsRow : OpenClaim := { program := "ytgfjcifggabahaa", sum := "c6c7cc58d88ed2b132d51568d6f38a3967dde58d564c05e0672df97ba7390016", func := "fluxion/fluxionlaw02.QuoTells", spec := "quoTells", unfollowed := true, recurses := true, apart := false }
def QuoTellsSaid : Prop := quoTellsRow.holds Try.pinned (OpenSpec.ofChange quoTellsSpec)

/-- ITS FALSE NEIGHBOUR: 'it returns false'. Refute it at one input. -/
def quoTellsWrong : ChangeSpec := { name := "quoTells", fn := fun _ => fun
  | [d1, d2] => { results := [.lit (.bool false)], args := [d1, d2] }
  | _ => none }
def QuoTellsWrongFalsely : Prop := quoTellsRow.holds Try.pinned (OpenSpec.ofChange quoTellsWrong)

/- THE SECOND FORM. 'bulk': how many values and letters a reading holds, each counted each time it is reached (what is shared counts as often as it is met; a slice's spare places count too). A statement '..UptoSaid' is the law's where the arguments, and the package variables that the reading takes, are together of bulk at most 1048576: NARROWER than '..Said'. Prove '..Said' where nothing that the law and all that it calls make is longer than what came in: it says more and counts as full. Else prove '..UptoSaid'. A law counts once. -/
mutual
def uptoBulk {H : Type} : DataW H → Nat
  | .lit (.string bytes) => bytes.length + 1
  | .lit _ => 1
  | .nil => 1
  | .ptr d => uptoBulk d + 1
  | .slice elems spare => uptoBulkAll elems + uptoBulkAll spare + 1
  | .agg parts => uptoBulkAll parts + 1
  | .iface _ d => uptoBulk d + 1
  | .map entries => uptoBulkEntries entries + 1
  | .held _ => 1
def uptoBulkAll {H : Type} : List (DataW H) → Nat
  | [] => 0
  | d :: r => uptoBulk d + uptoBulkAll r
def uptoBulkEntries {H : Type} : List (Lit × DataW H) → Nat
  | [] => 0
  | x :: r => uptoBulkEntry x + uptoBulkEntries r
def uptoBulkEntry {H : Type} : Lit × DataW H → Nat
  | (.string bytes, d) => bytes.length + uptoBulk d + 1
  | (_, d) => uptoBulk d + 1
 end
def uptoSmall : (H : Type) → List (DataW H) → Bool := fun _ ds => decide (uptoBulkAll ds ≤ 1048576)
def OpenSpec.upto (s : _root_.Go.ChangeSpec) : _root_.Go.OpenSpec := { _root_.Go.OpenSpec.ofChange s with cond := some uptoSmall }

/-- 'fluxionlaw02.QuoDivides', WHERE WHAT IT READS IS OF BULK AT MOST 1048576: true; the input reads as it did. -/
def quoDividesUptoRow : OpenClaim := { program := "ytgfjcifggabahaa", sum := "c6c7cc58d88ed2b132d51568d6f38a3967dde58d564c05e0672df97ba7390016", func := "fluxion/fluxionlaw02.QuoDivides", spec := "quoDivides", unfollowed := true, recurses := true, apart := false, narrowed := true }
def QuoDividesUptoSaid : Prop := quoDividesUptoRow.holds Try.pinned (OpenSpec.upto quoDividesSpec)

/-- 'fluxionlaw02.QuoBack', WHERE WHAT IT READS IS OF BULK AT MOST 1048576: true; the input reads as it did. -/
def quoBackUptoRow : OpenClaim := { program := "ytgfjcifggabahaa", sum := "c6c7cc58d88ed2b132d51568d6f38a3967dde58d564c05e0672df97ba7390016", func := "fluxion/fluxionlaw02.QuoBack", spec := "quoBack", unfollowed := true, recurses := true, apart := false, narrowed := true }
def QuoBackUptoSaid : Prop := quoBackUptoRow.holds Try.pinned (OpenSpec.upto quoBackSpec)

/-- 'fluxionlaw02.QuoParts', WHERE WHAT IT READS IS OF BULK AT MOST 1048576: true; the input reads as it did. -/
def quoPartsUptoRow : OpenClaim := { program := "ytgfjcifggabahaa", sum := "c6c7cc58d88ed2b132d51568d6f38a3967dde58d564c05e0672df97ba7390016", func := "fluxion/fluxionlaw02.QuoParts", spec := "quoParts", unfollowed := true, recurses := true, apart := false, narrowed := true }
def QuoPartsUptoSaid : Prop := quoPartsUptoRow.holds Try.pinned (OpenSpec.upto quoPartsSpec)

/-- 'fluxionlaw02.QuoShort', WHERE WHAT IT READS IS OF BULK AT MOST 1048576: true; the input reads as it did. -/
def quoShortUptoRow : OpenClaim := { program := "ytgfjcifggabahaa", sum := "c6c7cc58d88ed2b132d51568d6f38a3967dde58d564c05e0672df97ba7390016", func := "fluxion/fluxionlaw02.QuoShort", spec := "quoShort", unfollowed := true, recurses := true, apart := false, narrowed := true }
def QuoShortUptoSaid : Prop := quoShortUptoRow.holds Try.pinned (OpenSpec.upto quoShortSpec)

/-- 'fluxionlaw02.QuoGcds', WHERE WHAT IT READS IS OF BULK AT MOST 1048576: true; the input reads as it did. -/
def quoGcdsUptoRow : OpenClaim := { program := "ytgfjcifggabahaa", sum := "c6c7cc58d88ed2b132d51568d6f38a3967dde58d564c05e0672df97ba7390016", func := "fluxion/fluxionlaw02.QuoGcds", spec := "quoGcds", unfollowed := true, recurses := true, apart := false, narrowed := true }
def QuoGcdsUptoSaid : Prop := quoGcdsUptoRow.holds Try.pinned (OpenSpec.upto quoGcdsSpec)

/-- 'fluxionlaw02.QuoSteps', WHERE WHAT IT READS IS OF BULK AT MOST 1048576: true; the input reads as it did. -/
def quoStepsUptoRow : OpenClaim := { program := "ytgfjcifggabahaa", sum := "c6c7cc58d88ed2b132d51568d6f38a3967dde58d564c05e0672df97ba7390016", func := "fluxion/fluxionlaw02.QuoSteps", spec := "quoSteps", unfollowed := true, recurses := true, apart := false, narrowed := true }
def QuoStepsUptoSaid : Prop := quoStepsUptoRow.holds Try.pinned (OpenSpec.upto quoStepsSpec)

/-- 'fluxionlaw02.QuoPowers', WHERE WHAT IT READS IS OF BULK AT MOST 1048576: true; the input reads as it did. -/
def quoPowersUptoRow : OpenClaim := { program := "ytgfjcifggabahaa", sum := "c6c7cc58d88ed2b132d51568d6f38a3967dde58d564c05e0672df97ba7390016", func := "fluxion/fluxionlaw02.QuoPowers", spec := "quoPowers", unfollowed := true, recurses := true, apart := false, narrowed := true }
def QuoPowersUptoSaid : Prop := quoPowersUptoRow.holds Try.pinned (OpenSpec.upto quoPowersSpec)

/-- 'fluxionlaw02.QuoSums', WHERE WHAT IT READS IS OF BULK AT MOST 1048576: true; the input reads as it did. -/
def quoSumsUptoRow : OpenClaim := { program := "ytgfjcifggabahaa", sum := "c6c7cc58d88ed2b132d51568d6f38a3967dde58d564c05e0672df97ba7390016", func := "fluxion/fluxionlaw02.QuoSums", spec := "quoSums", unfollowed := true, recurses := true, apart := false, narrowed := true }
def QuoSumsUptoSaid : Prop := quoSumsUptoRow.holds Try.pinned (OpenSpec.upto quoSumsSpec)

/-- 'fluxionlaw02.QuoOwn', WHERE WHAT IT READS IS OF BULK AT MOST 1048576: true; the input reads as it did. -/
def quoOwnUptoRow : OpenClaim := { program := "ytgfjcifggabahaa", sum := "c6c7cc58d88ed2b132d51568d6f38a3967dde58d564c05e0672df97ba7390016", func := "fluxion/fluxionlaw02.QuoOwn", spec := "quoOwn", unfollowed := true, recurses := true, apart := false, narrowed := true }
def QuoOwnUptoSaid : Prop := quoOwnUptoRow.holds Try.pinned (OpenSpec.upto quoOwnSpec)

/-- 'fluxionlaw02.QuoCommon', WHERE WHAT IT READS IS OF BULK AT MOST 1048576: true; the input reads as it did. -/
def quoCommonUptoRow : OpenClaim := { program := "ytgfjcifggabahaa", sum := "c6c7cc58d88ed2b132d51568d6f38a3967dde58d564c05e0672df97ba7390016", func := "fluxion/fluxionlaw02.QuoCommon", spec := "quoCommon", unfollowed := true, recurses := true, apart := false, narrowed := true }
def QuoCommonUptoSaid : Prop := quoCommonUptoRow.holds Try.pinned (OpenSpec.upto quoCommonSpec)

/-- 'fluxionlaw02.QuoTells', WHERE WHAT IT READS IS OF BULK AT MOST 1048576: true; the input reads as it did. -/
def quoTellsUptoRow : OpenClaim := { program := "ytgfjcifggabahaa", sum := "c6c7cc58d88ed2b132d51568d6f38a3967dde58d564c05e0672df97ba7390016", func := "fluxion/fluxionlaw02.QuoTells", spec := "quoTells", unfollowed := true, recurses := true, apart := false, narrowed := true }
def QuoTellsUptoSaid : Prop := quoTellsUptoRow.holds Try.pinned (OpenSpec.upto quoTellsSpec)

end Rows
end Go.Proofs.Ytgfjcifggabahaa
