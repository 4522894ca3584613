/-
  No cell of these rows narrows 'for every input' (looked for: loops, veiled, ifaces, maps, wideKeys, modest, calm, conditions, laid).
  DERIVED. THE GIVEN ROWS OF THIS SEAT. 8 by the template 'for every input the law returns true; each argument reads behind the call as it read before'; 0 by the template 'total and deterministic' (their statements: YtlppcfeimpcbjaaGreatTotals.lean).
  GIVEN WITH THE SEED: the statements are not yours to turn. If you find one false, say at which input.
  Laid BY PROGRAM, IN A SANDBOX (cutbox-rows.mjs): the forced cells as the released guide's own fill.sh prints them over the translation 365020bbcacbfcaa… (all of the seat's roots in one cut). By AI agents, Wed Nov 11 2026. No macro, syntax, notation, axiom, sorry.
-/
import Derived.Test.YtlppcfeimpcbjaaGreatChecked
import GoSem.Claim
import GoSem.ClaimJoined
import GoSem.ClaimMapViews
import Derived.JoinedTies
import Derived.KernelRfl
namespace Go.Proofs.YtlppcfeimpcbjaaGreat
/- THE CELL 'sum', in the pinned program and in every row, IS THE sha256 OF THE DUMP (.gsa) THAT YtlppcfeimpcbjaaGreatProg.lean LOADS. Nothing in Lean hashes anything: it is a label: what it is worth is what the hold of that sum in a sandbox is worth. -/
noncomputable def Tryz.pinned : Pinned := { name := "ytlppcfeimpcbjaagreat", sum := "365020bbcacbfcaa780763b32144e34ccd8d6cec5d39b173f2028b6bcb2f2ea4", checked := Tryz.checked }
namespace Rows
def none {H : Type} : Left H := { results := [], args := [] }

/-- 'fluxionlaw10.FoldSums': WHATEVER THE INPUT: true; the input reads as it did. -/
def foldSumsSpec : ChangeSpec := { name := "foldSums", fn := fun _ => fun
  | [d1, d2] => { results := [.lit (.bool true)], args := [d1, d2] }
  | _ => none }
def foldSumsRow : OpenClaim := { program := "ytlppcfeimpcbjaagreat", sum := "365020bbcacbfcaa780763b32144e34ccd8d6cec5d39b173f2028b6bcb2f2ea4", func := "fluxion/fluxionlaw10.FoldSums", spec := "foldSums", unfollowed := true, recurses := true, apart := false }
def FoldSumsSaid : Prop := foldSumsRow.holds Tryz.pinned (OpenSpec.ofChange foldSumsSpec)

/-- ITS FALSE NEIGHBOUR: 'it returns false'. Refute it at one input. -/
def foldSumsWrong : ChangeSpec := { name := "foldSums", fn := fun _ => fun
  | [d1, d2] => { results := [.lit (.bool false)], args := [d1, d2] }
  | _ => none }
def FoldSumsWrongFalsely : Prop := foldSumsRow.holds Tryz.pinned (OpenSpec.ofChange foldSumsWrong)

/-- 'fluxionlaw10.FoldMatMuls': WHATEVER THE INPUT: true; the input reads as it did. -/
def foldMatMulsSpec : ChangeSpec := { name := "foldMatMuls", fn := fun _ => fun
  | [d1, d2] => { results := [.lit (.bool true)], args := [d1, d2] }
  | _ => none }
def foldMatMulsRow : OpenClaim := { program := "ytlppcfeimpcbjaagreat", sum := "365020bbcacbfcaa780763b32144e34ccd8d6cec5d39b173f2028b6bcb2f2ea4", func := "fluxion/fluxionlaw10.FoldMatMuls", spec := "foldMatMuls", unfollowed := true, recurses := true, apart := false }
def FoldMatMulsSaid : Prop := foldMatMulsRow.holds Tryz.pinned (OpenSpec.ofChange foldMatMulsSpec)

/-- ITS FALSE NEIGHBOUR: 'it returns false'. Refute it at one input. -/
def foldMatMulsWrong : ChangeSpec := { name := "foldMatMuls", fn := fun _ => fun
  | [d1, d2] => { results := [.lit (.bool false)], args := [d1, d2] }
  | _ => none }
def FoldMatMulsWrongFalsely : Prop := foldMatMulsRow.holds Tryz.pinned (OpenSpec.ofChange foldMatMulsWrong)

/-- 'fluxionlaw10.FoldSteps': WHATEVER THE INPUT: true; the input reads as it did. -/
def foldStepsSpec : ChangeSpec := { name := "foldSteps", fn := fun _ => fun
  | [d1, d2] => { results := [.lit (.bool true)], args := [d1, d2] }
  | _ => none }
def foldStepsRow : OpenClaim := { program := "ytlppcfeimpcbjaagreat", sum := "365020bbcacbfcaa780763b32144e34ccd8d6cec5d39b173f2028b6bcb2f2ea4", func := "fluxion/fluxionlaw10.FoldSteps", spec := "foldSteps", unfollowed := true, recurses := true, apart := false }
def FoldStepsSaid : Prop := foldStepsRow.holds Tryz.pinned (OpenSpec.ofChange foldStepsSpec)

/-- ITS FALSE NEIGHBOUR: 'it returns false'. Refute it at one input. -/
def foldStepsWrong : ChangeSpec := { name := "foldSteps", fn := fun _ => fun
  | [d1, d2] => { results := [.lit (.bool false)], args := [d1, d2] }
  | _ => none }
def FoldStepsWrongFalsely : Prop := foldStepsRow.holds Tryz.pinned (OpenSpec.ofChange foldStepsWrong)

/-- 'fluxionlaw10.FoldGemms': WHATEVER THE INPUT: true; the input reads as it did. -/
def foldGemmsSpec : ChangeSpec := { name := "foldGemms", fn := fun _ => fun
  | [d1, d2, d3] => { results := [.lit (.bool true)], args := [d1, d2, d3] }
  | _ => none }
def foldGemmsRow : OpenClaim := { program := "ytlppcfeimpcbjaagreat", sum := "365020bbcacbfcaa780763b32144e34ccd8d6cec5d39b173f2028b6bcb2f2ea4", func := "fluxion/fluxionlaw10.FoldGemms", spec := "foldGemms", unfollowed := true, recurses := true, apart := false }
def FoldGemmsSaid : Prop := foldGemmsRow.holds Tryz.pinned (OpenSpec.ofChange foldGemmsSpec)

/-- ITS FALSE NEIGHBOUR: 'it returns false'. Refute it at one input. -/
def foldGemmsWrong : ChangeSpec := { name := "foldGemms", fn := fun _ => fun
  | [d1, d2, d3] => { results := [.lit (.bool false)], args := [d1, d2, d3] }
  | _ => none }
def FoldGemmsWrongFalsely : Prop := foldGemmsRow.holds Tryz.pinned (OpenSpec.ofChange foldGemmsWrong)

/-- 'fluxionlaw10.FoldLimit': WHATEVER THE INPUT: true; the input reads as it did. -/
def foldLimitSpec : ChangeSpec := { name := "foldLimit", fn := fun _ => fun
  | [] => { results := [.lit (.bool true)], args := [] }
  | _ => none }
def foldLimitRow : OpenClaim := { program := "ytlppcfeimpcbjaagreat", sum := "365020bbcacbfcaa780763b32144e34ccd8d6cec5d39b173f2028b6bcb2f2ea4", func := "fluxion/fluxionlaw10.FoldLimit", spec := "foldLimit", unfollowed := true, recurses := true, apart := false }
def FoldLimitSaid : Prop := foldLimitRow.holds Tryz.pinned (OpenSpec.ofChange foldLimitSpec)

/-- ITS FALSE NEIGHBOUR: 'it returns false'. Refute it at one input. -/
def foldLimitWrong : ChangeSpec := { name := "foldLimit", fn := fun _ => fun
  | [] => { results := [.lit (.bool false)], args := [] }
  | _ => none }
def FoldLimitWrongFalsely : Prop := foldLimitRow.holds Tryz.pinned (OpenSpec.ofChange foldLimitWrong)

/-- 'fluxionlaw10.FoldTotal': WHATEVER THE INPUT: true; the input reads as it did. -/
def foldTotalSpec : ChangeSpec := { name := "foldTotal", fn := fun _ => fun
  | [d1, d2, d3] => { results := [.lit (.bool true)], args := [d1, d2, d3] }
  | _ => none }
def foldTotalRow : OpenClaim := { program := "ytlppcfeimpcbjaagreat", sum := "365020bbcacbfcaa780763b32144e34ccd8d6cec5d39b173f2028b6bcb2f2ea4", func := "fluxion/fluxionlaw10.FoldTotal", spec := "foldTotal", unfollowed := true, recurses := true, apart := false }
def FoldTotalSaid : Prop := foldTotalRow.holds Tryz.pinned (OpenSpec.ofChange foldTotalSpec)

/-- ITS FALSE NEIGHBOUR: 'it returns false'. Refute it at one input. -/
def foldTotalWrong : ChangeSpec := { name := "foldTotal", fn := fun _ => fun
  | [d1, d2, d3] => { results := [.lit (.bool false)], args := [d1, d2, d3] }
  | _ => none }
def FoldTotalWrongFalsely : Prop := foldTotalRow.holds Tryz.pinned (OpenSpec.ofChange foldTotalWrong)

/-- 'fluxionlaw10.FoldAssoc': WHATEVER THE INPUT: true; the input reads as it did. -/
def foldAssocSpec : ChangeSpec := { name := "foldAssoc", fn := fun _ => fun
  | [d1, d2, d3, d4] => { results := [.lit (.bool true)], args := [d1, d2, d3, d4] }
  | _ => none }
def foldAssocRow : OpenClaim := { program := "ytlppcfeimpcbjaagreat", sum := "365020bbcacbfcaa780763b32144e34ccd8d6cec5d39b173f2028b6bcb2f2ea4", func := "fluxion/fluxionlaw10.FoldAssoc", spec := "foldAssoc", unfollowed := true, recurses := true, apart := false }
def FoldAssocSaid : Prop := foldAssocRow.holds Tryz.pinned (OpenSpec.ofChange foldAssocSpec)

/-- ITS FALSE NEIGHBOUR: 'it returns false'. Refute it at one input. -/
def foldAssocWrong : ChangeSpec := { name := "foldAssoc", fn := fun _ => fun
  | [d1, d2, d3, d4] => { results := [.lit (.bool false)], args := [d1, d2, d3, d4] }
  | _ => none }
def FoldAssocWrongFalsely : Prop := foldAssocRow.holds Tryz.pinned (OpenSpec.ofChange foldAssocWrong)

/-- 'fluxionlaw10.FoldOne': WHATEVER THE INPUT: true; the input reads as it did. -/
def foldOneSpec : ChangeSpec := { name := "foldOne", fn := fun _ => fun
  | [d1, d2, d3] => { results := [.lit (.bool true)], args := [d1, d2, d3] }
  | _ => none }
def foldOneRow : OpenClaim := { program := "ytlppcfeimpcbjaagreat", sum := "365020bbcacbfcaa780763b32144e34ccd8d6cec5d39b173f2028b6bcb2f2ea4", func := "fluxion/fluxionlaw10.FoldOne", spec := "foldOne", unfollowed := true, recurses := true, apart := false }
def FoldOneSaid : Prop := foldOneRow.holds Tryz.pinned (OpenSpec.ofChange foldOneSpec)

/-- ITS FALSE NEIGHBOUR: 'it returns false'. Refute it at one input. -/
def foldOneWrong : ChangeSpec := { name := "foldOne", fn := fun _ => fun
  | [d1, d2, d3] => { results := [.lit (.bool false)], args := [d1, d2, d3] }
  | _ => none }
def FoldOneWrongFalsely : Prop := foldOneRow.holds Tryz.pinned (OpenSpec.ofChange foldOneWrong)

/- THE SECOND FORM. 'bulk': how many values and letters a reading holds, each counted each time it is reached (what is shared counts as often as it is met; a slice's spare places count too). A statement '..UptoSaid' is the law's where the arguments, and the package variables that the reading takes, are together of bulk at most 1048576: NARROWER than '..Said'. Prove '..Said' where nothing that the law and all that it calls make is longer than what came in: it says more and counts as full. Else prove '..UptoSaid'. A law counts once. -/
mutual
def uptoBulk {H : Type} : DataW H → Nat
  | .lit (.string bytes) => bytes.length + 1
  | .lit _ => 1
  | .nil => 1
  | .ptr d => uptoBulk d + 1
  | .slice elems spare => uptoBulkAll elems + uptoBulkAll spare + 1
  | .agg parts => uptoBulkAll parts + 1
  | .iface _ d => uptoBulk d + 1
  | .map entries => uptoBulkEntries entries + 1
  | .held _ => 1
def uptoBulkAll {H : Type} : List (DataW H) → Nat
  | [] => 0
  | d :: r => uptoBulk d + uptoBulkAll r
def uptoBulkEntries {H : Type} : List (Lit × DataW H) → Nat
  | [] => 0
  | x :: r => uptoBulkEntry x + uptoBulkEntries r
def uptoBulkEntry {H : Type} : Lit × DataW H → Nat
  | (.string bytes, d) => bytes.length + uptoBulk d + 1
  | (_, d) => uptoBulk d + 1
 end
def uptoSmall : (H : Type) → List (DataW H) → Bool := fun _ ds => decide (uptoBulkAll ds ≤ 1048576)
def OpenSpec.upto (s : _root_.Go.ChangeSpec) : _root_.Go.OpenSpec := { _root_.Go.OpenSpec.ofChange s with cond := some uptoSmall }

/-- 'fluxionlaw10.FoldSums', WHERE WHAT IT READS IS OF BULK AT MOST 1048576: true; the input reads as it did. -/
def foldSumsUptoRow : OpenClaim := { program := "ytlppcfeimpcbjaagreat", sum := "365020bbcacbfcaa780763b32144e34ccd8d6cec5d39b173f2028b6bcb2f2ea4", func := "fluxion/fluxionlaw10.FoldSums", spec := "foldSums", unfollowed := true, recurses := true, apart := false, narrowed := true }
def FoldSumsUptoSaid : Prop := foldSumsUptoRow.holds Tryz.pinned (OpenSpec.upto foldSumsSpec)

/-- 'fluxionlaw10.FoldMatMuls', WHERE WHAT IT READS IS OF BULK AT MOST 1048576: true; the input reads as it did. -/
def foldMatMulsUptoRow : OpenClaim := { program := "ytlppcfeimpcbjaagreat", sum := "365020bbcacbfcaa780763b32144e34ccd8d6cec5d39b173f2028b6bcb2f2ea4", func := "fluxion/fluxionlaw10.FoldMatMuls", spec := "foldMatMuls", unfollowed := true, recurses := true, apart := false, narrowed := true }
def FoldMatMulsUptoSaid : Prop := foldMatMulsUptoRow.holds Tryz.pinned (OpenSpec.upto foldMatMulsSpec)

/-- 'fluxionlaw10.FoldSteps', WHERE WHAT IT READS IS OF BULK AT MOST 1048576: true; the input reads as it did. -/
def foldStepsUptoRow : OpenClaim := { program := "ytlppcfeimpcbjaagreat", sum := "365020bbcacbfcaa780763b32144e34ccd8d6cec5d39b173f2028b6bcb2f2ea4", func := "fluxion/fluxionlaw10.FoldSteps", spec := "foldSteps", unfollowed := true, recurses := true, apart := false, narrowed := true }
def FoldStepsUptoSaid : Prop := foldStepsUptoRow.holds Tryz.pinned (OpenSpec.upto foldStepsSpec)

/-- 'fluxionlaw10.FoldGemms', WHERE WHAT IT READS IS OF BULK AT MOST 1048576: true; the input reads as it did. -/
def foldGemmsUptoRow : OpenClaim := { program := "ytlppcfeimpcbjaagreat", sum := "365020bbcacbfcaa780763b32144e34ccd8d6cec5d39b173f2028b6bcb2f2ea4", func := "fluxion/fluxionlaw10.FoldGemms", spec := "foldGemms", unfollowed := true, recurses := true, apart := false, narrowed := true }
def FoldGemmsUptoSaid : Prop := foldGemmsUptoRow.holds Tryz.pinned (OpenSpec.upto foldGemmsSpec)

/-- 'fluxionlaw10.FoldLimit', WHERE WHAT IT READS IS OF BULK AT MOST 1048576: true; the input reads as it did. -/
def foldLimitUptoRow : OpenClaim := { program := "ytlppcfeimpcbjaagreat", sum := "365020bbcacbfcaa780763b32144e34ccd8d6cec5d39b173f2028b6bcb2f2ea4", func := "fluxion/fluxionlaw10.FoldLimit", spec := "foldLimit", unfollowed := true, recurses := true, apart := false, narrowed := true }
def FoldLimitUptoSaid : Prop := foldLimitUptoRow.holds Tryz.pinned (OpenSpec.upto foldLimitSpec)

/-- 'fluxionlaw10.FoldTotal', WHERE WHAT IT READS IS OF BULK AT MOST 1048576: true; the input reads as it did. -/
def foldTotalUptoRow : OpenClaim := { program := "ytlppcfeimpcbjaagreat", sum := "365020bbcacbfcaa780763b32144e34ccd8d6cec5d39b173f2028b6bcb2f2ea4", func := "fluxion/fluxionlaw10.FoldTotal", spec := "foldTotal", unfollowed := true, recurses := true, apart := false, narrowed := true }
def FoldTotalUptoSaid : Prop := foldTotalUptoRow.holds Tryz.pinned (OpenSpec.upto foldTotalSpec)

/-- 'fluxionlaw10.FoldAssoc', WHERE WHAT IT READS IS OF BULK AT MOST 1048576: true; the input reads as it did. -/
def foldAssocUptoRow : OpenClaim := { program := "ytlppcfeimpcbjaagreat", sum := "365020bbcacbfcaa780763b32144e34ccd8d6cec5d39b173f2028b6bcb2f2ea4", func := "fluxion/fluxionlaw10.FoldAssoc", spec := "foldAssoc", unfollowed := true, recurses := true, apart := false, narrowed := true }
def FoldAssocUptoSaid : Prop := foldAssocUptoRow.holds Tryz.pinned (OpenSpec.upto foldAssocSpec)

/-- 'fluxionlaw10.FoldOne', WHERE WHAT IT READS IS OF BULK AT MOST 1048576: true; the input reads as it did. -/
def foldOneUptoRow : OpenClaim := { program := "ytlppcfeimpcbjaagreat", sum := "365020bbcacbfcaa780763b32144e34ccd8d6cec5d39b173f2028b6bcb2f2ea4", func := "fluxion/fluxionlaw10.FoldOne", spec := "foldOne", unfollowed := true, recurses := true, apart := false, narrowed := true }
def FoldOneUptoSaid : Prop := foldOneUptoRow.holds Tryz.pinned (OpenSpec.upto foldOneSpec)

end Rows
end Go.Proofs.YtlppcfeimpcbjaaGreat
