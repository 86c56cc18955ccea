/-
  No cell of these rows narrows 'for every input' (looked for: loops, veiled, ifaces, maps, wideKeys, modest, calm, conditions, laid).
  DERIVED. THE GIVEN ROWS OF THIS SEAT. 13 by the template 'for every input the law returns true; each argument reads behind the call as it read before'; 0 by the template 'total and deterministic' (their statements: YtdicpnnmhjgnbaaTotals.lean).
  GIVEN WITH THE SEED: the statements are not yours to turn. If you find one false, say at which input.
  Laid BY PROGRAM, IN A SANDBOX (cutbox-rows.mjs): the forced cells as the released guide's own fill.sh prints them over the translation 724ed4a33a96e785… (all of the seat's roots in one cut). By AI agents, Wed Nov 11 2026. No macro, syntax, notation, axiom, sorry.
-/
import Derived.Test.YtdicpnnmhjgnbaaChecked
import GoSem.Claim
import GoSem.ClaimJoined
import GoSem.ClaimMapViews
import Derived.JoinedTies
import Derived.KernelRfl
namespace Go.Proofs.Ytdicpnnmhjgnbaa
/- THE CELL 'sum', in the pinned program and in every row, IS THE sha256 OF THE DUMP (.gsa) THAT YtdicpnnmhjgnbaaProg.lean LOADS. Nothing in Lean hashes anything: it is a label: what it is worth is what the hold of that sum in a sandbox is worth. -/
noncomputable def Try.pinned : Pinned := { name := "ytdicpnnmhjgnbaa", sum := "724ed4a33a96e7851d27ddc800fcc6f95f10f7cbc09fd80a57ce60530ad5824c", checked := Try.checked }
namespace Rows
def none {H : Type} : Left H := { results := [], args := [] }

/-- 'winnowerlaw1.OctetSmall': WHATEVER THE INPUT: true; the input reads as it did. -/
def octetSmallSpec : ChangeSpec := { name := "octetSmall", fn := fun _ => fun
  | [d] => { results := [.lit (.bool true)], args := [d] }
  | _ => none }
def octetSmallRow : OpenClaim := { program := "ytdicpnnmhjgnbaa", sum := "724ed4a33a96e7851d27ddc800fcc6f95f10f7cbc09fd80a57ce60530ad5824c", func := "winnower/winnowerlaw1.OctetSmall", spec := "octetSmall", apart := false }
def OctetSmallSaid : Prop := octetSmallRow.holds Try.pinned (OpenSpec.ofChange octetSmallSpec)

/-- ITS FALSE NEIGHBOUR: 'it returns false'. Refute it at one input. -/
def octetSmallWrong : ChangeSpec := { name := "octetSmall", fn := fun _ => fun
  | [d] => { results := [.lit (.bool false)], args := [d] }
  | _ => none }
def OctetSmallWrongFalsely : Prop := octetSmallRow.holds Try.pinned (OpenSpec.ofChange octetSmallWrong)

/-- 'winnowerlaw1.OctetNums': WHATEVER THE INPUT: true; the input reads as it did. -/
def octetNumsSpec : ChangeSpec := { name := "octetNums", fn := fun _ => fun
  | [d] => { results := [.lit (.bool true)], args := [d] }
  | _ => none }
def octetNumsRow : OpenClaim := { program := "ytdicpnnmhjgnbaa", sum := "724ed4a33a96e7851d27ddc800fcc6f95f10f7cbc09fd80a57ce60530ad5824c", func := "winnower/winnowerlaw1.OctetNums", spec := "octetNums", apart := false }
def OctetNumsSaid : Prop := octetNumsRow.holds Try.pinned (OpenSpec.ofChange octetNumsSpec)

/-- ITS FALSE NEIGHBOUR: 'it returns false'. Refute it at one input. -/
def octetNumsWrong : ChangeSpec := { name := "octetNums", fn := fun _ => fun
  | [d] => { results := [.lit (.bool false)], args := [d] }
  | _ => none }
def OctetNumsWrongFalsely : Prop := octetNumsRow.holds Try.pinned (OpenSpec.ofChange octetNumsWrong)

/-- 'winnowerlaw1.OctetSums': WHATEVER THE INPUT: true; the input reads as it did. -/
def octetSumsSpec : ChangeSpec := { name := "octetSums", fn := fun _ => fun
  | [d1, d2, d3] => { results := [.lit (.bool true)], args := [d1, d2, d3] }
  | _ => none }
def octetSumsRow : OpenClaim := { program := "ytdicpnnmhjgnbaa", sum := "724ed4a33a96e7851d27ddc800fcc6f95f10f7cbc09fd80a57ce60530ad5824c", func := "winnower/winnowerlaw1.OctetSums", spec := "octetSums", inPlace := ["internal/bytealg.MakeNoZero"], apart := false }
def OctetSumsSaid : Prop := octetSumsRow.holds Try.pinned (OpenSpec.ofChange octetSumsSpec)

/-- ITS FALSE NEIGHBOUR: 'it returns false'. Refute it at one input. -/
def octetSumsWrong : ChangeSpec := { name := "octetSums", fn := fun _ => fun
  | [d1, d2, d3] => { results := [.lit (.bool false)], args := [d1, d2, d3] }
  | _ => none }
def OctetSumsWrongFalsely : Prop := octetSumsRow.holds Try.pinned (OpenSpec.ofChange octetSumsWrong)

/-- 'winnowerlaw1.OctetJoins': WHATEVER THE INPUT: true; the input reads as it did. -/
def octetJoinsSpec : ChangeSpec := { name := "octetJoins", fn := fun _ => fun
  | [d1, d2] => { results := [.lit (.bool true)], args := [d1, d2] }
  | _ => none }
def octetJoinsRow : OpenClaim := { program := "ytdicpnnmhjgnbaa", sum := "724ed4a33a96e7851d27ddc800fcc6f95f10f7cbc09fd80a57ce60530ad5824c", func := "winnower/winnowerlaw1.OctetJoins", spec := "octetJoins", inPlace := ["internal/bytealg.MakeNoZero"], apart := false }
def OctetJoinsSaid : Prop := octetJoinsRow.holds Try.pinned (OpenSpec.ofChange octetJoinsSpec)

/-- ITS FALSE NEIGHBOUR: 'it returns false'. Refute it at one input. -/
def octetJoinsWrong : ChangeSpec := { name := "octetJoins", fn := fun _ => fun
  | [d1, d2] => { results := [.lit (.bool false)], args := [d1, d2] }
  | _ => none }
def OctetJoinsWrongFalsely : Prop := octetJoinsRow.holds Try.pinned (OpenSpec.ofChange octetJoinsWrong)

/-- 'winnowerlaw16.PackTells': WHATEVER THE INPUT: true; the input reads as it did. -/
def packTellsSpec : ChangeSpec := { name := "packTells", fn := fun _ => fun
  | [d] => { results := [.lit (.bool true)], args := [d] }
  | _ => none }
def packTellsRow : OpenClaim := { program := "ytdicpnnmhjgnbaa", sum := "724ed4a33a96e7851d27ddc800fcc6f95f10f7cbc09fd80a57ce60530ad5824c", func := "winnower/winnowerlaw16.PackTells", spec := "packTells", apart := false }
def PackTellsSaid : Prop := packTellsRow.holds Try.pinned (OpenSpec.ofChange packTellsSpec)

/-- ITS FALSE NEIGHBOUR: 'it returns false'. Refute it at one input. -/
def packTellsWrong : ChangeSpec := { name := "packTells", fn := fun _ => fun
  | [d] => { results := [.lit (.bool false)], args := [d] }
  | _ => none }
def PackTellsWrongFalsely : Prop := packTellsRow.holds Try.pinned (OpenSpec.ofChange packTellsWrong)

/-- 'winnowerlaw1.OctetRows': WHATEVER THE INPUT: true; the input reads as it did. -/
def octetRowsSpec : ChangeSpec := { name := "octetRows", fn := fun _ => fun
  | [d1, d2] => { results := [.lit (.bool true)], args := [d1, d2] }
  | _ => none }
def octetRowsRow : OpenClaim := { program := "ytdicpnnmhjgnbaa", sum := "724ed4a33a96e7851d27ddc800fcc6f95f10f7cbc09fd80a57ce60530ad5824c", func := "winnower/winnowerlaw1.OctetRows", spec := "octetRows", apart := false }
def OctetRowsSaid : Prop := octetRowsRow.holds Try.pinned (OpenSpec.ofChange octetRowsSpec)

/-- ITS FALSE NEIGHBOUR: 'it returns false'. Refute it at one input. -/
def octetRowsWrong : ChangeSpec := { name := "octetRows", fn := fun _ => fun
  | [d1, d2] => { results := [.lit (.bool false)], args := [d1, d2] }
  | _ => none }
def OctetRowsWrongFalsely : Prop := octetRowsRow.holds Try.pinned (OpenSpec.ofChange octetRowsWrong)

/-- 'winnowerlaw1.OctetCuts': WHATEVER THE INPUT: true; the input reads as it did. -/
def octetCutsSpec : ChangeSpec := { name := "octetCuts", fn := fun _ => fun
  | [d1, d2] => { results := [.lit (.bool true)], args := [d1, d2] }
  | _ => none }
def octetCutsRow : OpenClaim := { program := "ytdicpnnmhjgnbaa", sum := "724ed4a33a96e7851d27ddc800fcc6f95f10f7cbc09fd80a57ce60530ad5824c", func := "winnower/winnowerlaw1.OctetCuts", spec := "octetCuts", apart := false }
def OctetCutsSaid : Prop := octetCutsRow.holds Try.pinned (OpenSpec.ofChange octetCutsSpec)

/-- ITS FALSE NEIGHBOUR: 'it returns false'. Refute it at one input. -/
def octetCutsWrong : ChangeSpec := { name := "octetCuts", fn := fun _ => fun
  | [d1, d2] => { results := [.lit (.bool false)], args := [d1, d2] }
  | _ => none }
def OctetCutsWrongFalsely : Prop := octetCutsRow.holds Try.pinned (OpenSpec.ofChange octetCutsWrong)

/-- 'winnowerlaw1.OctetOfNothing': WHATEVER THE INPUT: true; the input reads as it did. -/
def octetOfNothingSpec : ChangeSpec := { name := "octetOfNothing", fn := fun _ => fun
  | [d1, d2] => { results := [.lit (.bool true)], args := [d1, d2] }
  | _ => none }
def octetOfNothingRow : OpenClaim := { program := "ytdicpnnmhjgnbaa", sum := "724ed4a33a96e7851d27ddc800fcc6f95f10f7cbc09fd80a57ce60530ad5824c", func := "winnower/winnowerlaw1.OctetOfNothing", spec := "octetOfNothing", apart := false }
def OctetOfNothingSaid : Prop := octetOfNothingRow.holds Try.pinned (OpenSpec.ofChange octetOfNothingSpec)

/-- ITS FALSE NEIGHBOUR: 'it returns false'. Refute it at one input. -/
def octetOfNothingWrong : ChangeSpec := { name := "octetOfNothing", fn := fun _ => fun
  | [d1, d2] => { results := [.lit (.bool false)], args := [d1, d2] }
  | _ => none }
def OctetOfNothingWrongFalsely : Prop := octetOfNothingRow.holds Try.pinned (OpenSpec.ofChange octetOfNothingWrong)

/-- 'winnowerlaw1.OctetTakes': WHATEVER THE INPUT: true; the input reads as it did. -/
def octetTakesSpec : ChangeSpec := { name := "octetTakes", fn := fun _ => fun
  | [d1, d2, d3] => { results := [.lit (.bool true)], args := [d1, d2, d3] }
  | _ => none }
def octetTakesRow : OpenClaim := { program := "ytdicpnnmhjgnbaa", sum := "724ed4a33a96e7851d27ddc800fcc6f95f10f7cbc09fd80a57ce60530ad5824c", func := "winnower/winnowerlaw1.OctetTakes", spec := "octetTakes", apart := false }
def OctetTakesSaid : Prop := octetTakesRow.holds Try.pinned (OpenSpec.ofChange octetTakesSpec)

/-- ITS FALSE NEIGHBOUR: 'it returns false'. Refute it at one input. -/
def octetTakesWrong : ChangeSpec := { name := "octetTakes", fn := fun _ => fun
  | [d1, d2, d3] => { results := [.lit (.bool false)], args := [d1, d2, d3] }
  | _ => none }
def OctetTakesWrongFalsely : Prop := octetTakesRow.holds Try.pinned (OpenSpec.ofChange octetTakesWrong)

/-- 'winnowerlaw16.PackDecodes': WHATEVER THE INPUT: true; the input reads as it did. -/
def packDecodesSpec : ChangeSpec := { name := "packDecodes", fn := fun _ => fun
  | [d] => { results := [.lit (.bool true)], args := [d] }
  | _ => none }
def packDecodesRow : OpenClaim := { program := "ytdicpnnmhjgnbaa", sum := "724ed4a33a96e7851d27ddc800fcc6f95f10f7cbc09fd80a57ce60530ad5824c", func := "winnower/winnowerlaw16.PackDecodes", spec := "packDecodes", apart := false }
def PackDecodesSaid : Prop := packDecodesRow.holds Try.pinned (OpenSpec.ofChange packDecodesSpec)

/-- ITS FALSE NEIGHBOUR: 'it returns false'. Refute it at one input. -/
def packDecodesWrong : ChangeSpec := { name := "packDecodes", fn := fun _ => fun
  | [d] => { results := [.lit (.bool false)], args := [d] }
  | _ => none }
def PackDecodesWrongFalsely : Prop := packDecodesRow.holds Try.pinned (OpenSpec.ofChange packDecodesWrong)

/-- 'winnowerlaw16.PackRuns': WHATEVER THE INPUT: true; the input reads as it did. -/
def packRunsSpec : ChangeSpec := { name := "packRuns", fn := fun _ => fun
  | [d1, d2] => { results := [.lit (.bool true)], args := [d1, d2] }
  | _ => none }
def packRunsRow : OpenClaim := { program := "ytdicpnnmhjgnbaa", sum := "724ed4a33a96e7851d27ddc800fcc6f95f10f7cbc09fd80a57ce60530ad5824c", func := "winnower/winnowerlaw16.PackRuns", spec := "packRuns", apart := false }
def PackRunsSaid : Prop := packRunsRow.holds Try.pinned (OpenSpec.ofChange packRunsSpec)

/-- ITS FALSE NEIGHBOUR: 'it returns false'. Refute it at one input. -/
def packRunsWrong : ChangeSpec := { name := "packRuns", fn := fun _ => fun
  | [d1, d2] => { results := [.lit (.bool false)], args := [d1, d2] }
  | _ => none }
def PackRunsWrongFalsely : Prop := packRunsRow.holds Try.pinned (OpenSpec.ofChange packRunsWrong)

/-- 'winnowerlaw16.PackRises': WHATEVER THE INPUT: true; the input reads as it did. -/
def packRisesSpec : ChangeSpec := { name := "packRises", fn := fun _ => fun
  | [d1, d2] => { results := [.lit (.bool true)], args := [d1, d2] }
  | _ => none }
def packRisesRow : OpenClaim := { program := "ytdicpnnmhjgnbaa", sum := "724ed4a33a96e7851d27ddc800fcc6f95f10f7cbc09fd80a57ce60530ad5824c", func := "winnower/winnowerlaw16.PackRises", spec := "packRises", apart := false }
def PackRisesSaid : Prop := packRisesRow.holds Try.pinned (OpenSpec.ofChange packRisesSpec)

/-- ITS FALSE NEIGHBOUR: 'it returns false'. Refute it at one input. -/
def packRisesWrong : ChangeSpec := { name := "packRises", fn := fun _ => fun
  | [d1, d2] => { results := [.lit (.bool false)], args := [d1, d2] }
  | _ => none }
def PackRisesWrongFalsely : Prop := packRisesRow.holds Try.pinned (OpenSpec.ofChange packRisesWrong)

/-- 'winnowerlaw16.PackBack': WHATEVER THE INPUT: true; the input reads as it did. -/
def packBackSpec : ChangeSpec := { name := "packBack", fn := fun _ => fun
  | [d] => { results := [.lit (.bool true)], args := [d] }
  | _ => none }
def packBackRow : OpenClaim := { program := "ytdicpnnmhjgnbaa", sum := "724ed4a33a96e7851d27ddc800fcc6f95f10f7cbc09fd80a57ce60530ad5824c", func := "winnower/winnowerlaw16.PackBack", spec := "packBack", apart := false }
def PackBackSaid : Prop := packBackRow.holds Try.pinned (OpenSpec.ofChange packBackSpec)

/-- ITS FALSE NEIGHBOUR: 'it returns false'. Refute it at one input. -/
def packBackWrong : ChangeSpec := { name := "packBack", fn := fun _ => fun
  | [d] => { results := [.lit (.bool false)], args := [d] }
  | _ => none }
def PackBackWrongFalsely : Prop := packBackRow.holds Try.pinned (OpenSpec.ofChange packBackWrong)

/- THE SECOND FORM. 'bulk': how many values and letters a reading holds, each counted each time it is reached (what is shared counts as often as it is met; a slice's spare places count too). A statement '..UptoSaid' is the law's where the arguments, and the package variables that the reading takes, are together of bulk at most 1048576: NARROWER than '..Said'. Prove '..Said' where nothing that the law and all that it calls make is longer than what came in: it says more and counts as full. Else prove '..UptoSaid'. A law counts once. -/
mutual
def uptoBulk {H : Type} : DataW H → Nat
  | .lit (.string bytes) => bytes.length + 1
  | .lit _ => 1
  | .nil => 1
  | .ptr d => uptoBulk d + 1
  | .slice elems spare => uptoBulkAll elems + uptoBulkAll spare + 1
  | .agg parts => uptoBulkAll parts + 1
  | .iface _ d => uptoBulk d + 1
  | .map entries => uptoBulkEntries entries + 1
  | .held _ => 1
def uptoBulkAll {H : Type} : List (DataW H) → Nat
  | [] => 0
  | d :: r => uptoBulk d + uptoBulkAll r
def uptoBulkEntries {H : Type} : List (Lit × DataW H) → Nat
  | [] => 0
  | x :: r => uptoBulkEntry x + uptoBulkEntries r
def uptoBulkEntry {H : Type} : Lit × DataW H → Nat
  | (.string bytes, d) => bytes.length + uptoBulk d + 1
  | (_, d) => uptoBulk d + 1
 end
def uptoSmall : (H : Type) → List (DataW H) → Bool := fun _ ds => decide (uptoBulkAll ds ≤ 1048576)
def OpenSpec.upto (s : _root_.Go.ChangeSpec) : _root_.Go.OpenSpec := { _root_.Go.OpenSpec.ofChange s with cond := some uptoSmall }

/-- 'winnowerlaw1.OctetSmall', WHERE WHAT IT READS IS OF BULK AT MOST 1048576: true; the input reads as it did. -/
def octetSmallUptoRow : OpenClaim := { program := "ytdicpnnmhjgnbaa", sum := "724ed4a33a96e7851d27ddc800fcc6f95f10f7cbc09fd80a57ce60530ad5824c", func := "winnower/winnowerlaw1.OctetSmall", spec := "octetSmall", apart := false, narrowed := true }
def OctetSmallUptoSaid : Prop := octetSmallUptoRow.holds Try.pinned (OpenSpec.upto octetSmallSpec)

/-- 'winnowerlaw1.OctetNums', WHERE WHAT IT READS IS OF BULK AT MOST 1048576: true; the input reads as it did. -/
def octetNumsUptoRow : OpenClaim := { program := "ytdicpnnmhjgnbaa", sum := "724ed4a33a96e7851d27ddc800fcc6f95f10f7cbc09fd80a57ce60530ad5824c", func := "winnower/winnowerlaw1.OctetNums", spec := "octetNums", apart := false, narrowed := true }
def OctetNumsUptoSaid : Prop := octetNumsUptoRow.holds Try.pinned (OpenSpec.upto octetNumsSpec)

/-- 'winnowerlaw1.OctetSums', WHERE WHAT IT READS IS OF BULK AT MOST 1048576: true; the input reads as it did. -/
def octetSumsUptoRow : OpenClaim := { program := "ytdicpnnmhjgnbaa", sum := "724ed4a33a96e7851d27ddc800fcc6f95f10f7cbc09fd80a57ce60530ad5824c", func := "winnower/winnowerlaw1.OctetSums", spec := "octetSums", inPlace := ["internal/bytealg.MakeNoZero"], apart := false, narrowed := true }
def OctetSumsUptoSaid : Prop := octetSumsUptoRow.holds Try.pinned (OpenSpec.upto octetSumsSpec)

/-- 'winnowerlaw1.OctetJoins', WHERE WHAT IT READS IS OF BULK AT MOST 1048576: true; the input reads as it did. -/
def octetJoinsUptoRow : OpenClaim := { program := "ytdicpnnmhjgnbaa", sum := "724ed4a33a96e7851d27ddc800fcc6f95f10f7cbc09fd80a57ce60530ad5824c", func := "winnower/winnowerlaw1.OctetJoins", spec := "octetJoins", inPlace := ["internal/bytealg.MakeNoZero"], apart := false, narrowed := true }
def OctetJoinsUptoSaid : Prop := octetJoinsUptoRow.holds Try.pinned (OpenSpec.upto octetJoinsSpec)

/-- 'winnowerlaw16.PackTells', WHERE WHAT IT READS IS OF BULK AT MOST 1048576: true; the input reads as it did. -/
def packTellsUptoRow : OpenClaim := { program := "ytdicpnnmhjgnbaa", sum := "724ed4a33a96e7851d27ddc800fcc6f95f10f7cbc09fd80a57ce60530ad5824c", func := "winnower/winnowerlaw16.PackTells", spec := "packTells", apart := false, narrowed := true }
def PackTellsUptoSaid : Prop := packTellsUptoRow.holds Try.pinned (OpenSpec.upto packTellsSpec)

/-- 'winnowerlaw1.OctetRows', WHERE WHAT IT READS IS OF BULK AT MOST 1048576: true; the input reads as it did. -/
def octetRowsUptoRow : OpenClaim := { program := "ytdicpnnmhjgnbaa", sum := "724ed4a33a96e7851d27ddc800fcc6f95f10f7cbc09fd80a57ce60530ad5824c", func := "winnower/winnowerlaw1.OctetRows", spec := "octetRows", apart := false, narrowed := true }
def OctetRowsUptoSaid : Prop := octetRowsUptoRow.holds Try.pinned (OpenSpec.upto octetRowsSpec)

/-- 'winnowerlaw1.OctetCuts', WHERE WHAT IT READS IS OF BULK AT MOST 1048576: true; the input reads as it did. -/
def octetCutsUptoRow : OpenClaim := { program := "ytdicpnnmhjgnbaa", sum := "724ed4a33a96e7851d27ddc800fcc6f95f10f7cbc09fd80a57ce60530ad5824c", func := "winnower/winnowerlaw1.OctetCuts", spec := "octetCuts", apart := false, narrowed := true }
def OctetCutsUptoSaid : Prop := octetCutsUptoRow.holds Try.pinned (OpenSpec.upto octetCutsSpec)

/-- 'winnowerlaw1.OctetOfNothing', WHERE WHAT IT READS IS OF BULK AT MOST 1048576: true; the input reads as it did. -/
def octetOfNothingUptoRow : OpenClaim := { program := "ytdicpnnmhjgnbaa", sum := "724ed4a33a96e7851d27ddc800fcc6f95f10f7cbc09fd80a57ce60530ad5824c", func := "winnower/winnowerlaw1.OctetOfNothing", spec := "octetOfNothing", apart := false, narrowed := true }
def OctetOfNothingUptoSaid : Prop := octetOfNothingUptoRow.holds Try.pinned (OpenSpec.upto octetOfNothingSpec)

/-- 'winnowerlaw1.OctetTakes', WHERE WHAT IT READS IS OF BULK AT MOST 1048576: true; the input reads as it did. -/
def octetTakesUptoRow : OpenClaim := { program := "ytdicpnnmhjgnbaa", sum := "724ed4a33a96e7851d27ddc800fcc6f95f10f7cbc09fd80a57ce60530ad5824c", func := "winnower/winnowerlaw1.OctetTakes", spec := "octetTakes", apart := false, narrowed := true }
def OctetTakesUptoSaid : Prop := octetTakesUptoRow.holds Try.pinned (OpenSpec.upto octetTakesSpec)

/-- 'winnowerlaw16.PackDecodes', WHERE WHAT IT READS IS OF BULK AT MOST 1048576: true; the input reads as it did. -/
def packDecodesUptoRow : OpenClaim := { program := "ytdicpnnmhjgnbaa", sum := "724ed4a33a96e7851d27ddc800fcc6f95f10f7cbc09fd80a57ce60530ad5824c", func := "winnower/winnowerlaw16.PackDecodes", spec := "packDecodes", apart := false, narrowed := true }
def PackDecodesUptoSaid : Prop := packDecodesUptoRow.holds Try.pinned (OpenSpec.upto packDecodesSpec)

/-- 'winnowerlaw16.PackRuns', WHERE WHAT IT READS IS OF BULK AT MOST 1048576: true; the input reads as it did. -/
def packRunsUptoRow : OpenClaim := { program := "ytdicpnnmhjgnbaa", sum := "724ed4a33a96e7851d27ddc800fcc6f95f10f7cbc09fd80a57ce60530ad5824c", func := "winnower/winnowerlaw16.PackRuns", spec := "packRuns", apart := false, narrowed := true }
def PackRunsUptoSaid : Prop := packRunsUptoRow.holds Try.pinned (OpenSpec.upto packRunsSpec)

/-- 'winnowerlaw16.PackRises', WHERE WHAT IT READS IS OF BULK AT MOST 1048576: true; the input reads as it did. -/
def packRisesUptoRow : OpenClaim := { program := "ytdicpnnmhjgnbaa", sum := "724ed4a33a96e7851d27ddc800fcc6f95f10f7cbc09fd80a57ce60530ad5824c", func := "winnower/winnowerlaw16.PackRises", spec := "packRises", apart := false, narrowed := true }
def PackRisesUptoSaid : Prop := packRisesUptoRow.holds Try.pinned (OpenSpec.upto packRisesSpec)

/-- 'winnowerlaw16.PackBack', WHERE WHAT IT READS IS OF BULK AT MOST 1048576: true; the input reads as it did. -/
def packBackUptoRow : OpenClaim := { program := "ytdicpnnmhjgnbaa", sum := "724ed4a33a96e7851d27ddc800fcc6f95f10f7cbc09fd80a57ce60530ad5824c", func := "winnower/winnowerlaw16.PackBack", spec := "packBack", apart := false, narrowed := true }
def PackBackUptoSaid : Prop := packBackUptoRow.holds Try.pinned (OpenSpec.upto packBackSpec)

end Rows
end Go.Proofs.Ytdicpnnmhjgnbaa
