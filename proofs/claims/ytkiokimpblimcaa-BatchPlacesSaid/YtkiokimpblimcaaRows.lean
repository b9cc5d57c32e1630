/-
  No cell of these rows narrows 'for every input' (looked for: loops, veiled, ifaces, maps, wideKeys, modest, calm, conditions, laid).
  DERIVED. THE GIVEN ROWS OF THIS SEAT. 11 by the template 'for every input the law returns true; each argument reads behind the call as it read before'; 0 by the template 'total and deterministic' (their statements: YtkiokimpblimcaaTotals.lean).
  GIVEN WITH THE SEED: the statements are not yours to turn. If you find one false, say at which input.
  Laid BY PROGRAM, IN A SANDBOX (cutbox-rows.mjs): the forced cells as the released guide's own fill.sh prints them over the translation 7fb1221000af8813… (all of the seat's roots in one cut). By AI agents, Wed Nov 11 2026. No macro, syntax, notation, axiom, sorry.
-/
import Derived.Test.YtkiokimpblimcaaChecked
import GoSem.Claim
import GoSem.ClaimJoined
import GoSem.ClaimMapViews
import Derived.JoinedTies
import Derived.KernelRfl
namespace Go.Proofs.Ytkiokimpblimcaa
/- THE CELL 'sum', in the pinned program and in every row, IS THE sha256 OF THE DUMP (.gsa) THAT YtkiokimpblimcaaProg.lean LOADS. Nothing in Lean hashes anything: it is a label: what it is worth is what the hold of that sum in a sandbox is worth. -/
noncomputable def Try.pinned : Pinned := { name := "ytkiokimpblimcaa", sum := "7fb1221000af8813440a9333733b80e45765343a0aac0a30ac1ef1aacbee5871", checked := Try.checked }
namespace Rows
def none {H : Type} : Left H := { results := [], args := [] }

/-- 'calamuslaw08.ChangeDiffs': WHATEVER THE INPUT: true; the input reads as it did. -/
def changeDiffsSpec : ChangeSpec := { name := "changeDiffs", fn := fun _ => fun
  | [d1, d2] => { results := [.lit (.bool true)], args := [d1, d2] }
  | _ => none }
def changeDiffsRow : OpenClaim := { program := "ytkiokimpblimcaa", sum := "7fb1221000af8813440a9333733b80e45765343a0aac0a30ac1ef1aacbee5871", func := "calamus/calamuslaw08.ChangeDiffs", spec := "changeDiffs", apart := false }
def ChangeDiffsSaid : Prop := changeDiffsRow.holds Try.pinned (OpenSpec.ofChange changeDiffsSpec)

/-- ITS FALSE NEIGHBOUR: 'it returns false'. Refute it at one input. -/
def changeDiffsWrong : ChangeSpec := { name := "changeDiffs", fn := fun _ => fun
  | [d1, d2] => { results := [.lit (.bool false)], args := [d1, d2] }
  | _ => none }
def ChangeDiffsWrongFalsely : Prop := changeDiffsRow.holds Try.pinned (OpenSpec.ofChange changeDiffsWrong)

/-- 'calamuslaw08.ChangeShifts': WHATEVER THE INPUT: true; the input reads as it did. -/
def changeShiftsSpec : ChangeSpec := { name := "changeShifts", fn := fun _ => fun
  | [d1, d2] => { results := [.lit (.bool true)], args := [d1, d2] }
  | _ => none }
def changeShiftsRow : OpenClaim := { program := "ytkiokimpblimcaa", sum := "7fb1221000af8813440a9333733b80e45765343a0aac0a30ac1ef1aacbee5871", func := "calamus/calamuslaw08.ChangeShifts", spec := "changeShifts", apart := false }
def ChangeShiftsSaid : Prop := changeShiftsRow.holds Try.pinned (OpenSpec.ofChange changeShiftsSpec)

/-- ITS FALSE NEIGHBOUR: 'it returns false'. Refute it at one input. -/
def changeShiftsWrong : ChangeSpec := { name := "changeShifts", fn := fun _ => fun
  | [d1, d2] => { results := [.lit (.bool false)], args := [d1, d2] }
  | _ => none }
def ChangeShiftsWrongFalsely : Prop := changeShiftsRow.holds Try.pinned (OpenSpec.ofChange changeShiftsWrong)

/-- 'calamuslaw08.ChangeDoes': WHATEVER THE INPUT: true; the input reads as it did. -/
def changeDoesSpec : ChangeSpec := { name := "changeDoes", fn := fun _ => fun
  | [d1, d2] => { results := [.lit (.bool true)], args := [d1, d2] }
  | _ => none }
def changeDoesRow : OpenClaim := { program := "ytkiokimpblimcaa", sum := "7fb1221000af8813440a9333733b80e45765343a0aac0a30ac1ef1aacbee5871", func := "calamus/calamuslaw08.ChangeDoes", spec := "changeDoes", apart := false }
def ChangeDoesSaid : Prop := changeDoesRow.holds Try.pinned (OpenSpec.ofChange changeDoesSpec)

/-- ITS FALSE NEIGHBOUR: 'it returns false'. Refute it at one input. -/
def changeDoesWrong : ChangeSpec := { name := "changeDoes", fn := fun _ => fun
  | [d1, d2] => { results := [.lit (.bool false)], args := [d1, d2] }
  | _ => none }
def ChangeDoesWrongFalsely : Prop := changeDoesRow.holds Try.pinned (OpenSpec.ofChange changeDoesWrong)

/-- 'calamuslaw08.ChangeMakes': WHATEVER THE INPUT: true; the input reads as it did. -/
def changeMakesSpec : ChangeSpec := { name := "changeMakes", fn := fun _ => fun
  | [d1, d2] => { results := [.lit (.bool true)], args := [d1, d2] }
  | _ => none }
def changeMakesRow : OpenClaim := { program := "ytkiokimpblimcaa", sum := "7fb1221000af8813440a9333733b80e45765343a0aac0a30ac1ef1aacbee5871", func := "calamus/calamuslaw08.ChangeMakes", spec := "changeMakes", apart := false }
def ChangeMakesSaid : Prop := changeMakesRow.holds Try.pinned (OpenSpec.ofChange changeMakesSpec)

/-- ITS FALSE NEIGHBOUR: 'it returns false'. Refute it at one input. -/
def changeMakesWrong : ChangeSpec := { name := "changeMakes", fn := fun _ => fun
  | [d1, d2] => { results := [.lit (.bool false)], args := [d1, d2] }
  | _ => none }
def ChangeMakesWrongFalsely : Prop := changeMakesRow.holds Try.pinned (OpenSpec.ofChange changeMakesWrong)

/-- 'calamuslaw09.BatchPlaces': WHATEVER THE INPUT: true; the input reads as it did. -/
def batchPlacesSpec : ChangeSpec := { name := "batchPlaces", fn := fun _ => fun
  | [d1, d2, d3, d4] => { results := [.lit (.bool true)], args := [d1, d2, d3, d4] }
  | _ => none }
def batchPlacesRow : OpenClaim := { program := "ytkiokimpblimcaa", sum := "7fb1221000af8813440a9333733b80e45765343a0aac0a30ac1ef1aacbee5871", func := "calamus/calamuslaw09.BatchPlaces", spec := "batchPlaces", inPlace := ["internal/abi.NoEscape"], apart := false }
def BatchPlacesSaid : Prop := batchPlacesRow.holds Try.pinned (OpenSpec.ofChange batchPlacesSpec)

/-- ITS FALSE NEIGHBOUR: 'it returns false'. Refute it at one input. -/
def batchPlacesWrong : ChangeSpec := { name := "batchPlaces", fn := fun _ => fun
  | [d1, d2, d3, d4] => { results := [.lit (.bool false)], args := [d1, d2, d3, d4] }
  | _ => none }
def BatchPlacesWrongFalsely : Prop := batchPlacesRow.holds Try.pinned (OpenSpec.ofChange batchPlacesWrong)

/-- 'calamuslaw11.TreeAdds': WHATEVER THE INPUT: true; the input reads as it did. -/
def treeAddsSpec : ChangeSpec := { name := "treeAdds", fn := fun _ => fun
  | [d1, d2, d3, d4] => { results := [.lit (.bool true)], args := [d1, d2, d3, d4] }
  | _ => none }
def treeAddsRow : OpenClaim := { program := "ytkiokimpblimcaa", sum := "7fb1221000af8813440a9333733b80e45765343a0aac0a30ac1ef1aacbee5871", func := "calamus/calamuslaw11.TreeAdds", spec := "treeAdds", apart := false }
def TreeAddsSaid : Prop := treeAddsRow.holds Try.pinned (OpenSpec.ofChange treeAddsSpec)

/-- ITS FALSE NEIGHBOUR: 'it returns false'. Refute it at one input. -/
def treeAddsWrong : ChangeSpec := { name := "treeAdds", fn := fun _ => fun
  | [d1, d2, d3, d4] => { results := [.lit (.bool false)], args := [d1, d2, d3, d4] }
  | _ => none }
def TreeAddsWrongFalsely : Prop := treeAddsRow.holds Try.pinned (OpenSpec.ofChange treeAddsWrong)

/-- 'calamuslaw11.TreeSteps': WHATEVER THE INPUT: true; the input reads as it did. -/
def treeStepsSpec : ChangeSpec := { name := "treeSteps", fn := fun _ => fun
  | [d1, d2] => { results := [.lit (.bool true)], args := [d1, d2] }
  | _ => none }
def treeStepsRow : OpenClaim := { program := "ytkiokimpblimcaa", sum := "7fb1221000af8813440a9333733b80e45765343a0aac0a30ac1ef1aacbee5871", func := "calamus/calamuslaw11.TreeSteps", spec := "treeSteps", apart := false }
def TreeStepsSaid : Prop := treeStepsRow.holds Try.pinned (OpenSpec.ofChange treeStepsSpec)

/-- ITS FALSE NEIGHBOUR: 'it returns false'. Refute it at one input. -/
def treeStepsWrong : ChangeSpec := { name := "treeSteps", fn := fun _ => fun
  | [d1, d2] => { results := [.lit (.bool false)], args := [d1, d2] }
  | _ => none }
def TreeStepsWrongFalsely : Prop := treeStepsRow.holds Try.pinned (OpenSpec.ofChange treeStepsWrong)

/-- 'calamuslaw11.TreeGoes': WHATEVER THE INPUT: true; the input reads as it did. -/
def treeGoesSpec : ChangeSpec := { name := "treeGoes", fn := fun _ => fun
  | [d1, d2] => { results := [.lit (.bool true)], args := [d1, d2] }
  | _ => none }
def treeGoesRow : OpenClaim := { program := "ytkiokimpblimcaa", sum := "7fb1221000af8813440a9333733b80e45765343a0aac0a30ac1ef1aacbee5871", func := "calamus/calamuslaw11.TreeGoes", spec := "treeGoes", apart := false }
def TreeGoesSaid : Prop := treeGoesRow.holds Try.pinned (OpenSpec.ofChange treeGoesSpec)

/-- ITS FALSE NEIGHBOUR: 'it returns false'. Refute it at one input. -/
def treeGoesWrong : ChangeSpec := { name := "treeGoes", fn := fun _ => fun
  | [d1, d2] => { results := [.lit (.bool false)], args := [d1, d2] }
  | _ => none }
def TreeGoesWrongFalsely : Prop := treeGoesRow.holds Try.pinned (OpenSpec.ofChange treeGoesWrong)

/-- 'calamuslaw11.TreeBack': WHATEVER THE INPUT: true; the input reads as it did. -/
def treeBackSpec : ChangeSpec := { name := "treeBack", fn := fun _ => fun
  | [d1, d2] => { results := [.lit (.bool true)], args := [d1, d2] }
  | _ => none }
def treeBackRow : OpenClaim := { program := "ytkiokimpblimcaa", sum := "7fb1221000af8813440a9333733b80e45765343a0aac0a30ac1ef1aacbee5871", func := "calamus/calamuslaw11.TreeBack", spec := "treeBack", apart := false }
def TreeBackSaid : Prop := treeBackRow.holds Try.pinned (OpenSpec.ofChange treeBackSpec)

/-- ITS FALSE NEIGHBOUR: 'it returns false'. Refute it at one input. -/
def treeBackWrong : ChangeSpec := { name := "treeBack", fn := fun _ => fun
  | [d1, d2] => { results := [.lit (.bool false)], args := [d1, d2] }
  | _ => none }
def TreeBackWrongFalsely : Prop := treeBackRow.holds Try.pinned (OpenSpec.ofChange treeBackWrong)

/-- 'calamuslaw11.TreeTexts': WHATEVER THE INPUT: true; the input reads as it did. -/
def treeTextsSpec : ChangeSpec := { name := "treeTexts", fn := fun _ => fun
  | [d1, d2] => { results := [.lit (.bool true)], args := [d1, d2] }
  | _ => none }
def treeTextsRow : OpenClaim := { program := "ytkiokimpblimcaa", sum := "7fb1221000af8813440a9333733b80e45765343a0aac0a30ac1ef1aacbee5871", func := "calamus/calamuslaw11.TreeTexts", spec := "treeTexts", apart := false }
def TreeTextsSaid : Prop := treeTextsRow.holds Try.pinned (OpenSpec.ofChange treeTextsSpec)

/-- ITS FALSE NEIGHBOUR: 'it returns false'. Refute it at one input. -/
def treeTextsWrong : ChangeSpec := { name := "treeTexts", fn := fun _ => fun
  | [d1, d2] => { results := [.lit (.bool false)], args := [d1, d2] }
  | _ => none }
def TreeTextsWrongFalsely : Prop := treeTextsRow.holds Try.pinned (OpenSpec.ofChange treeTextsWrong)

/-- 'calamuslaw11.TreeKeeps': WHATEVER THE INPUT: true; the input reads as it did. -/
def treeKeepsSpec : ChangeSpec := { name := "treeKeeps", fn := fun _ => fun
  | [d1, d2, d3] => { results := [.lit (.bool true)], args := [d1, d2, d3] }
  | _ => none }
def treeKeepsRow : OpenClaim := { program := "ytkiokimpblimcaa", sum := "7fb1221000af8813440a9333733b80e45765343a0aac0a30ac1ef1aacbee5871", func := "calamus/calamuslaw11.TreeKeeps", spec := "treeKeeps", apart := false }
def TreeKeepsSaid : Prop := treeKeepsRow.holds Try.pinned (OpenSpec.ofChange treeKeepsSpec)

/-- ITS FALSE NEIGHBOUR: 'it returns false'. Refute it at one input. -/
def treeKeepsWrong : ChangeSpec := { name := "treeKeeps", fn := fun _ => fun
  | [d1, d2, d3] => { results := [.lit (.bool false)], args := [d1, d2, d3] }
  | _ => none }
def TreeKeepsWrongFalsely : Prop := treeKeepsRow.holds Try.pinned (OpenSpec.ofChange treeKeepsWrong)

/- THE SECOND FORM. 'bulk': how many values and letters a reading holds, each counted each time it is reached (what is shared counts as often as it is met; a slice's spare places count too). A statement '..UptoSaid' is the law's where the arguments, and the package variables that the reading takes, are together of bulk at most 1048576: NARROWER than '..Said'. Prove '..Said' where nothing that the law and all that it calls make is longer than what came in: it says more and counts as full. Else prove '..UptoSaid'. A law counts once. -/
mutual
def uptoBulk {H : Type} : DataW H → Nat
  | .lit (.string bytes) => bytes.length + 1
  | .lit _ => 1
  | .nil => 1
  | .ptr d => uptoBulk d + 1
  | .slice elems spare => uptoBulkAll elems + uptoBulkAll spare + 1
  | .agg parts => uptoBulkAll parts + 1
  | .iface _ d => uptoBulk d + 1
  | .map entries => uptoBulkEntries entries + 1
  | .held _ => 1
def uptoBulkAll {H : Type} : List (DataW H) → Nat
  | [] => 0
  | d :: r => uptoBulk d + uptoBulkAll r
def uptoBulkEntries {H : Type} : List (Lit × DataW H) → Nat
  | [] => 0
  | x :: r => uptoBulkEntry x + uptoBulkEntries r
def uptoBulkEntry {H : Type} : Lit × DataW H → Nat
  | (.string bytes, d) => bytes.length + uptoBulk d + 1
  | (_, d) => uptoBulk d + 1
 end
def uptoSmall : (H : Type) → List (DataW H) → Bool := fun _ ds => decide (uptoBulkAll ds ≤ 1048576)
def OpenSpec.upto (s : _root_.Go.ChangeSpec) : _root_.Go.OpenSpec := { _root_.Go.OpenSpec.ofChange s with cond := some uptoSmall }

/-- 'calamuslaw08.ChangeDiffs', WHERE WHAT IT READS IS OF BULK AT MOST 1048576: true; the input reads as it did. -/
def changeDiffsUptoRow : OpenClaim := { program := "ytkiokimpblimcaa", sum := "7fb1221000af8813440a9333733b80e45765343a0aac0a30ac1ef1aacbee5871", func := "calamus/calamuslaw08.ChangeDiffs", spec := "changeDiffs", apart := false, narrowed := true }
def ChangeDiffsUptoSaid : Prop := changeDiffsUptoRow.holds Try.pinned (OpenSpec.upto changeDiffsSpec)

/-- 'calamuslaw08.ChangeShifts', WHERE WHAT IT READS IS OF BULK AT MOST 1048576: true; the input reads as it did. -/
def changeShiftsUptoRow : OpenClaim := { program := "ytkiokimpblimcaa", sum := "7fb1221000af8813440a9333733b80e45765343a0aac0a30ac1ef1aacbee5871", func := "calamus/calamuslaw08.ChangeShifts", spec := "changeShifts", apart := false, narrowed := true }
def ChangeShiftsUptoSaid : Prop := changeShiftsUptoRow.holds Try.pinned (OpenSpec.upto changeShiftsSpec)

/-- 'calamuslaw08.ChangeDoes', WHERE WHAT IT READS IS OF BULK AT MOST 1048576: true; the input reads as it did. -/
def changeDoesUptoRow : OpenClaim := { program := "ytkiokimpblimcaa", sum := "7fb1221000af8813440a9333733b80e45765343a0aac0a30ac1ef1aacbee5871", func := "calamus/calamuslaw08.ChangeDoes", spec := "changeDoes", apart := false, narrowed := true }
def ChangeDoesUptoSaid : Prop := changeDoesUptoRow.holds Try.pinned (OpenSpec.upto changeDoesSpec)

/-- 'calamuslaw08.ChangeMakes', WHERE WHAT IT READS IS OF BULK AT MOST 1048576: true; the input reads as it did. -/
def changeMakesUptoRow : OpenClaim := { program := "ytkiokimpblimcaa", sum := "7fb1221000af8813440a9333733b80e45765343a0aac0a30ac1ef1aacbee5871", func := "calamus/calamuslaw08.ChangeMakes", spec := "changeMakes", apart := false, narrowed := true }
def ChangeMakesUptoSaid : Prop := changeMakesUptoRow.holds Try.pinned (OpenSpec.upto changeMakesSpec)

/-- 'calamuslaw09.BatchPlaces', WHERE WHAT IT READS IS OF BULK AT MOST 1048576: true; the input reads as it did. -/
def batchPlacesUptoRow : OpenClaim := { program := "ytkiokimpblimcaa", sum := "7fb1221000af8813440a9333733b80e45765343a0aac0a30ac1ef1aacbee5871", func := "calamus/calamuslaw09.BatchPlaces", spec := "batchPlaces", inPlace := ["internal/abi.NoEscape"], apart := false, narrowed := true }
def BatchPlacesUptoSaid : Prop := batchPlacesUptoRow.holds Try.pinned (OpenSpec.upto batchPlacesSpec)

/-- 'calamuslaw11.TreeAdds', WHERE WHAT IT READS IS OF BULK AT MOST 1048576: true; the input reads as it did. -/
def treeAddsUptoRow : OpenClaim := { program := "ytkiokimpblimcaa", sum := "7fb1221000af8813440a9333733b80e45765343a0aac0a30ac1ef1aacbee5871", func := "calamus/calamuslaw11.TreeAdds", spec := "treeAdds", apart := false, narrowed := true }
def TreeAddsUptoSaid : Prop := treeAddsUptoRow.holds Try.pinned (OpenSpec.upto treeAddsSpec)

/-- 'calamuslaw11.TreeSteps', WHERE WHAT IT READS IS OF BULK AT MOST 1048576: true; the input reads as it did. -/
def treeStepsUptoRow : OpenClaim := { program := "ytkiokimpblimcaa", sum := "7fb1221000af8813440a9333733b80e45765343a0aac0a30ac1ef1aacbee5871", func := "calamus/calamuslaw11.TreeSteps", spec := "treeSteps", apart := false, narrowed := true }
def TreeStepsUptoSaid : Prop := treeStepsUptoRow.holds Try.pinned (OpenSpec.upto treeStepsSpec)

/-- 'calamuslaw11.TreeGoes', WHERE WHAT IT READS IS OF BULK AT MOST 1048576: true; the input reads as it did. -/
def treeGoesUptoRow : OpenClaim := { program := "ytkiokimpblimcaa", sum := "7fb1221000af8813440a9333733b80e45765343a0aac0a30ac1ef1aacbee5871", func := "calamus/calamuslaw11.TreeGoes", spec := "treeGoes", apart := false, narrowed := true }
def TreeGoesUptoSaid : Prop := treeGoesUptoRow.holds Try.pinned (OpenSpec.upto treeGoesSpec)

/-- 'calamuslaw11.TreeBack', WHERE WHAT IT READS IS OF BULK AT MOST 1048576: true; the input reads as it did. -/
def treeBackUptoRow : OpenClaim := { program := "ytkiokimpblimcaa", sum := "7fb1221000af8813440a9333733b80e45765343a0aac0a30ac1ef1aacbee5871", func := "calamus/calamuslaw11.TreeBack", spec := "treeBack", apart := false, narrowed := true }
def TreeBackUptoSaid : Prop := treeBackUptoRow.holds Try.pinned (OpenSpec.upto treeBackSpec)

/-- 'calamuslaw11.TreeTexts', WHERE WHAT IT READS IS OF BULK AT MOST 1048576: true; the input reads as it did. -/
def treeTextsUptoRow : OpenClaim := { program := "ytkiokimpblimcaa", sum := "7fb1221000af8813440a9333733b80e45765343a0aac0a30ac1ef1aacbee5871", func := "calamus/calamuslaw11.TreeTexts", spec := "treeTexts", apart := false, narrowed := true }
def TreeTextsUptoSaid : Prop := treeTextsUptoRow.holds Try.pinned (OpenSpec.upto treeTextsSpec)

/-- 'calamuslaw11.TreeKeeps', WHERE WHAT IT READS IS OF BULK AT MOST 1048576: true; the input reads as it did. -/
def treeKeepsUptoRow : OpenClaim := { program := "ytkiokimpblimcaa", sum := "7fb1221000af8813440a9333733b80e45765343a0aac0a30ac1ef1aacbee5871", func := "calamus/calamuslaw11.TreeKeeps", spec := "treeKeeps", apart := false, narrowed := true }
def TreeKeepsUptoSaid : Prop := treeKeepsUptoRow.holds Try.pinned (OpenSpec.upto treeKeepsSpec)

end Rows
end Go.Proofs.Ytkiokimpblimcaa
