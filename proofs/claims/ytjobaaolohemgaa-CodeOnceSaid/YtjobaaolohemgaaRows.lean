/-
  No cell of these rows narrows 'for every input' (looked for: loops, veiled, ifaces, maps, wideKeys, modest, calm, conditions, laid).
  DERIVED. THE GIVEN ROWS OF THIS SEAT. 11 by the template 'for every input the law returns true; each argument reads behind the call as it read before'; 0 by the template 'total and deterministic' (their statements: YtjobaaolohemgaaTotals.lean).
  GIVEN WITH THE SEED: the statements are not yours to turn. If you find one false, say at which input.
  Laid BY PROGRAM, IN A SANDBOX (cutbox-rows.mjs): the forced cells as the released guide's own fill.sh prints them over the translation f63d455cd373d309… (all of the seat's roots in one cut). By AI agents, Wed Nov 11 2026. No macro, syntax, notation, axiom, sorry.
-/
import Derived.Test.YtjobaaolohemgaaChecked
import GoSem.Claim
import GoSem.ClaimJoined
import GoSem.ClaimMapViews
import Derived.JoinedTies
import Derived.KernelRfl
namespace Go.Proofs.Ytjobaaolohemgaa
/- THE CELL 'sum', in the pinned program and in every row, IS THE sha256 OF THE DUMP (.gsa) THAT YtjobaaolohemgaaProg.lean LOADS. Nothing in Lean hashes anything: it is a label: what it is worth is what the hold of that sum in a sandbox is worth. -/
noncomputable def Try.pinned : Pinned := { name := "ytjobaaolohemgaa", sum := "f63d455cd373d3092d7703a7f4dabada4fefed5d8a0907048f8b296f98c67d67", checked := Try.checked }
namespace Rows
def none {H : Type} : Left H := { results := [], args := [] }

/-- 'calamuslaw01.CodeWrites': WHATEVER THE INPUT: true; the input reads as it did. -/
def codeWritesSpec : ChangeSpec := { name := "codeWrites", fn := fun _ => fun
  | [d1, d2, d3] => { results := [.lit (.bool true)], args := [d1, d2, d3] }
  | _ => none }
def codeWritesRow : OpenClaim := { program := "ytjobaaolohemgaa", sum := "f63d455cd373d3092d7703a7f4dabada4fefed5d8a0907048f8b296f98c67d67", func := "calamus/calamuslaw01.CodeWrites", spec := "codeWrites", unfollowed := true, recurses := true, apart := false }
def CodeWritesSaid : Prop := codeWritesRow.holds Try.pinned (OpenSpec.ofChange codeWritesSpec)

/-- ITS FALSE NEIGHBOUR: 'it returns false'. Refute it at one input. -/
def codeWritesWrong : ChangeSpec := { name := "codeWrites", fn := fun _ => fun
  | [d1, d2, d3] => { results := [.lit (.bool false)], args := [d1, d2, d3] }
  | _ => none }
def CodeWritesWrongFalsely : Prop := codeWritesRow.holds Try.pinned (OpenSpec.ofChange codeWritesWrong)

/-- 'calamuslaw01.CodeReads': WHATEVER THE INPUT: true; the input reads as it did. -/
def codeReadsSpec : ChangeSpec := { name := "codeReads", fn := fun _ => fun
  | [d1, d2] => { results := [.lit (.bool true)], args := [d1, d2] }
  | _ => none }
def codeReadsRow : OpenClaim := { program := "ytjobaaolohemgaa", sum := "f63d455cd373d3092d7703a7f4dabada4fefed5d8a0907048f8b296f98c67d67", func := "calamus/calamuslaw01.CodeReads", spec := "codeReads", unfollowed := true, recurses := true, apart := false }
def CodeReadsSaid : Prop := codeReadsRow.holds Try.pinned (OpenSpec.ofChange codeReadsSpec)

/-- ITS FALSE NEIGHBOUR: 'it returns false'. Refute it at one input. -/
def codeReadsWrong : ChangeSpec := { name := "codeReads", fn := fun _ => fun
  | [d1, d2] => { results := [.lit (.bool false)], args := [d1, d2] }
  | _ => none }
def CodeReadsWrongFalsely : Prop := codeReadsRow.holds Try.pinned (OpenSpec.ofChange codeReadsWrong)

/-- 'calamuslaw01.CodeBack': WHATEVER THE INPUT: true; the input reads as it did. -/
def codeBackSpec : ChangeSpec := { name := "codeBack", fn := fun _ => fun
  | [d1, d2, d3, d4] => { results := [.lit (.bool true)], args := [d1, d2, d3, d4] }
  | _ => none }
def codeBackRow : OpenClaim := { program := "ytjobaaolohemgaa", sum := "f63d455cd373d3092d7703a7f4dabada4fefed5d8a0907048f8b296f98c67d67", func := "calamus/calamuslaw01.CodeBack", spec := "codeBack", unfollowed := true, recurses := true, apart := false }
def CodeBackSaid : Prop := codeBackRow.holds Try.pinned (OpenSpec.ofChange codeBackSpec)

/-- ITS FALSE NEIGHBOUR: 'it returns false'. Refute it at one input. -/
def codeBackWrong : ChangeSpec := { name := "codeBack", fn := fun _ => fun
  | [d1, d2, d3, d4] => { results := [.lit (.bool false)], args := [d1, d2, d3, d4] }
  | _ => none }
def CodeBackWrongFalsely : Prop := codeBackRow.holds Try.pinned (OpenSpec.ofChange codeBackWrong)

/-- 'calamuslaw01.CodeOnce': WHATEVER THE INPUT: true; the input reads as it did. -/
def codeOnceSpec : ChangeSpec := { name := "codeOnce", fn := fun _ => fun
  | [d1, d2] => { results := [.lit (.bool true)], args := [d1, d2] }
  | _ => none }
def codeOnceRow : OpenClaim := { program := "ytjobaaolohemgaa", sum := "f63d455cd373d3092d7703a7f4dabada4fefed5d8a0907048f8b296f98c67d67", func := "calamus/calamuslaw01.CodeOnce", spec := "codeOnce", unfollowed := true, recurses := true, apart := false }
def CodeOnceSaid : Prop := codeOnceRow.holds Try.pinned (OpenSpec.ofChange codeOnceSpec)

/-- ITS FALSE NEIGHBOUR: 'it returns false'. Refute it at one input. -/
def codeOnceWrong : ChangeSpec := { name := "codeOnce", fn := fun _ => fun
  | [d1, d2] => { results := [.lit (.bool false)], args := [d1, d2] }
  | _ => none }
def CodeOnceWrongFalsely : Prop := codeOnceRow.holds Try.pinned (OpenSpec.ofChange codeOnceWrong)

/-- 'calamuslaw03.UtfFeeds': WHATEVER THE INPUT: true; the input reads as it did. -/
def utfFeedsSpec : ChangeSpec := { name := "utfFeeds", fn := fun _ => fun
  | [d1, d2] => { results := [.lit (.bool true)], args := [d1, d2] }
  | _ => none }
def utfFeedsRow : OpenClaim := { program := "ytjobaaolohemgaa", sum := "f63d455cd373d3092d7703a7f4dabada4fefed5d8a0907048f8b296f98c67d67", func := "calamus/calamuslaw03.UtfFeeds", spec := "utfFeeds", apart := false }
def UtfFeedsSaid : Prop := utfFeedsRow.holds Try.pinned (OpenSpec.ofChange utfFeedsSpec)

/-- ITS FALSE NEIGHBOUR: 'it returns false'. Refute it at one input. -/
def utfFeedsWrong : ChangeSpec := { name := "utfFeeds", fn := fun _ => fun
  | [d1, d2] => { results := [.lit (.bool false)], args := [d1, d2] }
  | _ => none }
def UtfFeedsWrongFalsely : Prop := utfFeedsRow.holds Try.pinned (OpenSpec.ofChange utfFeedsWrong)

/-- 'calamuslaw03.UtfFed': WHATEVER THE INPUT: true; the input reads as it did. -/
def utfFedSpec : ChangeSpec := { name := "utfFed", fn := fun _ => fun
  | [d] => { results := [.lit (.bool true)], args := [d] }
  | _ => none }
def utfFedRow : OpenClaim := { program := "ytjobaaolohemgaa", sum := "f63d455cd373d3092d7703a7f4dabada4fefed5d8a0907048f8b296f98c67d67", func := "calamus/calamuslaw03.UtfFed", spec := "utfFed", apart := false }
def UtfFedSaid : Prop := utfFedRow.holds Try.pinned (OpenSpec.ofChange utfFedSpec)

/-- ITS FALSE NEIGHBOUR: 'it returns false'. Refute it at one input. -/
def utfFedWrong : ChangeSpec := { name := "utfFed", fn := fun _ => fun
  | [d] => { results := [.lit (.bool false)], args := [d] }
  | _ => none }
def UtfFedWrongFalsely : Prop := utfFedRow.holds Try.pinned (OpenSpec.ofChange utfFedWrong)

/-- 'calamuslaw03.UtfPlaces': WHATEVER THE INPUT: true; the input reads as it did. -/
def utfPlacesSpec : ChangeSpec := { name := "utfPlaces", fn := fun _ => fun
  | [d1, d2] => { results := [.lit (.bool true)], args := [d1, d2] }
  | _ => none }
def utfPlacesRow : OpenClaim := { program := "ytjobaaolohemgaa", sum := "f63d455cd373d3092d7703a7f4dabada4fefed5d8a0907048f8b296f98c67d67", func := "calamus/calamuslaw03.UtfPlaces", spec := "utfPlaces", apart := false }
def UtfPlacesSaid : Prop := utfPlacesRow.holds Try.pinned (OpenSpec.ofChange utfPlacesSpec)

/-- ITS FALSE NEIGHBOUR: 'it returns false'. Refute it at one input. -/
def utfPlacesWrong : ChangeSpec := { name := "utfPlaces", fn := fun _ => fun
  | [d1, d2] => { results := [.lit (.bool false)], args := [d1, d2] }
  | _ => none }
def UtfPlacesWrongFalsely : Prop := utfPlacesRow.holds Try.pinned (OpenSpec.ofChange utfPlacesWrong)

/-- 'calamuslaw03.UtfCounts': WHATEVER THE INPUT: true; the input reads as it did. -/
def utfCountsSpec : ChangeSpec := { name := "utfCounts", fn := fun _ => fun
  | [d1, d2] => { results := [.lit (.bool true)], args := [d1, d2] }
  | _ => none }
def utfCountsRow : OpenClaim := { program := "ytjobaaolohemgaa", sum := "f63d455cd373d3092d7703a7f4dabada4fefed5d8a0907048f8b296f98c67d67", func := "calamus/calamuslaw03.UtfCounts", spec := "utfCounts", apart := false }
def UtfCountsSaid : Prop := utfCountsRow.holds Try.pinned (OpenSpec.ofChange utfCountsSpec)

/-- ITS FALSE NEIGHBOUR: 'it returns false'. Refute it at one input. -/
def utfCountsWrong : ChangeSpec := { name := "utfCounts", fn := fun _ => fun
  | [d1, d2] => { results := [.lit (.bool false)], args := [d1, d2] }
  | _ => none }
def UtfCountsWrongFalsely : Prop := utfCountsRow.holds Try.pinned (OpenSpec.ofChange utfCountsWrong)

/-- 'calamuslaw03.UtfWalks': WHATEVER THE INPUT: true; the input reads as it did. -/
def utfWalksSpec : ChangeSpec := { name := "utfWalks", fn := fun _ => fun
  | [d] => { results := [.lit (.bool true)], args := [d] }
  | _ => none }
def utfWalksRow : OpenClaim := { program := "ytjobaaolohemgaa", sum := "f63d455cd373d3092d7703a7f4dabada4fefed5d8a0907048f8b296f98c67d67", func := "calamus/calamuslaw03.UtfWalks", spec := "utfWalks", apart := false }
def UtfWalksSaid : Prop := utfWalksRow.holds Try.pinned (OpenSpec.ofChange utfWalksSpec)

/-- ITS FALSE NEIGHBOUR: 'it returns false'. Refute it at one input. -/
def utfWalksWrong : ChangeSpec := { name := "utfWalks", fn := fun _ => fun
  | [d] => { results := [.lit (.bool false)], args := [d] }
  | _ => none }
def UtfWalksWrongFalsely : Prop := utfWalksRow.holds Try.pinned (OpenSpec.ofChange utfWalksWrong)

/-- 'calamuslaw32.FallChoices': WHATEVER THE INPUT: true; the input reads as it did. -/
def fallChoicesSpec : ChangeSpec := { name := "fallChoices", fn := fun _ => fun
  | [d1, d2, d3] => { results := [.lit (.bool true)], args := [d1, d2, d3] }
  | _ => none }
def fallChoicesRow : OpenClaim := { program := "ytjobaaolohemgaa", sum := "f63d455cd373d3092d7703a7f4dabada4fefed5d8a0907048f8b296f98c67d67", func := "calamus/calamuslaw32.FallChoices", spec := "fallChoices", unfollowed := true, recurses := true, apart := false }
def FallChoicesSaid : Prop := fallChoicesRow.holds Try.pinned (OpenSpec.ofChange fallChoicesSpec)

/-- ITS FALSE NEIGHBOUR: 'it returns false'. Refute it at one input. -/
def fallChoicesWrong : ChangeSpec := { name := "fallChoices", fn := fun _ => fun
  | [d1, d2, d3] => { results := [.lit (.bool false)], args := [d1, d2, d3] }
  | _ => none }
def FallChoicesWrongFalsely : Prop := fallChoicesRow.holds Try.pinned (OpenSpec.ofChange fallChoicesWrong)

/-- 'calamuslaw32.FallAll': WHATEVER THE INPUT: true; the input reads as it did. -/
def fallAllSpec : ChangeSpec := { name := "fallAll", fn := fun _ => fun
  | [d] => { results := [.lit (.bool true)], args := [d] }
  | _ => none }
def fallAllRow : OpenClaim := { program := "ytjobaaolohemgaa", sum := "f63d455cd373d3092d7703a7f4dabada4fefed5d8a0907048f8b296f98c67d67", func := "calamus/calamuslaw32.FallAll", spec := "fallAll", unfollowed := true, recurses := true, apart := false }
def FallAllSaid : Prop := fallAllRow.holds Try.pinned (OpenSpec.ofChange fallAllSpec)

/-- ITS FALSE NEIGHBOUR: 'it returns false'. Refute it at one input. -/
def fallAllWrong : ChangeSpec := { name := "fallAll", fn := fun _ => fun
  | [d] => { results := [.lit (.bool false)], args := [d] }
  | _ => none }
def FallAllWrongFalsely : Prop := fallAllRow.holds Try.pinned (OpenSpec.ofChange fallAllWrong)

/- THE SECOND FORM. 'bulk': how many values and letters a reading holds, each counted each time it is reached (what is shared counts as often as it is met; a slice's spare places count too). A statement '..UptoSaid' is the law's where the arguments, and the package variables that the reading takes, are together of bulk at most 1048576: NARROWER than '..Said'. Prove '..Said' where nothing that the law and all that it calls make is longer than what came in: it says more and counts as full. Else prove '..UptoSaid'. A law counts once. -/
mutual
def uptoBulk {H : Type} : DataW H → Nat
  | .lit (.string bytes) => bytes.length + 1
  | .lit _ => 1
  | .nil => 1
  | .ptr d => uptoBulk d + 1
  | .slice elems spare => uptoBulkAll elems + uptoBulkAll spare + 1
  | .agg parts => uptoBulkAll parts + 1
  | .iface _ d => uptoBulk d + 1
  | .map entries => uptoBulkEntries entries + 1
  | .held _ => 1
def uptoBulkAll {H : Type} : List (DataW H) → Nat
  | [] => 0
  | d :: r => uptoBulk d + uptoBulkAll r
def uptoBulkEntries {H : Type} : List (Lit × DataW H) → Nat
  | [] => 0
  | x :: r => uptoBulkEntry x + uptoBulkEntries r
def uptoBulkEntry {H : Type} : Lit × DataW H → Nat
  | (.string bytes, d) => bytes.length + uptoBulk d + 1
  | (_, d) => uptoBulk d + 1
 end
def uptoSmall : (H : Type) → List (DataW H) → Bool := fun _ ds => decide (uptoBulkAll ds ≤ 1048576)
def OpenSpec.upto (s : _root_.Go.ChangeSpec) : _root_.Go.OpenSpec := { _root_.Go.OpenSpec.ofChange s with cond := some uptoSmall }

/-- 'calamuslaw01.CodeWrites', WHERE WHAT IT READS IS OF BULK AT MOST 1048576: true; the input reads as it did. -/
def codeWritesUptoRow : OpenClaim := { program := "ytjobaaolohemgaa", sum := "f63d455cd373d3092d7703a7f4dabada4fefed5d8a0907048f8b296f98c67d67", func := "calamus/calamuslaw01.CodeWrites", spec := "codeWrites", unfollowed := true, recurses := true, apart := false, narrowed := true }
def CodeWritesUptoSaid : Prop := codeWritesUptoRow.holds Try.pinned (OpenSpec.upto codeWritesSpec)

/-- 'calamuslaw01.CodeReads', WHERE WHAT IT READS IS OF BULK AT MOST 1048576: true; the input reads as it did. -/
def codeReadsUptoRow : OpenClaim := { program := "ytjobaaolohemgaa", sum := "f63d455cd373d3092d7703a7f4dabada4fefed5d8a0907048f8b296f98c67d67", func := "calamus/calamuslaw01.CodeReads", spec := "codeReads", unfollowed := true, recurses := true, apart := false, narrowed := true }
def CodeReadsUptoSaid : Prop := codeReadsUptoRow.holds Try.pinned (OpenSpec.upto codeReadsSpec)

/-- 'calamuslaw01.CodeBack', WHERE WHAT IT READS IS OF BULK AT MOST 1048576: true; the input reads as it did. -/
def codeBackUptoRow : OpenClaim := { program := "ytjobaaolohemgaa", sum := "f63d455cd373d3092d7703a7f4dabada4fefed5d8a0907048f8b296f98c67d67", func := "calamus/calamuslaw01.CodeBack", spec := "codeBack", unfollowed := true, recurses := true, apart := false, narrowed := true }
def CodeBackUptoSaid : Prop := codeBackUptoRow.holds Try.pinned (OpenSpec.upto codeBackSpec)

/-- 'calamuslaw01.CodeOnce', WHERE WHAT IT READS IS OF BULK AT MOST 1048576: true; the input reads as it did. -/
def codeOnceUptoRow : OpenClaim := { program := "ytjobaaolohemgaa", sum := "f63d455cd373d3092d7703a7f4dabada4fefed5d8a0907048f8b296f98c67d67", func := "calamus/calamuslaw01.CodeOnce", spec := "codeOnce", unfollowed := true, recurses := true, apart := false, narrowed := true }
def CodeOnceUptoSaid : Prop := codeOnceUptoRow.holds Try.pinned (OpenSpec.upto codeOnceSpec)

/-- 'calamuslaw03.UtfFeeds', WHERE WHAT IT READS IS OF BULK AT MOST 1048576: true; the input reads as it did. -/
def utfFeedsUptoRow : OpenClaim := { program := "ytjobaaolohemgaa", sum := "f63d455cd373d3092d7703a7f4dabada4fefed5d8a0907048f8b296f98c67d67", func := "calamus/calamuslaw03.UtfFeeds", spec := "utfFeeds", apart := false, narrowed := true }
def UtfFeedsUptoSaid : Prop := utfFeedsUptoRow.holds Try.pinned (OpenSpec.upto utfFeedsSpec)

/-- 'calamuslaw03.UtfFed', WHERE WHAT IT READS IS OF BULK AT MOST 1048576: true; the input reads as it did. -/
def utfFedUptoRow : OpenClaim := { program := "ytjobaaolohemgaa", sum := "f63d455cd373d3092d7703a7f4dabada4fefed5d8a0907048f8b296f98c67d67", func := "calamus/calamuslaw03.UtfFed", spec := "utfFed", apart := false, narrowed := true }
def UtfFedUptoSaid : Prop := utfFedUptoRow.holds Try.pinned (OpenSpec.upto utfFedSpec)

/-- 'calamuslaw03.UtfPlaces', WHERE WHAT IT READS IS OF BULK AT MOST 1048576: true; the input reads as it did. -/
def utfPlacesUptoRow : OpenClaim := { program := "ytjobaaolohemgaa", sum := "f63d455cd373d3092d7703a7f4dabada4fefed5d8a0907048f8b296f98c67d67", func := "calamus/calamuslaw03.UtfPlaces", spec := "utfPlaces", apart := false, narrowed := true }
def UtfPlacesUptoSaid : Prop := utfPlacesUptoRow.holds Try.pinned (OpenSpec.upto utfPlacesSpec)

/-- 'calamuslaw03.UtfCounts', WHERE WHAT IT READS IS OF BULK AT MOST 1048576: true; the input reads as it did. -/
def utfCountsUptoRow : OpenClaim := { program := "ytjobaaolohemgaa", sum := "f63d455cd373d3092d7703a7f4dabada4fefed5d8a0907048f8b296f98c67d67", func := "calamus/calamuslaw03.UtfCounts", spec := "utfCounts", apart := false, narrowed := true }
def UtfCountsUptoSaid : Prop := utfCountsUptoRow.holds Try.pinned (OpenSpec.upto utfCountsSpec)

/-- 'calamuslaw03.UtfWalks', WHERE WHAT IT READS IS OF BULK AT MOST 1048576: true; the input reads as it did. -/
def utfWalksUptoRow : OpenClaim := { program := "ytjobaaolohemgaa", sum := "f63d455cd373d3092d7703a7f4dabada4fefed5d8a0907048f8b296f98c67d67", func := "calamus/calamuslaw03.UtfWalks", spec := "utfWalks", apart := false, narrowed := true }
def UtfWalksUptoSaid : Prop := utfWalksUptoRow.holds Try.pinned (OpenSpec.upto utfWalksSpec)

/-- 'calamuslaw32.FallChoices', WHERE WHAT IT READS IS OF BULK AT MOST 1048576: true; the input reads as it did. -/
def fallChoicesUptoRow : OpenClaim := { program := "ytjobaaolohemgaa", sum := "f63d455cd373d3092d7703a7f4dabada4fefed5d8a0907048f8b296f98c67d67", func := "calamus/calamuslaw32.FallChoices", spec := "fallChoices", unfollowed := true, recurses := true, apart := false, narrowed := true }
def FallChoicesUptoSaid : Prop := fallChoicesUptoRow.holds Try.pinned (OpenSpec.upto fallChoicesSpec)

/-- 'calamuslaw32.FallAll', WHERE WHAT IT READS IS OF BULK AT MOST 1048576: true; the input reads as it did. -/
def fallAllUptoRow : OpenClaim := { program := "ytjobaaolohemgaa", sum := "f63d455cd373d3092d7703a7f4dabada4fefed5d8a0907048f8b296f98c67d67", func := "calamus/calamuslaw32.FallAll", spec := "fallAll", unfollowed := true, recurses := true, apart := false, narrowed := true }
def FallAllUptoSaid : Prop := fallAllUptoRow.holds Try.pinned (OpenSpec.upto fallAllSpec)

end Rows
end Go.Proofs.Ytjobaaolohemgaa
