/-
  No cell of these rows narrows 'for every input' (looked for: loops, veiled, ifaces, maps, wideKeys, modest, calm, conditions, laid).
  DERIVED. THE GIVEN ROWS OF THIS SEAT. 7 by the template 'for every input the law returns true; each argument reads behind the call as it read before'; 0 by the template 'total and deterministic' (their statements: YthlhphifibldnaaTotals.lean).
  GIVEN WITH THE SEED: the statements are not yours to turn. If you find one false, say at which input.
  Laid BY PROGRAM, IN A SANDBOX (cutbox-rows.mjs): the forced cells as the released guide's own fill.sh prints them over the translation 6aa0983c5a507e6c… (all of the seat's roots in one cut). By AI agents, Wed Nov 11 2026. No macro, syntax, notation, axiom, sorry.
-/
import Derived.Test.YthlhphifibldnaaChecked
import GoSem.Claim
import GoSem.ClaimJoined
import GoSem.ClaimMapViews
import Derived.JoinedTies
import Derived.KernelRfl
namespace Go.Proofs.Ythlhphifibldnaa
/- THE CELL 'sum', in the pinned program and in every row, IS THE sha256 OF THE DUMP (.gsa) THAT YthlhphifibldnaaProg.lean LOADS. Nothing in Lean hashes anything: it is a label: what it is worth is what the hold of that sum in a sandbox is worth. -/
noncomputable def Try.pinned : Pinned := { name := "ythlhphifibldnaa", sum := "6aa0983c5a507e6c85fb68547ff699f2231260aaa0c845f15a50eda81d816158", checked := Try.checked }
namespace Rows
def none {H : Type} : Left H := { results := [], args := [] }

/-- 'skiarealaw25.MediaRight': WHATEVER THE INPUT: true; the input reads as it did. -/
def mediaRightSpec : ChangeSpec := { name := "mediaRight", fn := fun _ => fun
  | [d] => { results := [.lit (.bool true)], args := [d] }
  | _ => none }
def mediaRightRow : OpenClaim := { program := "ythlhphifibldnaa", sum := "6aa0983c5a507e6c85fb68547ff699f2231260aaa0c845f15a50eda81d816158", func := "skiarea/skiarealaw25.MediaRight", spec := "mediaRight", apart := false }
def MediaRightSaid : Prop := mediaRightRow.holds Try.pinned (OpenSpec.ofChange mediaRightSpec)

/-- ITS FALSE NEIGHBOUR: 'it returns false'. Refute it at one input. -/
def mediaRightWrong : ChangeSpec := { name := "mediaRight", fn := fun _ => fun
  | [d] => { results := [.lit (.bool false)], args := [d] }
  | _ => none }
def MediaRightWrongFalsely : Prop := mediaRightRow.holds Try.pinned (OpenSpec.ofChange mediaRightWrong)

/-- 'skiarealaw25.MediaNew': WHATEVER THE INPUT: true; the input reads as it did. -/
def mediaNewSpec : ChangeSpec := { name := "mediaNew", fn := fun _ => fun
  | [d1, d2, d3, d4] => { results := [.lit (.bool true)], args := [d1, d2, d3, d4] }
  | _ => none }
def mediaNewRow : OpenClaim := { program := "ythlhphifibldnaa", sum := "6aa0983c5a507e6c85fb68547ff699f2231260aaa0c845f15a50eda81d816158", func := "skiarea/skiarealaw25.MediaNew", spec := "mediaNew", apart := false }
def MediaNewSaid : Prop := mediaNewRow.holds Try.pinned (OpenSpec.ofChange mediaNewSpec)

/-- ITS FALSE NEIGHBOUR: 'it returns false'. Refute it at one input. -/
def mediaNewWrong : ChangeSpec := { name := "mediaNew", fn := fun _ => fun
  | [d1, d2, d3, d4] => { results := [.lit (.bool false)], args := [d1, d2, d3, d4] }
  | _ => none }
def MediaNewWrongFalsely : Prop := mediaNewRow.holds Try.pinned (OpenSpec.ofChange mediaNewWrong)

/-- 'skiarealaw25.MediaSigns': WHATEVER THE INPUT: true; the input reads as it did. -/
def mediaSignsSpec : ChangeSpec := { name := "mediaSigns", fn := fun _ => fun
  | [d1, d2] => { results := [.lit (.bool true)], args := [d1, d2] }
  | _ => none }
def mediaSignsRow : OpenClaim := { program := "ythlhphifibldnaa", sum := "6aa0983c5a507e6c85fb68547ff699f2231260aaa0c845f15a50eda81d816158", func := "skiarea/skiarealaw25.MediaSigns", spec := "mediaSigns", apart := false }
def MediaSignsSaid : Prop := mediaSignsRow.holds Try.pinned (OpenSpec.ofChange mediaSignsSpec)

/-- ITS FALSE NEIGHBOUR: 'it returns false'. Refute it at one input. -/
def mediaSignsWrong : ChangeSpec := { name := "mediaSigns", fn := fun _ => fun
  | [d1, d2] => { results := [.lit (.bool false)], args := [d1, d2] }
  | _ => none }
def MediaSignsWrongFalsely : Prop := mediaSignsRow.holds Try.pinned (OpenSpec.ofChange mediaSignsWrong)

/-- 'skiarealaw25.MediaEncodes': WHATEVER THE INPUT: true; the input reads as it did. -/
def mediaEncodesSpec : ChangeSpec := { name := "mediaEncodes", fn := fun _ => fun
  | [d] => { results := [.lit (.bool true)], args := [d] }
  | _ => none }
def mediaEncodesRow : OpenClaim := { program := "ythlhphifibldnaa", sum := "6aa0983c5a507e6c85fb68547ff699f2231260aaa0c845f15a50eda81d816158", func := "skiarea/skiarealaw25.MediaEncodes", spec := "mediaEncodes", apart := false }
def MediaEncodesSaid : Prop := mediaEncodesRow.holds Try.pinned (OpenSpec.ofChange mediaEncodesSpec)

/-- ITS FALSE NEIGHBOUR: 'it returns false'. Refute it at one input. -/
def mediaEncodesWrong : ChangeSpec := { name := "mediaEncodes", fn := fun _ => fun
  | [d] => { results := [.lit (.bool false)], args := [d] }
  | _ => none }
def MediaEncodesWrongFalsely : Prop := mediaEncodesRow.holds Try.pinned (OpenSpec.ofChange mediaEncodesWrong)

/-- 'skiarealaw25.MediaDecodes': WHATEVER THE INPUT: true; the input reads as it did. -/
def mediaDecodesSpec : ChangeSpec := { name := "mediaDecodes", fn := fun _ => fun
  | [d] => { results := [.lit (.bool true)], args := [d] }
  | _ => none }
def mediaDecodesRow : OpenClaim := { program := "ythlhphifibldnaa", sum := "6aa0983c5a507e6c85fb68547ff699f2231260aaa0c845f15a50eda81d816158", func := "skiarea/skiarealaw25.MediaDecodes", spec := "mediaDecodes", apart := false }
def MediaDecodesSaid : Prop := mediaDecodesRow.holds Try.pinned (OpenSpec.ofChange mediaDecodesSpec)

/-- ITS FALSE NEIGHBOUR: 'it returns false'. Refute it at one input. -/
def mediaDecodesWrong : ChangeSpec := { name := "mediaDecodes", fn := fun _ => fun
  | [d] => { results := [.lit (.bool false)], args := [d] }
  | _ => none }
def MediaDecodesWrongFalsely : Prop := mediaDecodesRow.holds Try.pinned (OpenSpec.ofChange mediaDecodesWrong)

/-- 'skiarealaw25.MediaBack': WHATEVER THE INPUT: true; the input reads as it did. -/
def mediaBackSpec : ChangeSpec := { name := "mediaBack", fn := fun _ => fun
  | [d1, d2, d3] => { results := [.lit (.bool true)], args := [d1, d2, d3] }
  | _ => none }
def mediaBackRow : OpenClaim := { program := "ythlhphifibldnaa", sum := "6aa0983c5a507e6c85fb68547ff699f2231260aaa0c845f15a50eda81d816158", func := "skiarea/skiarealaw25.MediaBack", spec := "mediaBack", apart := false }
def MediaBackSaid : Prop := mediaBackRow.holds Try.pinned (OpenSpec.ofChange mediaBackSpec)

/-- ITS FALSE NEIGHBOUR: 'it returns false'. Refute it at one input. -/
def mediaBackWrong : ChangeSpec := { name := "mediaBack", fn := fun _ => fun
  | [d1, d2, d3] => { results := [.lit (.bool false)], args := [d1, d2, d3] }
  | _ => none }
def MediaBackWrongFalsely : Prop := mediaBackRow.holds Try.pinned (OpenSpec.ofChange mediaBackWrong)

/-- 'skiarealaw25.MediaForms': WHATEVER THE INPUT: true; the input reads as it did. -/
def mediaFormsSpec : ChangeSpec := { name := "mediaForms", fn := fun _ => fun
  | [d] => { results := [.lit (.bool true)], args := [d] }
  | _ => none }
def mediaFormsRow : OpenClaim := { program := "ythlhphifibldnaa", sum := "6aa0983c5a507e6c85fb68547ff699f2231260aaa0c845f15a50eda81d816158", func := "skiarea/skiarealaw25.MediaForms", spec := "mediaForms", apart := false }
def MediaFormsSaid : Prop := mediaFormsRow.holds Try.pinned (OpenSpec.ofChange mediaFormsSpec)

/-- ITS FALSE NEIGHBOUR: 'it returns false'. Refute it at one input. -/
def mediaFormsWrong : ChangeSpec := { name := "mediaForms", fn := fun _ => fun
  | [d] => { results := [.lit (.bool false)], args := [d] }
  | _ => none }
def MediaFormsWrongFalsely : Prop := mediaFormsRow.holds Try.pinned (OpenSpec.ofChange mediaFormsWrong)

/- THE SECOND FORM. 'bulk': how many values and letters a reading holds, each counted each time it is reached (what is shared counts as often as it is met; a slice's spare places count too). A statement '..UptoSaid' is the law's where the arguments, and the package variables that the reading takes, are together of bulk at most 1048576: NARROWER than '..Said'. Prove '..Said' where nothing that the law and all that it calls make is longer than what came in: it says more and counts as full. Else prove '..UptoSaid'. A law counts once. -/
mutual
def uptoBulk {H : Type} : DataW H → Nat
  | .lit (.string bytes) => bytes.length + 1
  | .lit _ => 1
  | .nil => 1
  | .ptr d => uptoBulk d + 1
  | .slice elems spare => uptoBulkAll elems + uptoBulkAll spare + 1
  | .agg parts => uptoBulkAll parts + 1
  | .iface _ d => uptoBulk d + 1
  | .map entries => uptoBulkEntries entries + 1
  | .held _ => 1
def uptoBulkAll {H : Type} : List (DataW H) → Nat
  | [] => 0
  | d :: r => uptoBulk d + uptoBulkAll r
def uptoBulkEntries {H : Type} : List (Lit × DataW H) → Nat
  | [] => 0
  | x :: r => uptoBulkEntry x + uptoBulkEntries r
def uptoBulkEntry {H : Type} : Lit × DataW H → Nat
  | (.string bytes, d) => bytes.length + uptoBulk d + 1
  | (_, d) => uptoBulk d + 1
 end
def uptoSmall : (H : Type) → List (DataW H) → Bool := fun _ ds => decide (uptoBulkAll ds ≤ 1048576)
def OpenSpec.upto (s : _root_.Go.ChangeSpec) : _root_.Go.OpenSpec := { _root_.Go.OpenSpec.ofChange s with cond := some uptoSmall }

/-- 'skiarealaw25.MediaRight', WHERE WHAT IT READS IS OF BULK AT MOST 1048576: true; the input reads as it did. -/
def mediaRightUptoRow : OpenClaim := { program := "ythlhphifibldnaa", sum := "6aa0983c5a507e6c85fb68547ff699f2231260aaa0c845f15a50eda81d816158", func := "skiarea/skiarealaw25.MediaRight", spec := "mediaRight", apart := false, narrowed := true }
def MediaRightUptoSaid : Prop := mediaRightUptoRow.holds Try.pinned (OpenSpec.upto mediaRightSpec)

/-- 'skiarealaw25.MediaNew', WHERE WHAT IT READS IS OF BULK AT MOST 1048576: true; the input reads as it did. -/
def mediaNewUptoRow : OpenClaim := { program := "ythlhphifibldnaa", sum := "6aa0983c5a507e6c85fb68547ff699f2231260aaa0c845f15a50eda81d816158", func := "skiarea/skiarealaw25.MediaNew", spec := "mediaNew", apart := false, narrowed := true }
def MediaNewUptoSaid : Prop := mediaNewUptoRow.holds Try.pinned (OpenSpec.upto mediaNewSpec)

/-- 'skiarealaw25.MediaSigns', WHERE WHAT IT READS IS OF BULK AT MOST 1048576: true; the input reads as it did. -/
def mediaSignsUptoRow : OpenClaim := { program := "ythlhphifibldnaa", sum := "6aa0983c5a507e6c85fb68547ff699f2231260aaa0c845f15a50eda81d816158", func := "skiarea/skiarealaw25.MediaSigns", spec := "mediaSigns", apart := false, narrowed := true }
def MediaSignsUptoSaid : Prop := mediaSignsUptoRow.holds Try.pinned (OpenSpec.upto mediaSignsSpec)

/-- 'skiarealaw25.MediaEncodes', WHERE WHAT IT READS IS OF BULK AT MOST 1048576: true; the input reads as it did. -/
def mediaEncodesUptoRow : OpenClaim := { program := "ythlhphifibldnaa", sum := "6aa0983c5a507e6c85fb68547ff699f2231260aaa0c845f15a50eda81d816158", func := "skiarea/skiarealaw25.MediaEncodes", spec := "mediaEncodes", apart := false, narrowed := true }
def MediaEncodesUptoSaid : Prop := mediaEncodesUptoRow.holds Try.pinned (OpenSpec.upto mediaEncodesSpec)

/-- 'skiarealaw25.MediaDecodes', WHERE WHAT IT READS IS OF BULK AT MOST 1048576: true; the input reads as it did. -/
def mediaDecodesUptoRow : OpenClaim := { program := "ythlhphifibldnaa", sum := "6aa0983c5a507e6c85fb68547ff699f2231260aaa0c845f15a50eda81d816158", func := "skiarea/skiarealaw25.MediaDecodes", spec := "mediaDecodes", apart := false, narrowed := true }
def MediaDecodesUptoSaid : Prop := mediaDecodesUptoRow.holds Try.pinned (OpenSpec.upto mediaDecodesSpec)

/-- 'skiarealaw25.MediaBack', WHERE WHAT IT READS IS OF BULK AT MOST 1048576: true; the input reads as it did. -/
def mediaBackUptoRow : OpenClaim := { program := "ythlhphifibldnaa", sum := "6aa0983c5a507e6c85fb68547ff699f2231260aaa0c845f15a50eda81d816158", func := "skiarea/skiarealaw25.MediaBack", spec := "mediaBack", apart := false, narrowed := true }
def MediaBackUptoSaid : Prop := mediaBackUptoRow.holds Try.pinned (OpenSpec.upto mediaBackSpec)

/-- 'skiarealaw25.MediaForms', WHERE WHAT IT READS IS OF BULK AT MOST 1048576: true; the input reads as it did. -/
def mediaFormsUptoRow : OpenClaim := { program := "ythlhphifibldnaa", sum := "6aa0983c5a507e6c85fb68547ff699f2231260aaa0c845f15a50eda81d816158", func := "skiarea/skiarealaw25.MediaForms", spec := "mediaForms", apart := false, narrowed := true }
def MediaFormsUptoSaid : Prop := mediaFormsUptoRow.holds Try.pinned (OpenSpec.upto mediaFormsSpec)

end Rows
end Go.Proofs.Ythlhphifibldnaa
