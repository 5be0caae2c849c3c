/-
  No cell of these rows narrows 'for every input' (looked for: loops, veiled, ifaces, maps, wideKeys, modest, calm, conditions, laid).
  DERIVED. THE GIVEN ROWS OF THIS SEAT. 8 by the template 'for every input the law returns true; each argument reads behind the call as it read before'; 0 by the template 'total and deterministic' (their statements: YtkhdlcadahdbkaaTotals.lean).
  GIVEN WITH THE SEED: the statements are not yours to turn. If you find one false, say at which input.
  Laid BY PROGRAM, IN A SANDBOX (cutbox-rows.mjs): the forced cells as the released guide's own fill.sh prints them over the translation 05dbf77141dd9c99… (all of the seat's roots in one cut). By AI agents, Wed Nov 11 2026. No macro, syntax, notation, axiom, sorry.
-/
import Derived.Test.YtkhdlcadahdbkaaChecked
import GoSem.Claim
import GoSem.ClaimJoined
import GoSem.ClaimMapViews
import Derived.JoinedTies
import Derived.KernelRfl
namespace Go.Proofs.Ytkhdlcadahdbkaa
/- THE CELL 'sum', in the pinned program and in every row, IS THE sha256 OF THE DUMP (.gsa) THAT YtkhdlcadahdbkaaProg.lean LOADS. Nothing in Lean hashes anything: it is a label: what it is worth is what the hold of that sum in a sandbox is worth. -/
noncomputable def Try.pinned : Pinned := { name := "ytkhdlcadahdbkaa", sum := "05dbf77141dd9c99325f643680a42ba54162d9d410b64c7e150490477d4815a5", checked := Try.checked }
namespace Rows
def none {H : Type} : Left H := { results := [], args := [] }

/-- 'skiarealaw04.SealMixes': WHATEVER THE INPUT: true; the input reads as it did. -/
def sealMixesSpec : ChangeSpec := { name := "sealMixes", fn := fun _ => fun
  | [d1, d2] => { results := [.lit (.bool true)], args := [d1, d2] }
  | _ => none }
def sealMixesRow : OpenClaim := { program := "ytkhdlcadahdbkaa", sum := "05dbf77141dd9c99325f643680a42ba54162d9d410b64c7e150490477d4815a5", func := "skiarea/skiarealaw04.SealMixes", spec := "sealMixes", apart := false }
def SealMixesSaid : Prop := sealMixesRow.holds Try.pinned (OpenSpec.ofChange sealMixesSpec)

/-- ITS FALSE NEIGHBOUR: 'it returns false'. Refute it at one input. -/
def sealMixesWrong : ChangeSpec := { name := "sealMixes", fn := fun _ => fun
  | [d1, d2] => { results := [.lit (.bool false)], args := [d1, d2] }
  | _ => none }
def SealMixesWrongFalsely : Prop := sealMixesRow.holds Try.pinned (OpenSpec.ofChange sealMixesWrong)

/-- 'skiarealaw04.SealKeys': WHATEVER THE INPUT: true; the input reads as it did. -/
def sealKeysSpec : ChangeSpec := { name := "sealKeys", fn := fun _ => fun
  | [d1, d2] => { results := [.lit (.bool true)], args := [d1, d2] }
  | _ => none }
def sealKeysRow : OpenClaim := { program := "ytkhdlcadahdbkaa", sum := "05dbf77141dd9c99325f643680a42ba54162d9d410b64c7e150490477d4815a5", func := "skiarea/skiarealaw04.SealKeys", spec := "sealKeys", apart := false }
def SealKeysSaid : Prop := sealKeysRow.holds Try.pinned (OpenSpec.ofChange sealKeysSpec)

/-- ITS FALSE NEIGHBOUR: 'it returns false'. Refute it at one input. -/
def sealKeysWrong : ChangeSpec := { name := "sealKeys", fn := fun _ => fun
  | [d1, d2] => { results := [.lit (.bool false)], args := [d1, d2] }
  | _ => none }
def SealKeysWrongFalsely : Prop := sealKeysRow.holds Try.pinned (OpenSpec.ofChange sealKeysWrong)

/-- 'skiarealaw04.SealTags': WHATEVER THE INPUT: true; the input reads as it did. -/
def sealTagsSpec : ChangeSpec := { name := "sealTags", fn := fun _ => fun
  | [d1, d2] => { results := [.lit (.bool true)], args := [d1, d2] }
  | _ => none }
def sealTagsRow : OpenClaim := { program := "ytkhdlcadahdbkaa", sum := "05dbf77141dd9c99325f643680a42ba54162d9d410b64c7e150490477d4815a5", func := "skiarea/skiarealaw04.SealTags", spec := "sealTags", apart := false }
def SealTagsSaid : Prop := sealTagsRow.holds Try.pinned (OpenSpec.ofChange sealTagsSpec)

/-- ITS FALSE NEIGHBOUR: 'it returns false'. Refute it at one input. -/
def sealTagsWrong : ChangeSpec := { name := "sealTags", fn := fun _ => fun
  | [d1, d2] => { results := [.lit (.bool false)], args := [d1, d2] }
  | _ => none }
def SealTagsWrongFalsely : Prop := sealTagsRow.holds Try.pinned (OpenSpec.ofChange sealTagsWrong)

/-- 'skiarealaw04.SealChecks': WHATEVER THE INPUT: true; the input reads as it did. -/
def sealChecksSpec : ChangeSpec := { name := "sealChecks", fn := fun _ => fun
  | [d1, d2, d3] => { results := [.lit (.bool true)], args := [d1, d2, d3] }
  | _ => none }
def sealChecksRow : OpenClaim := { program := "ytkhdlcadahdbkaa", sum := "05dbf77141dd9c99325f643680a42ba54162d9d410b64c7e150490477d4815a5", func := "skiarea/skiarealaw04.SealChecks", spec := "sealChecks", apart := false }
def SealChecksSaid : Prop := sealChecksRow.holds Try.pinned (OpenSpec.ofChange sealChecksSpec)

/-- ITS FALSE NEIGHBOUR: 'it returns false'. Refute it at one input. -/
def sealChecksWrong : ChangeSpec := { name := "sealChecks", fn := fun _ => fun
  | [d1, d2, d3] => { results := [.lit (.bool false)], args := [d1, d2, d3] }
  | _ => none }
def SealChecksWrongFalsely : Prop := sealChecksRow.holds Try.pinned (OpenSpec.ofChange sealChecksWrong)

/-- 'skiarealaw04.SealChains': WHATEVER THE INPUT: true; the input reads as it did. -/
def sealChainsSpec : ChangeSpec := { name := "sealChains", fn := fun _ => fun
  | [d1, d2, d3] => { results := [.lit (.bool true)], args := [d1, d2, d3] }
  | _ => none }
def sealChainsRow : OpenClaim := { program := "ytkhdlcadahdbkaa", sum := "05dbf77141dd9c99325f643680a42ba54162d9d410b64c7e150490477d4815a5", func := "skiarea/skiarealaw04.SealChains", spec := "sealChains", apart := false }
def SealChainsSaid : Prop := sealChainsRow.holds Try.pinned (OpenSpec.ofChange sealChainsSpec)

/-- ITS FALSE NEIGHBOUR: 'it returns false'. Refute it at one input. -/
def sealChainsWrong : ChangeSpec := { name := "sealChains", fn := fun _ => fun
  | [d1, d2, d3] => { results := [.lit (.bool false)], args := [d1, d2, d3] }
  | _ => none }
def SealChainsWrongFalsely : Prop := sealChainsRow.holds Try.pinned (OpenSpec.ofChange sealChainsWrong)

/-- 'skiarealaw04.SealApart': WHATEVER THE INPUT: true; the input reads as it did. -/
def sealApartSpec : ChangeSpec := { name := "sealApart", fn := fun _ => fun
  | [d1, d2, d3] => { results := [.lit (.bool true)], args := [d1, d2, d3] }
  | _ => none }
def sealApartRow : OpenClaim := { program := "ytkhdlcadahdbkaa", sum := "05dbf77141dd9c99325f643680a42ba54162d9d410b64c7e150490477d4815a5", func := "skiarea/skiarealaw04.SealApart", spec := "sealApart", apart := false }
def SealApartSaid : Prop := sealApartRow.holds Try.pinned (OpenSpec.ofChange sealApartSpec)

/-- ITS FALSE NEIGHBOUR: 'it returns false'. Refute it at one input. -/
def sealApartWrong : ChangeSpec := { name := "sealApart", fn := fun _ => fun
  | [d1, d2, d3] => { results := [.lit (.bool false)], args := [d1, d2, d3] }
  | _ => none }
def SealApartWrongFalsely : Prop := sealApartRow.holds Try.pinned (OpenSpec.ofChange sealApartWrong)

/-- 'skiarealaw04.SealBlocks': WHATEVER THE INPUT: true; the input reads as it did. -/
def sealBlocksSpec : ChangeSpec := { name := "sealBlocks", fn := fun _ => fun
  | [d1, d2, d3] => { results := [.lit (.bool true)], args := [d1, d2, d3] }
  | _ => none }
def sealBlocksRow : OpenClaim := { program := "ytkhdlcadahdbkaa", sum := "05dbf77141dd9c99325f643680a42ba54162d9d410b64c7e150490477d4815a5", func := "skiarea/skiarealaw04.SealBlocks", spec := "sealBlocks", apart := false }
def SealBlocksSaid : Prop := sealBlocksRow.holds Try.pinned (OpenSpec.ofChange sealBlocksSpec)

/-- ITS FALSE NEIGHBOUR: 'it returns false'. Refute it at one input. -/
def sealBlocksWrong : ChangeSpec := { name := "sealBlocks", fn := fun _ => fun
  | [d1, d2, d3] => { results := [.lit (.bool false)], args := [d1, d2, d3] }
  | _ => none }
def SealBlocksWrongFalsely : Prop := sealBlocksRow.holds Try.pinned (OpenSpec.ofChange sealBlocksWrong)

/-- 'skiarealaw04.SealEnds': WHATEVER THE INPUT: true; the input reads as it did. -/
def sealEndsSpec : ChangeSpec := { name := "sealEnds", fn := fun _ => fun
  | [d1, d2] => { results := [.lit (.bool true)], args := [d1, d2] }
  | _ => none }
def sealEndsRow : OpenClaim := { program := "ytkhdlcadahdbkaa", sum := "05dbf77141dd9c99325f643680a42ba54162d9d410b64c7e150490477d4815a5", func := "skiarea/skiarealaw04.SealEnds", spec := "sealEnds", apart := false }
def SealEndsSaid : Prop := sealEndsRow.holds Try.pinned (OpenSpec.ofChange sealEndsSpec)

/-- ITS FALSE NEIGHBOUR: 'it returns false'. Refute it at one input. -/
def sealEndsWrong : ChangeSpec := { name := "sealEnds", fn := fun _ => fun
  | [d1, d2] => { results := [.lit (.bool false)], args := [d1, d2] }
  | _ => none }
def SealEndsWrongFalsely : Prop := sealEndsRow.holds Try.pinned (OpenSpec.ofChange sealEndsWrong)

/- THE SECOND FORM. 'bulk': how many values and letters a reading holds, each counted each time it is reached (what is shared counts as often as it is met; a slice's spare places count too). A statement '..UptoSaid' is the law's where the arguments, and the package variables that the reading takes, are together of bulk at most 1048576: NARROWER than '..Said'. Prove '..Said' where nothing that the law and all that it calls make is longer than what came in: it says more and counts as full. Else prove '..UptoSaid'. A law counts once. -/
mutual
def uptoBulk {H : Type} : DataW H → Nat
  | .lit (.string bytes) => bytes.length + 1
  | .lit _ => 1
  | .nil => 1
  | .ptr d => uptoBulk d + 1
  | .slice elems spare => uptoBulkAll elems + uptoBulkAll spare + 1
  | .agg parts => uptoBulkAll parts + 1
  | .iface _ d => uptoBulk d + 1
  | .map entries => uptoBulkEntries entries + 1
  | .held _ => 1
def uptoBulkAll {H : Type} : List (DataW H) → Nat
  | [] => 0
  | d :: r => uptoBulk d + uptoBulkAll r
def uptoBulkEntries {H : Type} : List (Lit × DataW H) → Nat
  | [] => 0
  | x :: r => uptoBulkEntry x + uptoBulkEntries r
def uptoBulkEntry {H : Type} : Lit × DataW H → Nat
  | (.string bytes, d) => bytes.length + uptoBulk d + 1
  | (_, d) => uptoBulk d + 1
 end
def uptoSmall : (H : Type) → List (DataW H) → Bool := fun _ ds => decide (uptoBulkAll ds ≤ 1048576)
def OpenSpec.upto (s : _root_.Go.ChangeSpec) : _root_.Go.OpenSpec := { _root_.Go.OpenSpec.ofChange s with cond := some uptoSmall }

/-- 'skiarealaw04.SealMixes', WHERE WHAT IT READS IS OF BULK AT MOST 1048576: true; the input reads as it did. -/
def sealMixesUptoRow : OpenClaim := { program := "ytkhdlcadahdbkaa", sum := "05dbf77141dd9c99325f643680a42ba54162d9d410b64c7e150490477d4815a5", func := "skiarea/skiarealaw04.SealMixes", spec := "sealMixes", apart := false, narrowed := true }
def SealMixesUptoSaid : Prop := sealMixesUptoRow.holds Try.pinned (OpenSpec.upto sealMixesSpec)

/-- 'skiarealaw04.SealKeys', WHERE WHAT IT READS IS OF BULK AT MOST 1048576: true; the input reads as it did. -/
def sealKeysUptoRow : OpenClaim := { program := "ytkhdlcadahdbkaa", sum := "05dbf77141dd9c99325f643680a42ba54162d9d410b64c7e150490477d4815a5", func := "skiarea/skiarealaw04.SealKeys", spec := "sealKeys", apart := false, narrowed := true }
def SealKeysUptoSaid : Prop := sealKeysUptoRow.holds Try.pinned (OpenSpec.upto sealKeysSpec)

/-- 'skiarealaw04.SealTags', WHERE WHAT IT READS IS OF BULK AT MOST 1048576: true; the input reads as it did. -/
def sealTagsUptoRow : OpenClaim := { program := "ytkhdlcadahdbkaa", sum := "05dbf77141dd9c99325f643680a42ba54162d9d410b64c7e150490477d4815a5", func := "skiarea/skiarealaw04.SealTags", spec := "sealTags", apart := false, narrowed := true }
def SealTagsUptoSaid : Prop := sealTagsUptoRow.holds Try.pinned (OpenSpec.upto sealTagsSpec)

/-- 'skiarealaw04.SealChecks', WHERE WHAT IT READS IS OF BULK AT MOST 1048576: true; the input reads as it did. -/
def sealChecksUptoRow : OpenClaim := { program := "ytkhdlcadahdbkaa", sum := "05dbf77141dd9c99325f643680a42ba54162d9d410b64c7e150490477d4815a5", func := "skiarea/skiarealaw04.SealChecks", spec := "sealChecks", apart := false, narrowed := true }
def SealChecksUptoSaid : Prop := sealChecksUptoRow.holds Try.pinned (OpenSpec.upto sealChecksSpec)

/-- 'skiarealaw04.SealChains', WHERE WHAT IT READS IS OF BULK AT MOST 1048576: true; the input reads as it did. -/
def sealChainsUptoRow : OpenClaim := { program := "ytkhdlcadahdbkaa", sum := "05dbf77141dd9c99325f643680a42ba54162d9d410b64c7e150490477d4815a5", func := "skiarea/skiarealaw04.SealChains", spec := "sealChains", apart := false, narrowed := true }
def SealChainsUptoSaid : Prop := sealChainsUptoRow.holds Try.pinned (OpenSpec.upto sealChainsSpec)

/-- 'skiarealaw04.SealApart', WHERE WHAT IT READS IS OF BULK AT MOST 1048576: true; the input reads as it did. -/
def sealApartUptoRow : OpenClaim := { program := "ytkhdlcadahdbkaa", sum := "05dbf77141dd9c99325f643680a42ba54162d9d410b64c7e150490477d4815a5", func := "skiarea/skiarealaw04.SealApart", spec := "sealApart", apart := false, narrowed := true }
def SealApartUptoSaid : Prop := sealApartUptoRow.holds Try.pinned (OpenSpec.upto sealApartSpec)

/-- 'skiarealaw04.SealBlocks', WHERE WHAT IT READS IS OF BULK AT MOST 1048576: true; the input reads as it did. -/
def sealBlocksUptoRow : OpenClaim := { program := "ytkhdlcadahdbkaa", sum := "05dbf77141dd9c99325f643680a42ba54162d9d410b64c7e150490477d4815a5", func := "skiarea/skiarealaw04.SealBlocks", spec := "sealBlocks", apart := false, narrowed := true }
def SealBlocksUptoSaid : Prop := sealBlocksUptoRow.holds Try.pinned (OpenSpec.upto sealBlocksSpec)

/-- 'skiarealaw04.SealEnds', WHERE WHAT IT READS IS OF BULK AT MOST 1048576: true; the input reads as it did. -/
def sealEndsUptoRow : OpenClaim := { program := "ytkhdlcadahdbkaa", sum := "05dbf77141dd9c99325f643680a42ba54162d9d410b64c7e150490477d4815a5", func := "skiarea/skiarealaw04.SealEnds", spec := "sealEnds", apart := false, narrowed := true }
def SealEndsUptoSaid : Prop := sealEndsUptoRow.holds Try.pinned (OpenSpec.upto sealEndsSpec)

end Rows
end Go.Proofs.Ytkhdlcadahdbkaa
