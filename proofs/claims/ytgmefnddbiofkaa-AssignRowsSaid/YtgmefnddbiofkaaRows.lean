/-
  No cell of these rows narrows 'for every input' (looked for: loops, veiled, ifaces, maps, wideKeys, modest, calm, conditions, laid).
  DERIVED. THE GIVEN ROWS OF THIS SEAT. 7 by the template 'for every input the law returns true; each argument reads behind the call as it read before'; 0 by the template 'total and deterministic' (their statements: YtgmefnddbiofkaaTotals.lean).
  GIVEN WITH THE SEED: the statements are not yours to turn. If you find one false, say at which input.
  Laid BY PROGRAM, IN A SANDBOX (cutbox-rows.mjs): the forced cells as the released guide's own fill.sh prints them over the translation 7bdbc97781ed6448… (all of the seat's roots in one cut). By AI agents, Wed Nov 11 2026. No macro, syntax, notation, axiom, sorry.
-/
import Derived.Test.YtgmefnddbiofkaaChecked
import GoSem.Claim
import GoSem.ClaimJoined
import GoSem.ClaimMapViews
import Derived.JoinedTies
import Derived.KernelRfl
namespace Go.Proofs.Ytgmefnddbiofkaa
/- THE CELL 'sum', in the pinned program and in every row, IS THE sha256 OF THE DUMP (.gsa) THAT YtgmefnddbiofkaaProg.lean LOADS. Nothing in Lean hashes anything: it is a label: what it is worth is what the hold of that sum in a sandbox is worth. -/
noncomputable def Try.pinned : Pinned := { name := "ytgmefnddbiofkaa", sum := "7bdbc97781ed6448d4d86465dc9fe5ece0ca120a11ea8de64098a76b767cb567", checked := Try.checked }
namespace Rows
def none {H : Type} : Left H := { results := [], args := [] }

/-- 'skiarealaw08.AssignRights': WHATEVER THE INPUT: true; the input reads as it did. -/
def assignRightsSpec : ChangeSpec := { name := "assignRights", fn := fun _ => fun
  | [d] => { results := [.lit (.bool true)], args := [d] }
  | _ => none }
def assignRightsRow : OpenClaim := { program := "ytgmefnddbiofkaa", sum := "7bdbc97781ed6448d4d86465dc9fe5ece0ca120a11ea8de64098a76b767cb567", func := "skiarea/skiarealaw08.AssignRights", spec := "assignRights", unfollowed := true, recurses := true, apart := false }
def AssignRightsSaid : Prop := assignRightsRow.holds Try.pinned (OpenSpec.ofChange assignRightsSpec)

/-- ITS FALSE NEIGHBOUR: 'it returns false'. Refute it at one input. -/
def assignRightsWrong : ChangeSpec := { name := "assignRights", fn := fun _ => fun
  | [d] => { results := [.lit (.bool false)], args := [d] }
  | _ => none }
def AssignRightsWrongFalsely : Prop := assignRightsRow.holds Try.pinned (OpenSpec.ofChange assignRightsWrong)

/-- 'skiarealaw08.AssignTotals': WHATEVER THE INPUT: true; the input reads as it did. -/
def assignTotalsSpec : ChangeSpec := { name := "assignTotals", fn := fun _ => fun
  | [d1, d2] => { results := [.lit (.bool true)], args := [d1, d2] }
  | _ => none }
def assignTotalsRow : OpenClaim := { program := "ytgmefnddbiofkaa", sum := "7bdbc97781ed6448d4d86465dc9fe5ece0ca120a11ea8de64098a76b767cb567", func := "skiarea/skiarealaw08.AssignTotals", spec := "assignTotals", unfollowed := true, recurses := true, apart := false }
def AssignTotalsSaid : Prop := assignTotalsRow.holds Try.pinned (OpenSpec.ofChange assignTotalsSpec)

/-- ITS FALSE NEIGHBOUR: 'it returns false'. Refute it at one input. -/
def assignTotalsWrong : ChangeSpec := { name := "assignTotals", fn := fun _ => fun
  | [d1, d2] => { results := [.lit (.bool false)], args := [d1, d2] }
  | _ => none }
def AssignTotalsWrongFalsely : Prop := assignTotalsRow.holds Try.pinned (OpenSpec.ofChange assignTotalsWrong)

/-- 'skiarealaw08.AssignBests': WHATEVER THE INPUT: true; the input reads as it did. -/
def assignBestsSpec : ChangeSpec := { name := "assignBests", fn := fun _ => fun
  | [d] => { results := [.lit (.bool true)], args := [d] }
  | _ => none }
def assignBestsRow : OpenClaim := { program := "ytgmefnddbiofkaa", sum := "7bdbc97781ed6448d4d86465dc9fe5ece0ca120a11ea8de64098a76b767cb567", func := "skiarea/skiarealaw08.AssignBests", spec := "assignBests", unfollowed := true, recurses := true, apart := false }
def AssignBestsSaid : Prop := assignBestsRow.holds Try.pinned (OpenSpec.ofChange assignBestsSpec)

/-- ITS FALSE NEIGHBOUR: 'it returns false'. Refute it at one input. -/
def assignBestsWrong : ChangeSpec := { name := "assignBests", fn := fun _ => fun
  | [d] => { results := [.lit (.bool false)], args := [d] }
  | _ => none }
def AssignBestsWrongFalsely : Prop := assignBestsRow.holds Try.pinned (OpenSpec.ofChange assignBestsWrong)

/-- 'skiarealaw08.AssignBest': WHATEVER THE INPUT: true; the input reads as it did. -/
def assignBestSpec : ChangeSpec := { name := "assignBest", fn := fun _ => fun
  | [d1, d2] => { results := [.lit (.bool true)], args := [d1, d2] }
  | _ => none }
def assignBestRow : OpenClaim := { program := "ytgmefnddbiofkaa", sum := "7bdbc97781ed6448d4d86465dc9fe5ece0ca120a11ea8de64098a76b767cb567", func := "skiarea/skiarealaw08.AssignBest", spec := "assignBest", unfollowed := true, recurses := true, apart := false }
def AssignBestSaid : Prop := assignBestRow.holds Try.pinned (OpenSpec.ofChange assignBestSpec)

/-- ITS FALSE NEIGHBOUR: 'it returns false'. Refute it at one input. -/
def assignBestWrong : ChangeSpec := { name := "assignBest", fn := fun _ => fun
  | [d1, d2] => { results := [.lit (.bool false)], args := [d1, d2] }
  | _ => none }
def AssignBestWrongFalsely : Prop := assignBestRow.holds Try.pinned (OpenSpec.ofChange assignBestWrong)

/-- 'skiarealaw08.AssignWider': WHATEVER THE INPUT: true; the input reads as it did. -/
def assignWiderSpec : ChangeSpec := { name := "assignWider", fn := fun _ => fun
  | [d1, d2] => { results := [.lit (.bool true)], args := [d1, d2] }
  | _ => none }
def assignWiderRow : OpenClaim := { program := "ytgmefnddbiofkaa", sum := "7bdbc97781ed6448d4d86465dc9fe5ece0ca120a11ea8de64098a76b767cb567", func := "skiarea/skiarealaw08.AssignWider", spec := "assignWider", unfollowed := true, recurses := true, apart := false }
def AssignWiderSaid : Prop := assignWiderRow.holds Try.pinned (OpenSpec.ofChange assignWiderSpec)

/-- ITS FALSE NEIGHBOUR: 'it returns false'. Refute it at one input. -/
def assignWiderWrong : ChangeSpec := { name := "assignWider", fn := fun _ => fun
  | [d1, d2] => { results := [.lit (.bool false)], args := [d1, d2] }
  | _ => none }
def AssignWiderWrongFalsely : Prop := assignWiderRow.holds Try.pinned (OpenSpec.ofChange assignWiderWrong)

/-- 'skiarealaw08.AssignShifts': WHATEVER THE INPUT: true; the input reads as it did. -/
def assignShiftsSpec : ChangeSpec := { name := "assignShifts", fn := fun _ => fun
  | [d1, d2, d3] => { results := [.lit (.bool true)], args := [d1, d2, d3] }
  | _ => none }
def assignShiftsRow : OpenClaim := { program := "ytgmefnddbiofkaa", sum := "7bdbc97781ed6448d4d86465dc9fe5ece0ca120a11ea8de64098a76b767cb567", func := "skiarea/skiarealaw08.AssignShifts", spec := "assignShifts", unfollowed := true, recurses := true, apart := false }
def AssignShiftsSaid : Prop := assignShiftsRow.holds Try.pinned (OpenSpec.ofChange assignShiftsSpec)

/-- ITS FALSE NEIGHBOUR: 'it returns false'. Refute it at one input. -/
def assignShiftsWrong : ChangeSpec := { name := "assignShifts", fn := fun _ => fun
  | [d1, d2, d3] => { results := [.lit (.bool false)], args := [d1, d2, d3] }
  | _ => none }
def AssignShiftsWrongFalsely : Prop := assignShiftsRow.holds Try.pinned (OpenSpec.ofChange assignShiftsWrong)

/-- 'skiarealaw08.AssignRows': WHATEVER THE INPUT: true; the input reads as it did. -/
def assignRowsSpec : ChangeSpec := { name := "assignRows", fn := fun _ => fun
  | [d1, d2, d3] => { results := [.lit (.bool true)], args := [d1, d2, d3] }
  | _ => none }
def assignRowsRow : OpenClaim := { program := "ytgmefnddbiofkaa", sum := "7bdbc97781ed6448d4d86465dc9fe5ece0ca120a11ea8de64098a76b767cb567", func := "skiarea/skiarealaw08.AssignRows", spec := "assignRows", unfollowed := true, recurses := true, apart := false }
def AssignRowsSaid : Prop := assignRowsRow.holds Try.pinned (OpenSpec.ofChange assignRowsSpec)

/-- ITS FALSE NEIGHBOUR: 'it returns false'. Refute it at one input. -/
def assignRowsWrong : ChangeSpec := { name := "assignRows", fn := fun _ => fun
  | [d1, d2, d3] => { results := [.lit (.bool false)], args := [d1, d2, d3] }
  | _ => none }
def AssignRowsWrongFalsely : Prop := assignRowsRow.holds Try.pinned (OpenSpec.ofChange assignRowsWrong)

/- THE SECOND FORM. 'bulk': how many values and letters a reading holds, each counted each time it is reached (what is shared counts as often as it is met; a slice's spare places count too). A statement '..UptoSaid' is the law's where the arguments, and the package variables that the reading takes, are together of bulk at most 1048576: NARROWER than '..Said'. Prove '..Said' where nothing that the law and all that it calls make is longer than what came in: it says more and counts as full. Else prove '..UptoSaid'. A law counts once. -/
mutual
def uptoBulk {H : Type} : DataW H → Nat
  | .lit (.string bytes) => bytes.length + 1
  | .lit _ => 1
  | .nil => 1
  | .ptr d => uptoBulk d + 1
  | .slice elems spare => uptoBulkAll elems + uptoBulkAll spare + 1
  | .agg parts => uptoBulkAll parts + 1
  | .iface _ d => uptoBulk d + 1
  | .map entries => uptoBulkEntries entries + 1
  | .held _ => 1
def uptoBulkAll {H : Type} : List (DataW H) → Nat
  | [] => 0
  | d :: r => uptoBulk d + uptoBulkAll r
def uptoBulkEntries {H : Type} : List (Lit × DataW H) → Nat
  | [] => 0
  | x :: r => uptoBulkEntry x + uptoBulkEntries r
def uptoBulkEntry {H : Type} : Lit × DataW H → Nat
  | (.string bytes, d) => bytes.length + uptoBulk d + 1
  | (_, d) => uptoBulk d + 1
 end
def uptoSmall : (H : Type) → List (DataW H) → Bool := fun _ ds => decide (uptoBulkAll ds ≤ 1048576)
def OpenSpec.upto (s : _root_.Go.ChangeSpec) : _root_.Go.OpenSpec := { _root_.Go.OpenSpec.ofChange s with cond := some uptoSmall }

/-- 'skiarealaw08.AssignRights', WHERE WHAT IT READS IS OF BULK AT MOST 1048576: true; the input reads as it did. -/
def assignRightsUptoRow : OpenClaim := { program := "ytgmefnddbiofkaa", sum := "7bdbc97781ed6448d4d86465dc9fe5ece0ca120a11ea8de64098a76b767cb567", func := "skiarea/skiarealaw08.AssignRights", spec := "assignRights", unfollowed := true, recurses := true, apart := false, narrowed := true }
def AssignRightsUptoSaid : Prop := assignRightsUptoRow.holds Try.pinned (OpenSpec.upto assignRightsSpec)

/-- 'skiarealaw08.AssignTotals', WHERE WHAT IT READS IS OF BULK AT MOST 1048576: true; the input reads as it did. -/
def assignTotalsUptoRow : OpenClaim := { program := "ytgmefnddbiofkaa", sum := "7bdbc97781ed6448d4d86465dc9fe5ece0ca120a11ea8de64098a76b767cb567", func := "skiarea/skiarealaw08.AssignTotals", spec := "assignTotals", unfollowed := true, recurses := true, apart := false, narrowed := true }
def AssignTotalsUptoSaid : Prop := assignTotalsUptoRow.holds Try.pinned (OpenSpec.upto assignTotalsSpec)

/-- 'skiarealaw08.AssignBests', WHERE WHAT IT READS IS OF BULK AT MOST 1048576: true; the input reads as it did. -/
def assignBestsUptoRow : OpenClaim := { program := "ytgmefnddbiofkaa", sum := "7bdbc97781ed6448d4d86465dc9fe5ece0ca120a11ea8de64098a76b767cb567", func := "skiarea/skiarealaw08.AssignBests", spec := "assignBests", unfollowed := true, recurses := true, apart := false, narrowed := true }
def AssignBestsUptoSaid : Prop := assignBestsUptoRow.holds Try.pinned (OpenSpec.upto assignBestsSpec)

/-- 'skiarealaw08.AssignBest', WHERE WHAT IT READS IS OF BULK AT MOST 1048576: true; the input reads as it did. -/
def assignBestUptoRow : OpenClaim := { program := "ytgmefnddbiofkaa", sum := "7bdbc97781ed6448d4d86465dc9fe5ece0ca120a11ea8de64098a76b767cb567", func := "skiarea/skiarealaw08.AssignBest", spec := "assignBest", unfollowed := true, recurses := true, apart := false, narrowed := true }
def AssignBestUptoSaid : Prop := assignBestUptoRow.holds Try.pinned (OpenSpec.upto assignBestSpec)

/-- 'skiarealaw08.AssignWider', WHERE WHAT IT READS IS OF BULK AT MOST 1048576: true; the input reads as it did. -/
def assignWiderUptoRow : OpenClaim := { program := "ytgmefnddbiofkaa", sum := "7bdbc97781ed6448d4d86465dc9fe5ece0ca120a11ea8de64098a76b767cb567", func := "skiarea/skiarealaw08.AssignWider", spec := "assignWider", unfollowed := true, recurses := true, apart := false, narrowed := true }
def AssignWiderUptoSaid : Prop := assignWiderUptoRow.holds Try.pinned (OpenSpec.upto assignWiderSpec)

/-- 'skiarealaw08.AssignShifts', WHERE WHAT IT READS IS OF BULK AT MOST 1048576: true; the input reads as it did. -/
def assignShiftsUptoRow : OpenClaim := { program := "ytgmefnddbiofkaa", sum := "7bdbc97781ed6448d4d86465dc9fe5ece0ca120a11ea8de64098a76b767cb567", func := "skiarea/skiarealaw08.AssignShifts", spec := "assignShifts", unfollowed := true, recurses := true, apart := false, narrowed := true }
def AssignShiftsUptoSaid : Prop := assignShiftsUptoRow.holds Try.pinned (OpenSpec.upto assignShiftsSpec)

/-- 'skiarealaw08.AssignRows', WHERE WHAT IT READS IS OF BULK AT MOST 1048576: true; the input reads as it did. -/
def assignRowsUptoRow : OpenClaim := { program := "ytgmefnddbiofkaa", sum := "7bdbc97781ed6448d4d86465dc9fe5ece0ca120a11ea8de64098a76b767cb567", func := "skiarea/skiarealaw08.AssignRows", spec := "assignRows", unfollowed := true, recurses := true, apart := false, narrowed := true }
def AssignRowsUptoSaid : Prop := assignRowsUptoRow.holds Try.pinned (OpenSpec.upto assignRowsSpec)

end Rows
end Go.Proofs.Ytgmefnddbiofkaa
