/-
  No cell of these rows narrows 'for every input' (looked for: loops, veiled, ifaces, maps, wideKeys, modest, calm, conditions, laid).
  DERIVED. THE GIVEN ROWS OF THIS SEAT. 8 by the template 'for every input the law returns true; each argument reads behind the call as it read before'; 0 by the template 'total and deterministic' (their statements: YticoeibccdplaaaTotals.lean).
  GIVEN WITH THE SEED: the statements are not yours to turn. If you find one false, say at which input.
  Laid BY PROGRAM, IN A SANDBOX (cutbox-rows.mjs): the forced cells as the released guide's own fill.sh prints them over the translation 47e7ee7793ae45ae… (all of the seat's roots in one cut). By AI agents, Wed Nov 11 2026. No macro, syntax, notation, axiom, sorry.
-/
import Derived.Test.YticoeibccdplaaaChecked
import GoSem.Claim
import GoSem.ClaimJoined
import GoSem.ClaimMapViews
import Derived.JoinedTies
import Derived.KernelRfl
namespace Go.Proofs.Yticoeibccdplaaa
/- THE CELL 'sum', in the pinned program and in every row, IS THE sha256 OF THE DUMP (.gsa) THAT YticoeibccdplaaaProg.lean LOADS. Nothing in Lean hashes anything: it is a label: what it is worth is what the hold of that sum in a sandbox is worth. -/
noncomputable def Try.pinned : Pinned := { name := "yticoeibccdplaaa", sum := "47e7ee7793ae45ae796c47a399fefdd18264829e6a414d9c5aac61a09496dee1", checked := Try.checked }
namespace Rows
def none {H : Type} : Left H := { results := [], args := [] }

/-- 'skiarealaw56.SweepChecks': WHATEVER THE INPUT: true; the input reads as it did. -/
def sweepChecksSpec : ChangeSpec := { name := "sweepChecks", fn := fun _ => fun
  | [d1, d2] => { results := [.lit (.bool true)], args := [d1, d2] }
  | _ => none }
def sweepChecksRow : OpenClaim := { program := "yticoeibccdplaaa", sum := "47e7ee7793ae45ae796c47a399fefdd18264829e6a414d9c5aac61a09496dee1", func := "skiarea/skiarealaw56.SweepChecks", spec := "sweepChecks", unfollowed := true, recurses := true, apart := false }
def SweepChecksSaid : Prop := sweepChecksRow.holds Try.pinned (OpenSpec.ofChange sweepChecksSpec)

/-- ITS FALSE NEIGHBOUR: 'it returns false'. Refute it at one input. -/
def sweepChecksWrong : ChangeSpec := { name := "sweepChecks", fn := fun _ => fun
  | [d1, d2] => { results := [.lit (.bool false)], args := [d1, d2] }
  | _ => none }
def SweepChecksWrongFalsely : Prop := sweepChecksRow.holds Try.pinned (OpenSpec.ofChange sweepChecksWrong)

/-- 'skiarealaw56.SweepOrders': WHATEVER THE INPUT: true; the input reads as it did. -/
def sweepOrdersSpec : ChangeSpec := { name := "sweepOrders", fn := fun _ => fun
  | [d1, d2] => { results := [.lit (.bool true)], args := [d1, d2] }
  | _ => none }
def sweepOrdersRow : OpenClaim := { program := "yticoeibccdplaaa", sum := "47e7ee7793ae45ae796c47a399fefdd18264829e6a414d9c5aac61a09496dee1", func := "skiarea/skiarealaw56.SweepOrders", spec := "sweepOrders", unfollowed := true, recurses := true, apart := false }
def SweepOrdersSaid : Prop := sweepOrdersRow.holds Try.pinned (OpenSpec.ofChange sweepOrdersSpec)

/-- ITS FALSE NEIGHBOUR: 'it returns false'. Refute it at one input. -/
def sweepOrdersWrong : ChangeSpec := { name := "sweepOrders", fn := fun _ => fun
  | [d1, d2] => { results := [.lit (.bool false)], args := [d1, d2] }
  | _ => none }
def SweepOrdersWrongFalsely : Prop := sweepOrdersRow.holds Try.pinned (OpenSpec.ofChange sweepOrdersWrong)

/-- 'skiarealaw56.SweepDoes': WHATEVER THE INPUT: true; the input reads as it did. -/
def sweepDoesSpec : ChangeSpec := { name := "sweepDoes", fn := fun _ => fun
  | [d1, d2, d3, d4] => { results := [.lit (.bool true)], args := [d1, d2, d3, d4] }
  | _ => none }
def sweepDoesRow : OpenClaim := { program := "yticoeibccdplaaa", sum := "47e7ee7793ae45ae796c47a399fefdd18264829e6a414d9c5aac61a09496dee1", func := "skiarea/skiarealaw56.SweepDoes", spec := "sweepDoes", unfollowed := true, recurses := true, apart := false }
def SweepDoesSaid : Prop := sweepDoesRow.holds Try.pinned (OpenSpec.ofChange sweepDoesSpec)

/-- ITS FALSE NEIGHBOUR: 'it returns false'. Refute it at one input. -/
def sweepDoesWrong : ChangeSpec := { name := "sweepDoes", fn := fun _ => fun
  | [d1, d2, d3, d4] => { results := [.lit (.bool false)], args := [d1, d2, d3, d4] }
  | _ => none }
def SweepDoesWrongFalsely : Prop := sweepDoesRow.holds Try.pinned (OpenSpec.ofChange sweepDoesWrong)

/-- 'skiarealaw56.SweepPushes': WHATEVER THE INPUT: true; the input reads as it did. -/
def sweepPushesSpec : ChangeSpec := { name := "sweepPushes", fn := fun _ => fun
  | [d1, d2, d3, d4] => { results := [.lit (.bool true)], args := [d1, d2, d3, d4] }
  | _ => none }
def sweepPushesRow : OpenClaim := { program := "yticoeibccdplaaa", sum := "47e7ee7793ae45ae796c47a399fefdd18264829e6a414d9c5aac61a09496dee1", func := "skiarea/skiarealaw56.SweepPushes", spec := "sweepPushes", unfollowed := true, recurses := true, apart := false }
def SweepPushesSaid : Prop := sweepPushesRow.holds Try.pinned (OpenSpec.ofChange sweepPushesSpec)

/-- ITS FALSE NEIGHBOUR: 'it returns false'. Refute it at one input. -/
def sweepPushesWrong : ChangeSpec := { name := "sweepPushes", fn := fun _ => fun
  | [d1, d2, d3, d4] => { results := [.lit (.bool false)], args := [d1, d2, d3, d4] }
  | _ => none }
def SweepPushesWrongFalsely : Prop := sweepPushesRow.holds Try.pinned (OpenSpec.ofChange sweepPushesWrong)

/-- 'skiarealaw56.SweepAlls': WHATEVER THE INPUT: true; the input reads as it did. -/
def sweepAllsSpec : ChangeSpec := { name := "sweepAlls", fn := fun _ => fun
  | [d1, d2, d3] => { results := [.lit (.bool true)], args := [d1, d2, d3] }
  | _ => none }
def sweepAllsRow : OpenClaim := { program := "yticoeibccdplaaa", sum := "47e7ee7793ae45ae796c47a399fefdd18264829e6a414d9c5aac61a09496dee1", func := "skiarea/skiarealaw56.SweepAlls", spec := "sweepAlls", unfollowed := true, recurses := true, apart := false }
def SweepAllsSaid : Prop := sweepAllsRow.holds Try.pinned (OpenSpec.ofChange sweepAllsSpec)

/-- ITS FALSE NEIGHBOUR: 'it returns false'. Refute it at one input. -/
def sweepAllsWrong : ChangeSpec := { name := "sweepAlls", fn := fun _ => fun
  | [d1, d2, d3] => { results := [.lit (.bool false)], args := [d1, d2, d3] }
  | _ => none }
def SweepAllsWrongFalsely : Prop := sweepAllsRow.holds Try.pinned (OpenSpec.ofChange sweepAllsWrong)

/-- 'skiarealaw56.SweepEmpties': WHATEVER THE INPUT: true; the input reads as it did. -/
def sweepEmptiesSpec : ChangeSpec := { name := "sweepEmpties", fn := fun _ => fun
  | [d1, d2, d3] => { results := [.lit (.bool true)], args := [d1, d2, d3] }
  | _ => none }
def sweepEmptiesRow : OpenClaim := { program := "yticoeibccdplaaa", sum := "47e7ee7793ae45ae796c47a399fefdd18264829e6a414d9c5aac61a09496dee1", func := "skiarea/skiarealaw56.SweepEmpties", spec := "sweepEmpties", unfollowed := true, recurses := true, apart := false }
def SweepEmptiesSaid : Prop := sweepEmptiesRow.holds Try.pinned (OpenSpec.ofChange sweepEmptiesSpec)

/-- ITS FALSE NEIGHBOUR: 'it returns false'. Refute it at one input. -/
def sweepEmptiesWrong : ChangeSpec := { name := "sweepEmpties", fn := fun _ => fun
  | [d1, d2, d3] => { results := [.lit (.bool false)], args := [d1, d2, d3] }
  | _ => none }
def SweepEmptiesWrongFalsely : Prop := sweepEmptiesRow.holds Try.pinned (OpenSpec.ofChange sweepEmptiesWrong)

/-- 'skiarealaw56.SweepOrder': WHATEVER THE INPUT: true; the input reads as it did. -/
def sweepOrderSpec : ChangeSpec := { name := "sweepOrder", fn := fun _ => fun
  | [d1, d2] => { results := [.lit (.bool true)], args := [d1, d2] }
  | _ => none }
def sweepOrderRow : OpenClaim := { program := "yticoeibccdplaaa", sum := "47e7ee7793ae45ae796c47a399fefdd18264829e6a414d9c5aac61a09496dee1", func := "skiarea/skiarealaw56.SweepOrder", spec := "sweepOrder", unfollowed := true, recurses := true, apart := false }
def SweepOrderSaid : Prop := sweepOrderRow.holds Try.pinned (OpenSpec.ofChange sweepOrderSpec)

/-- ITS FALSE NEIGHBOUR: 'it returns false'. Refute it at one input. -/
def sweepOrderWrong : ChangeSpec := { name := "sweepOrder", fn := fun _ => fun
  | [d1, d2] => { results := [.lit (.bool false)], args := [d1, d2] }
  | _ => none }
def SweepOrderWrongFalsely : Prop := sweepOrderRow.holds Try.pinned (OpenSpec.ofChange sweepOrderWrong)

/-- 'skiarealaw56.SweepNext': WHATEVER THE INPUT: true; the input reads as it did. -/
def sweepNextSpec : ChangeSpec := { name := "sweepNext", fn := fun _ => fun
  | [d1, d2, d3] => { results := [.lit (.bool true)], args := [d1, d2, d3] }
  | _ => none }
def sweepNextRow : OpenClaim := { program := "yticoeibccdplaaa", sum := "47e7ee7793ae45ae796c47a399fefdd18264829e6a414d9c5aac61a09496dee1", func := "skiarea/skiarealaw56.SweepNext", spec := "sweepNext", unfollowed := true, recurses := true, apart := false }
def SweepNextSaid : Prop := sweepNextRow.holds Try.pinned (OpenSpec.ofChange sweepNextSpec)

/-- ITS FALSE NEIGHBOUR: 'it returns false'. Refute it at one input. -/
def sweepNextWrong : ChangeSpec := { name := "sweepNext", fn := fun _ => fun
  | [d1, d2, d3] => { results := [.lit (.bool false)], args := [d1, d2, d3] }
  | _ => none }
def SweepNextWrongFalsely : Prop := sweepNextRow.holds Try.pinned (OpenSpec.ofChange sweepNextWrong)

/- THE SECOND FORM. 'bulk': how many values and letters a reading holds, each counted each time it is reached (what is shared counts as often as it is met; a slice's spare places count too). A statement '..UptoSaid' is the law's where the arguments, and the package variables that the reading takes, are together of bulk at most 1048576: NARROWER than '..Said'. Prove '..Said' where nothing that the law and all that it calls make is longer than what came in: it says more and counts as full. Else prove '..UptoSaid'. A law counts once. -/
mutual
def uptoBulk {H : Type} : DataW H → Nat
  | .lit (.string bytes) => bytes.length + 1
  | .lit _ => 1
  | .nil => 1
  | .ptr d => uptoBulk d + 1
  | .slice elems spare => uptoBulkAll elems + uptoBulkAll spare + 1
  | .agg parts => uptoBulkAll parts + 1
  | .iface _ d => uptoBulk d + 1
  | .map entries => uptoBulkEntries entries + 1
  | .held _ => 1
def uptoBulkAll {H : Type} : List (DataW H) → Nat
  | [] => 0
  | d :: r => uptoBulk d + uptoBulkAll r
def uptoBulkEntries {H : Type} : List (Lit × DataW H) → Nat
  | [] => 0
  | x :: r => uptoBulkEntry x + uptoBulkEntries r
def uptoBulkEntry {H : Type} : Lit × DataW H → Nat
  | (.string bytes, d) => bytes.length + uptoBulk d + 1
  | (_, d) => uptoBulk d + 1
 end
def uptoSmall : (H : Type) → List (DataW H) → Bool := fun _ ds => decide (uptoBulkAll ds ≤ 1048576)
def OpenSpec.upto (s : _root_.Go.ChangeSpec) : _root_.Go.OpenSpec := { _root_.Go.OpenSpec.ofChange s with cond := some uptoSmall }

/-- 'skiarealaw56.SweepChecks', WHERE WHAT IT READS IS OF BULK AT MOST 1048576: true; the input reads as it did. -/
def sweepChecksUptoRow : OpenClaim := { program := "yticoeibccdplaaa", sum := "47e7ee7793ae45ae796c47a399fefdd18264829e6a414d9c5aac61a09496dee1", func := "skiarea/skiarealaw56.SweepChecks", spec := "sweepChecks", unfollowed := true, recurses := true, apart := false, narrowed := true }
def SweepChecksUptoSaid : Prop := sweepChecksUptoRow.holds Try.pinned (OpenSpec.upto sweepChecksSpec)

/-- 'skiarealaw56.SweepOrders', WHERE WHAT IT READS IS OF BULK AT MOST 1048576: true; the input reads as it did. -/
def sweepOrdersUptoRow : OpenClaim := { program := "yticoeibccdplaaa", sum := "47e7ee7793ae45ae796c47a399fefdd18264829e6a414d9c5aac61a09496dee1", func := "skiarea/skiarealaw56.SweepOrders", spec := "sweepOrders", unfollowed := true, recurses := true, apart := false, narrowed := true }
def SweepOrdersUptoSaid : Prop := sweepOrdersUptoRow.holds Try.pinned (OpenSpec.upto sweepOrdersSpec)

/-- 'skiarealaw56.SweepDoes', WHERE WHAT IT READS IS OF BULK AT MOST 1048576: true; the input reads as it did. -/
def sweepDoesUptoRow : OpenClaim := { program := "yticoeibccdplaaa", sum := "47e7ee7793ae45ae796c47a399fefdd18264829e6a414d9c5aac61a09496dee1", func := "skiarea/skiarealaw56.SweepDoes", spec := "sweepDoes", unfollowed := true, recurses := true, apart := false, narrowed := true }
def SweepDoesUptoSaid : Prop := sweepDoesUptoRow.holds Try.pinned (OpenSpec.upto sweepDoesSpec)

/-- 'skiarealaw56.SweepPushes', WHERE WHAT IT READS IS OF BULK AT MOST 1048576: true; the input reads as it did. -/
def sweepPushesUptoRow : OpenClaim := { program := "yticoeibccdplaaa", sum := "47e7ee7793ae45ae796c47a399fefdd18264829e6a414d9c5aac61a09496dee1", func := "skiarea/skiarealaw56.SweepPushes", spec := "sweepPushes", unfollowed := true, recurses := true, apart := false, narrowed := true }
def SweepPushesUptoSaid : Prop := sweepPushesUptoRow.holds Try.pinned (OpenSpec.upto sweepPushesSpec)

/-- 'skiarealaw56.SweepAlls', WHERE WHAT IT READS IS OF BULK AT MOST 1048576: true; the input reads as it did. -/
def sweepAllsUptoRow : OpenClaim := { program := "yticoeibccdplaaa", sum := "47e7ee7793ae45ae796c47a399fefdd18264829e6a414d9c5aac61a09496dee1", func := "skiarea/skiarealaw56.SweepAlls", spec := "sweepAlls", unfollowed := true, recurses := true, apart := false, narrowed := true }
def SweepAllsUptoSaid : Prop := sweepAllsUptoRow.holds Try.pinned (OpenSpec.upto sweepAllsSpec)

/-- 'skiarealaw56.SweepEmpties', WHERE WHAT IT READS IS OF BULK AT MOST 1048576: true; the input reads as it did. -/
def sweepEmptiesUptoRow : OpenClaim := { program := "yticoeibccdplaaa", sum := "47e7ee7793ae45ae796c47a399fefdd18264829e6a414d9c5aac61a09496dee1", func := "skiarea/skiarealaw56.SweepEmpties", spec := "sweepEmpties", unfollowed := true, recurses := true, apart := false, narrowed := true }
def SweepEmptiesUptoSaid : Prop := sweepEmptiesUptoRow.holds Try.pinned (OpenSpec.upto sweepEmptiesSpec)

/-- 'skiarealaw56.SweepOrder', WHERE WHAT IT READS IS OF BULK AT MOST 1048576: true; the input reads as it did. -/
def sweepOrderUptoRow : OpenClaim := { program := "yticoeibccdplaaa", sum := "47e7ee7793ae45ae796c47a399fefdd18264829e6a414d9c5aac61a09496dee1", func := "skiarea/skiarealaw56.SweepOrder", spec := "sweepOrder", unfollowed := true, recurses := true, apart := false, narrowed := true }
def SweepOrderUptoSaid : Prop := sweepOrderUptoRow.holds Try.pinned (OpenSpec.upto sweepOrderSpec)

/-- 'skiarealaw56.SweepNext', WHERE WHAT IT READS IS OF BULK AT MOST 1048576: true; the input reads as it did. -/
def sweepNextUptoRow : OpenClaim := { program := "yticoeibccdplaaa", sum := "47e7ee7793ae45ae796c47a399fefdd18264829e6a414d9c5aac61a09496dee1", func := "skiarea/skiarealaw56.SweepNext", spec := "sweepNext", unfollowed := true, recurses := true, apart := false, narrowed := true }
def SweepNextUptoSaid : Prop := sweepNextUptoRow.holds Try.pinned (OpenSpec.upto sweepNextSpec)

end Rows
end Go.Proofs.Yticoeibccdplaaa
