/-
  The small functions of network, walked: exists, partsRight, messageRight.
-/
import Derived.Test.YtedeggjefnpjgaaDivM
import Derived.Test.YtedeggjefnpjgaaDivN
import Derived.BigQuiet
namespace Go.Proofs.Ytedeggjefnpjgaa
open Go.RowKit

def BoR (b : Bool) (w : World) (e : Ending) (w' : World) : Prop := e = .returned (.bool b) ∧ Below w.heap.size w w'
def ErN (r : Int) (w : World) (e : Ending) (w' : World) : Prop := e = .returned (.int .i64 r) ∧ Below w.heap.size w w'
set_option maxRecDepth 100000 in
set_option maxHeartbeats 1000000 in
theorem exists_any (pA : Option Addr) (pc : Nat) (vm : Value) (s : Int) (w : World) (hs : 0 ≤ s ∧ s < 2) (hm : ∃ A n c, vm = .slice A n c) :
    Calls Try.prog 33 #[.agg #[.slice pA 2 pc, vm], .int .i64 s] w (BoR true w) := by
  obtain ⟨mA, mn, mc, rfl⟩ := hm
  have HFin : Hid (∀ w', Below w.heap.size w w' → BoR true w (.returned (.bool true)) w') := fun w' h => ⟨rfl, h⟩
  generalize BoR true w = RR at *
  go_enter Try.func33, Try.ntmps33
  go_wp2_with fail
  try go_ret
  exact HFin.out _ (below_new w _)
set_option maxRecDepth 100000 in
set_option maxHeartbeats 1000000 in
theorem parts_any (A : Option Addr) (c : Nat) (ps : List Int) (w : World) (hr : Ints w w.heap.size A 2 ps) (hp : ∀ i, i < 2 → 0 ≤ ps.getD i 0 ∧ ps.getD i 0 ≤ 16) :
    Calls Try.prog 28 #[.slice A 2 c] w (BoR true w) := by
  have HR := Lib.hid hr
  have HP := Lib.hid hp
  have HFin : Hid (∀ w', Below w.heap.size w w' → BoR true w (.returned (.bool true)) w') := fun w' h => ⟨rfl, h⟩
  generalize BoR true w = RR at *
  clear hr hp
  go_enter Try.func28, Try.ntmps28
  go_wp2_with fail
  go_loop [7] (fun i => ∃ k : Nat, k ≤ 2 ∧ i = .int .i64 k) (fun i => 2 - (intOf i).toNat)
  case atStart => exact ⟨0, by omega, rfl⟩
  case round =>
    obtain ⟨k, hk, rfl⟩ := hrel
    by_cases hlt : k < 2
    · obtain ⟨ad, rfl, _, hc⟩ := HR.out.int hlt
      have hp := HP.out k hlt
      generalize ps.getD k 0 = x at *
      have h1 : ¬ x < 0 := by omega
      have h2 : ¬ x > 16 := by omega
      go_wp2
      go_round
      case rel => exact ⟨k + 1, by omega, by go_num⟩
      case measure => simp [intOf]; omega
    · obtain rfl : k = 2 := by omega
      go_wp2
      try go_ret
      exact HFin.out _ (Below.refl _ _)
set_option maxRecDepth 100000 in
set_option maxHeartbeats 1000000 in
theorem mright_any (pA : Option Addr) (pc : Nat) (vm : Value) (fr t : Int) (bA : Option Addr) (bn bc : Nat) (w : World) (hm : ∃ A n c, vm = .slice A n c) (h1 : 0 ≤ fr ∧ fr < 2) (h2 : 0 ≤ t ∧ t < 2) (hne : fr ≠ t) (hb : bn ≤ 2000) :
    Calls Try.prog 46 #[.agg #[.slice pA 2 pc, vm], .int .i64 fr, .int .i64 t, .slice bA bn bc] w (ErN 0 w) := by
  have HE : Hid (∀ s W, 0 ≤ s ∧ s < 2 → Calls Try.prog 33 #[.agg #[.slice pA 2 pc, vm], .int .i64 s] W (BoR true W)) := fun s W h => exists_any pA pc vm s W h hm
  obtain ⟨mA, mn, mc, rfl⟩ := hm
  have H1 := Lib.hid h1
  have H2 := Lib.hid h2
  have HFin : Hid (∀ w', Below w.heap.size w w' → ErN 0 w (.returned (.int .i64 0)) w') := fun w' h => ⟨rfl, h⟩
  have d1 : (fr == t) = false := beq_eq_false_iff_ne.2 hne
  generalize ErN 0 w = RR at *
  clear hne h1 h2
  go_enter Try.func46, Try.ntmps46
  go_upto_region 1 with (fail)
  have HBw1 := (Blk.new w 27 #[.slice pA 2 pc, .slice mA mn mc])
  have HLw1 := (below_new w (.cells #[.slice pA 2 pc, .slice mA mn mc] 27))
  have hsw1 : (w.alloc (.cells #[.slice pA 2 pc, .slice mA mn mc] 27)).heap.size = w.heap.size + 1 := by simp
  generalize w.alloc (.cells #[.slice pA 2 pc, .slice mA mn mc] 27) = w1 at HBw1 HLw1 hsw1 ⊢
  replace HBw1 := Lib.hid HBw1
  replace HLw1 := Lib.hid HLw1
  have hlw1 : w.heap.size < w1.heap.size := by omega
  replace hsw1 := Lib.hid hsw1
  have HX1 := HBw1
  have hx1 := hlw1
  have HB1 := HLw1
  clear HBw1 HLw1 hsw1 hlw1
  go_wp2_with (refine wpList_load_blk rfl 27 (.tmp 4) rfl w.heap.size rfl _ _ HX1.out _ Try.underlying27 rfl (by kernel_rfl) ?_)
  with_reducible refine (HE.out fr w1 H1.out).mono ?_
  rintro e w2 ⟨rfl, hb2⟩
  have HX2 := Lib.hid (HX1.out.below hb2 hx1)
  have HB2 := Lib.hid (HB1.out.trans (hb2.mono HB1.out.size))
  clear hb2 HX1 HB1
  go_wp2_with (refine wpList_load_g 27 (.tmp 4) rfl rfl w.heap.size rfl _ _ HX2.out _ Try.underlying27 rfl (by kernel_rfl) ?_)
  with_reducible refine (HE.out t w2 H2.out).mono ?_
  rintro e w3 ⟨rfl, hb3⟩
  have HB3 := Lib.hid (HB2.out.trans (hb3.mono HB2.out.size))
  clear hb3 HB2
  go_wp2_with fail
  try go_ret
  exact HFin.out _ HB3.out
end Go.Proofs.Ytedeggjefnpjgaa
