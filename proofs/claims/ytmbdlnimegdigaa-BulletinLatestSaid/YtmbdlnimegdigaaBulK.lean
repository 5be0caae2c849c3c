/-
  alive of the law of chapter 49, walked.
-/
import Derived.Test.YtmbdlnimegdigaaBulT
import Derived.Test.YtmbdlnimegdigaaBulB
import Derived.Test.YtmbdlnimegdigaaBulW
namespace Go.Proofs.Ytmbdlnimegdigaa
open Go.RowKit

set_option maxRecDepth 100000 in
set_option maxHeartbeats 4000000 in
theorem alive_any (w : World) : Calls Try.prog 9 #[] w fun e w' => e = .returned (.bool true) ∧ Below w.heap.size w w' := by
  have HCur : Hid (∀ (A : Option Addr) (c : Nat) (W : World) (t v : Int), Buls W W.heap.size A 3 sampleN → curN sampleN t = v → Calls Try.prog 17 #[.slice A 3 c, .int .i64 t] W fun e w' => e = .returned (.int .i64 v) ∧ Below W.heap.size W w') := fun A c W t v h1 h2 => h2 ▸ cur_any A 3 c sampleN t W h1 (by decide)
  have HWor : Hid (∀ (A : Option Addr) (c : Nat) (W : World) (t v : Int), Buls W W.heap.size A 3 sampleN → worN sampleN t = v → Calls Try.prog 21 #[.slice A 3 c, .int .i64 t] W fun e w' => e = .returned (.int .i64 v) ∧ Below W.heap.size W w') := fun A c W t v h1 h2 => h2 ▸ wor_any A 3 c sampleN t W h1 (by decide)
  have HLev : Hid (∀ (A : Option Addr) (c : Nat) (W : World) (z l h t v : Int), Buls W W.heap.size A 3 sampleN → levN sampleN z l h t = v → Calls Try.prog 23 #[.slice A 3 c, .int .i64 z, .int .i64 l, .int .i64 h, .int .i64 t] W fun e w' => e = .returned (.int .i64 v) ∧ Below W.heap.size W w') := fun A c W z l h t v h1 h2 => h2 ▸ lvl_any A 3 c sampleN z l h t W h1 (by decide)
  have HRgt : Hid (∀ (A : Option Addr) (c : Nat) (W : World), Buls W W.heap.size A 3 sampleN → Calls Try.prog 11 #[.slice A 3 c] W fun e w' => e = .returned (.int .i64 0) ∧ Below W.heap.size W w') := fun A c W h1 => by
    have h := right_any A 3 c sampleN W h1
    rwa [show rightN sampleN = 0 by decide +kernel] at h
  have HI0 : Hid (∀ (A : Option Addr) (c : Nat) (W : World), Buls W W.heap.size A 3 sampleN → ∀ (A0 : Option Addr) (c0 : Nat), Ints W W.heap.size A0 2 [1, 2] → Calls Try.prog 14 #[.slice A 3 c, .agg #[.int .i64 1, .int .i64 0, .int .i64 1000, .int .i64 0, .int .i64 6000, .slice A0 2 c0, .int .i64 2]] W fun e w' => e = .returned (.tuple #[.slice none 0 0, .int .i64 11]) ∧ Below W.heap.size W w') := fun A c W h1 A0 c0 h0 => by
    refine (issue_any A 3 c sampleN ⟨1, 0, 1000, 0, 6000, 2, [1, 2]⟩ A0 2 c0 W h1 (by decide) (by decide) h0 (by decide)).mono ?_
    rintro e w' ⟨hb, ⟨h2, rfl⟩ | ⟨h2, _⟩⟩
    · exact ⟨by rw [show rightN (sampleN ++ [⟨1, 0, 1000, 0, 6000, 2, [1, 2]⟩]) = 11 by decide +kernel], hb⟩
    · exact absurd h2 (by decide +kernel)
  have HI2 : Hid (∀ (A : Option Addr) (c : Nat) (W : World), Buls W W.heap.size A 3 sampleN → ∀ (A0 : Option Addr) (c0 : Nat), Ints W W.heap.size A0 2 [1, 2] → Calls Try.prog 14 #[.slice A 3 c, .agg #[.int .i64 2, .int .i64 500, .int .i64 1500, .int .i64 0, .int .i64 2000, .slice A0 2 c0, .int .i64 3]] W fun e w' => ∃ A2 c2, e = .returned (.tuple #[.slice A2 4 c2, .int .i64 0]) ∧ Below W.heap.size W w') := fun A c W h1 A0 c0 h0 => by
    refine (issue_any A 3 c sampleN ⟨2, 500, 1500, 0, 2000, 3, [1, 2]⟩ A0 2 c0 W h1 (by decide) (by decide) h0 (by decide)).mono ?_
    rintro e w' ⟨hb, ⟨h2, rfl⟩ | ⟨h2, A2, n2, c2, rfl, h3, h4, h5⟩⟩
    · exact absurd (show rightN (sampleN ++ [⟨2, 500, 1500, 0, 2000, 3, [1, 2]⟩]) = 0 by decide +kernel) h2
    · obtain rfl : 4 = n2 := h5.len
      exact ⟨A2, c2, rfl, hb⟩
  go_enter Try.func9, Try.ntmps9
  go_wp2_with fail
  with_reducible refine (sample_any _).mono ?_
  rintro e w1 ⟨A, c, rfl, hr1, hb1⟩
  have HR1 := Lib.hid hr1
  have HB1 := Lib.hid hb1
  obtain ⟨ad, z0, rfl, hab, hc0, A0, c0, rfl, h01, h02, hz0⟩ := hr1.at_ (show 0 < 3 by omega)
  obtain ⟨ad2, z2, had2, hab2, hc2, A2, c2, rfl, h21, h22, hz2⟩ := hr1.at_ (show 2 < 3 by omega)
  obtain rfl := Option.some.inj had2
  have HC0 : Hid (∀ j u, ([.int .i64 1, .int .i64 0, .int .i64 1000, .int .i64 0, .int .i64 6000, .slice A0 2 c0, .int .i64 2] : List Value)[j]? = some u → w1.cell? ((ad.add (0 * 7)).add j) = some u) := hc0
  have HC2 : Hid (∀ j u, ([.int .i64 2, .int .i64 500, .int .i64 1500, .int .i64 0, .int .i64 2000, .slice A2 2 c2, .int .i64 3] : List Value)[j]? = some u → w1.cell? ((ad.add (2 * 7)).add j) = some u) := hc2
  have HZ0 : Hid (Ints w1 w1.heap.size A0 2 [1, 2]) := hz0
  have HZ2 : Hid (Ints w1 w1.heap.size A2 2 [1, 2]) := hz2
  clear hr1 hb1 hc0 hc2 hz0 hz2 h01 h02 h21 h22 had2 hab2
  go_wp2_with
    (refine wpList_load_at 31 (.tmp 10) rfl rfl (ad.add (0 * 7)) rfl [.int .i64 1, .int .i64 0, .int .i64 1000, .int .i64 0, .int .i64 6000, .slice A0 2 c0, .int .i64 2] HC0.out _ Try.underlying31 rfl (by kernel_rfl) ?_)
  with_reducible refine (HI0.out _ _ _ HR1.out _ _ HZ0.out).mono ?_
  rintro e w2 ⟨rfl, hb2⟩
  have HR2 := Lib.hid (HR1.out.now hb2)
  have HB2 := Lib.hid (HB1.out.trans (hb2.mono HB1.out.size))
  have HZ22 := Lib.hid (HZ2.out.now hb2)
  have HC22 : Hid (∀ j u, ([.int .i64 2, .int .i64 500, .int .i64 1500, .int .i64 0, .int .i64 2000, .slice A2 2 c2, .int .i64 3] : List Value)[j]? = some u → w2.cell? ((ad.add (2 * 7)).add j) = some u) := fun j u hu => (hb2.cell (by rw [block_of_add, block_of_add]; exact hab)).trans (HC2.out j u hu)
  clear hb2
  go_wp2_with
    (refine wpList_load_at 31 (.tmp 18) rfl rfl (ad.add (2 * 7)) rfl [.int .i64 2, .int .i64 500, .int .i64 1500, .int .i64 0, .int .i64 2000, .slice A2 2 c2, .int .i64 3] HC22.out _ Try.underlying31 rfl (by kernel_rfl) ?_)
  with_reducible refine (HI2.out _ _ _ HR2.out _ _ HZ22.out).mono ?_
  rintro e w3 ⟨A3, c3, rfl, hb3⟩
  have HR3 := Lib.hid (HR2.out.now hb3)
  have HB3 := Lib.hid (HB2.out.trans (hb3.mono HB2.out.size))
  clear hb3
  go_wp2_with fail
  with_reducible refine (HRgt.out _ _ _ HR3.out).mono ?_
  rintro e w4 ⟨rfl, hb4⟩
  have HR4 := Lib.hid (HR3.out.now hb4)
  have HB4 := Lib.hid (HB3.out.trans (hb4.mono HB3.out.size))
  clear hb4
  go_wp2_with fail
  with_reducible refine (HCur.out _ _ _ 499 1 HR4.out (by decide +kernel)).mono ?_
  rintro e w5 ⟨rfl, hb5⟩
  have HR5 := Lib.hid (HR4.out.now hb5)
  have HB5 := Lib.hid (HB4.out.trans (hb5.mono HB4.out.size))
  clear hb5
  go_wp2_with fail
  with_reducible refine (HCur.out _ _ _ 500 2 HR5.out (by decide +kernel)).mono ?_
  rintro e w6 ⟨rfl, hb6⟩
  have HR6 := Lib.hid (HR5.out.now hb6)
  have HB6 := Lib.hid (HB5.out.trans (hb6.mono HB5.out.size))
  clear hb6
  go_wp2_with fail
  with_reducible refine (HCur.out _ _ _ 1500 0 HR6.out (by decide +kernel)).mono ?_
  rintro e w7 ⟨rfl, hb7⟩
  have HR7 := Lib.hid (HR6.out.now hb7)
  have HB7 := Lib.hid (HB6.out.trans (hb7.mono HB6.out.size))
  clear hb7
  go_wp2_with fail
  with_reducible refine (HLev.out _ _ _ 1 1800 2200 500 4 HR7.out (by decide +kernel)).mono ?_
  rintro e w8 ⟨rfl, hb8⟩
  have HR8 := Lib.hid (HR7.out.now hb8)
  have HB8 := Lib.hid (HB7.out.trans (hb8.mono HB7.out.size))
  clear hb8
  go_wp2_with fail
  with_reducible refine (HLev.out _ _ _ 1 1000 2000 500 3 HR8.out (by decide +kernel)).mono ?_
  rintro e w9 ⟨rfl, hb9⟩
  have HR9 := Lib.hid (HR8.out.now hb9)
  have HB9 := Lib.hid (HB8.out.trans (hb9.mono HB8.out.size))
  clear hb9
  go_wp2_with fail
  with_reducible refine (HLev.out _ _ _ 1 2000 2001 500 4 HR9.out (by decide +kernel)).mono ?_
  rintro e w10 ⟨rfl, hb10⟩
  have HR10 := Lib.hid (HR9.out.now hb10)
  have HB10 := Lib.hid (HB9.out.trans (hb10.mono HB9.out.size))
  clear hb10
  go_wp2_with fail
  with_reducible refine (HLev.out _ _ _ 1 1800 2200 499 2 HR10.out (by decide +kernel)).mono ?_
  rintro e w11 ⟨rfl, hb11⟩
  have HR11 := Lib.hid (HR10.out.now hb11)
  have HB11 := Lib.hid (HB10.out.trans (hb11.mono HB10.out.size))
  clear hb11
  go_wp2_with fail
  with_reducible refine (HLev.out _ _ _ 2 2500 2600 600 0 HR11.out (by decide +kernel)).mono ?_
  rintro e w12 ⟨rfl, hb12⟩
  have HR12 := Lib.hid (HR11.out.now hb12)
  have HB12 := Lib.hid (HB11.out.trans (hb12.mono HB11.out.size))
  clear hb12
  go_wp2_with fail
  with_reducible refine (HWor.out _ _ _ 499 2 HR12.out (by decide +kernel)).mono ?_
  rintro e w13 ⟨rfl, hb13⟩
  have HR13 := Lib.hid (HR12.out.now hb13)
  have HB13 := Lib.hid (HB12.out.trans (hb13.mono HB12.out.size))
  clear hb13
  go_wp2_with fail
  with_reducible refine (HWor.out _ _ _ 1499 4 HR13.out (by decide +kernel)).mono ?_
  rintro e w14 ⟨rfl, hb14⟩
  have HR14 := Lib.hid (HR13.out.now hb14)
  have HB14 := Lib.hid (HB13.out.trans (hb14.mono HB13.out.size))
  clear hb14
  go_wp2_with fail
  go_ret
  exact ⟨rfl, HB14.out⟩
end Go.Proofs.Ytmbdlnimegdigaa
