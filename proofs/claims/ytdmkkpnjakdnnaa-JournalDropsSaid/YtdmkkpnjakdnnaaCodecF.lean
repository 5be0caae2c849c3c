/-
  Frame of chapter 3 and of its reference, walked.
-/
import Derived.Test.YtdmkkpnjakdnnaaCodecS
namespace Go.Proofs.Ytdmkkpnjakdnnaa
open Go.RowKit

theorem be4_form (s : Nat) (h : s < 4294967296) : [Value.int .u8 ((s : Int) / 16777216), .int .u8 ((s : Int) / 65536 % 256), .int .u8 ((s : Int) / 256 % 256), .int .u8 ((s : Int) % 256)] = (be4 s).map B8 := by
  simp only [be4, List.map_cons, List.map_nil, B8, UInt8.toNat_ofNat']
  congr 1
  congr 1
  omega

set_option maxRecDepth 100000 in
set_option maxHeartbeats 400000 in
theorem frame_any (A : Option Addr) (n c : Nat) (l : List UInt8) (w : World) (hr : Bytes w w.heap.size A n l) (hn : n ≤ 1000000) :
    Calls Try.prog 34 #[.slice A n c] w fun e w' => ∃ v, e = .returned v ∧ OwnB w' w.heap.size v (frameN l) ∧ Below w.heap.size w w' := by
  have HL := Lib.hid hr.blen
  have HR := Lib.hid hr
  have hsl := sumN_lt l
  obtain ⟨s, hs⟩ : ∃ s, sumN l = s := ⟨_, rfl⟩
  rw [hs] at hsl
  have HS := Lib.hid hs
  have HF : Hid (putN n ++ l ++ be4 s = frameN l) := by show _ = _; rw [frameN, HL.out, hs]
  have HB4 := Lib.hid (be4_form s hsl)
  clear hr hs
  go_enter Try.func34, Try.ntmps34
  go_wp2_with fail
  with_reducible refine (sum_any _ _ _ _ s _ HR.out (by omega) HS.out).mono ?_
  rintro e w1 ⟨rfl, hb1⟩
  have HR1 := Lib.hid (HR.out.now hb1)
  have HB1 := Lib.hid hb1
  clear hb1
  go_wp2_with fail
  with_reducible refine (Put_any none 0 0 0 [] (n : Int) n _ Reads.empty (by omega) (Nat.zero_le _) (by omega) (by simp)).mono ?_
  rintro e w2 ⟨v, rfl, hown, hb2⟩
  rw [List.nil_append] at hown
  have HR2 := Lib.hid (HR1.out.now hb2)
  have HB2 : Hid (Below w.heap.size w w2) := HB1.out.trans (hb2.mono HB1.out.size)
  have hb12 := HB1.out.size
  have hb22 := hb2.size
  have HO := Lib.hid (hown.mono hb12)
  have hpl := putN_len n
  clear hown hb2
  go_wp2_with
    (first
     | (at_builtin
        refine wpList_app _ ei_byte rfl (.tmp 8) (.tmp 9) rfl w.heap.size v (putN n).length ((putN n).map B8) rfl HO.out w2.heap.size A n c (l.map B8) rfl HR2.out (oneCell_B8 l) (by simp only [maxLen]; omega) (by omega) (by omega) ?_
        intro v3 w3 hown3 hg3 hbw3 hat3
        have HO3 : Hid (w3.ownsRow w.heap.size 5 1 v3 ((putN n).length + n) ((putN n ++ l).map B8)) := by
          rw [app_map] at hown3
          exact hide hown3
        have HB3 : Hid (Below w.heap.size w w3) := HB2.out.trans hbw3
        have hs3 := HB3.out.size
        clear hown3 hg3 hbw3 hat3)
     | (at_builtin
        refine wpList_app _ ei_byte rfl (.tmp 10) (.tmp 22) rfl w.heap.size v3 ((putN n).length + n) ((putN n ++ l).map B8) rfl (HO3.out.alloc _) (w3.heap.size + 1) (some ⟨w3.heap.size, 0, none⟩) 4 4 [.int .u8 ((s : Int) / 16777216), .int .u8 ((s : Int) / 65536 % 256), .int .u8 ((s : Int) / 256 % 256), .int .u8 ((s : Int) % 256)] rfl (Reads.new w3 5 #[.int .u8 ((s : Int) / 16777216), .int .u8 ((s : Int) / 65536 % 256), .int .u8 ((s : Int) / 256 % 256), .int .u8 ((s : Int) % 256)] 1 4 rfl) (by rw [HB4.out]; exact oneCell_B8 _) (by simp only [maxLen]; omega) (by omega) (by simp; omega) ?_
        intro v4 w4 hown4 hg4 hbw4 hat4
        have HO4 : Hid (OwnB w4 w.heap.size v4 (frameN l)) := by
          rw [HB4.out, app_map] at hown4
          exact OwnB.mk' hown4 (by rw [← HF.out]; simp [HL.out, be4_len]; omega) (by rw [HF.out])
        have HBB4 : Hid (Below w.heap.size w w4) := (HB3.out.alloc hs3 _).trans hbw4
        clear hown4 hg4 hbw4 hat4))
  go_ret
  exact ⟨_, rfl, HO4.out, HBB4.out⟩
set_option maxRecDepth 100000 in
set_option maxHeartbeats 400000 in
theorem rframe_any (A : Option Addr) (n c : Nat) (l : List UInt8) (w : World) (hr : Bytes w w.heap.size A n l) (hn : n ≤ 1000000) :
    Calls Try.prog 38 #[.slice A n c] w fun e w' => ∃ v, e = .returned v ∧ OwnB w' w.heap.size v (frameN l) ∧ Below w.heap.size w w' := by
  have HL := Lib.hid hr.blen
  have HR := Lib.hid hr
  have hsl := sumN_lt l
  obtain ⟨s, hs⟩ : ∃ s, sumN l = s := ⟨_, rfl⟩
  rw [hs] at hsl
  have HS := Lib.hid hs
  have HF : Hid (putN n ++ l ++ be4 s = frameN l) := by show _ = _; rw [frameN, HL.out, hs]
  have HB4 := Lib.hid (be4_form s hsl)
  clear hr hs
  go_enter Try.func38, Try.ntmps38
  go_wp2_with fail
  with_reducible refine (rsum_any _ _ _ _ _ s _ HR.out (by omega) HS.out).mono ?_
  rintro e w1 ⟨rfl, rfl⟩
  have hb1 := Below.refl w.heap.size w
  have HR1 := Lib.hid (HR.out.now hb1)
  have HB1 := Lib.hid hb1
  clear hb1
  go_wp2_with fail
  with_reducible refine (rPut_any none 0 0 0 [] (n : Int) n _ Reads.empty (by omega) (Nat.zero_le _) (by omega) (by simp)).mono ?_
  rintro e w2 ⟨v, rfl, hown, hb2⟩
  rw [List.nil_append] at hown
  have HR2 := Lib.hid (HR1.out.now hb2)
  have HB2 : Hid (Below w.heap.size w w2) := HB1.out.trans (hb2.mono HB1.out.size)
  have hb12 := HB1.out.size
  have hb22 := hb2.size
  have HO := Lib.hid (hown.mono hb12)
  have hpl := putN_len n
  clear hown hb2
  go_wp2_with
    (first
     | (at_builtin
        refine wpList_app _ ei_byte rfl (.tmp 9) (.tmp 10) rfl w.heap.size v (putN n).length ((putN n).map B8) rfl HO.out w2.heap.size A n c (l.map B8) rfl HR2.out (oneCell_B8 l) (by simp only [maxLen]; omega) (by omega) (by omega) ?_
        intro v3 w3 hown3 hg3 hbw3 hat3
        have HO3 : Hid (w3.ownsRow w.heap.size 5 1 v3 ((putN n).length + n) ((putN n ++ l).map B8)) := by
          rw [app_map] at hown3
          exact hide hown3
        have HB3 : Hid (Below w.heap.size w w3) := HB2.out.trans hbw3
        have hs3 := HB3.out.size
        clear hown3 hg3 hbw3 hat3)
     | (at_builtin
        refine wpList_app _ ei_byte rfl (.tmp 12) (.tmp 24) rfl w.heap.size v3 ((putN n).length + n) ((putN n ++ l).map B8) rfl (HO3.out.alloc _) (w3.heap.size + 1) (some ⟨w3.heap.size, 0, none⟩) 4 4 [.int .u8 ((s : Int) / 16777216), .int .u8 ((s : Int) / 65536 % 256), .int .u8 ((s : Int) / 256 % 256), .int .u8 ((s : Int) % 256)] rfl (Reads.new w3 5 #[.int .u8 ((s : Int) / 16777216), .int .u8 ((s : Int) / 65536 % 256), .int .u8 ((s : Int) / 256 % 256), .int .u8 ((s : Int) % 256)] 1 4 rfl) (by rw [HB4.out]; exact oneCell_B8 _) (by simp only [maxLen]; omega) (by omega) (by simp; omega) ?_
        intro v4 w4 hown4 hg4 hbw4 hat4
        have HO4 : Hid (OwnB w4 w.heap.size v4 (frameN l)) := by
          rw [HB4.out, app_map] at hown4
          exact OwnB.mk' hown4 (by rw [← HF.out]; simp [HL.out, be4_len]; omega) (by rw [HF.out])
        have HBB4 : Hid (Below w.heap.size w w4) := (HB3.out.alloc hs3 _).trans hbw4
        clear hown4 hg4 hbw4 hat4))
  go_ret
  exact ⟨_, rfl, HO4.out, HBB4.out⟩
end Go.Proofs.Ytdmkkpnjakdnnaa
