/-
  Sign of chapter 25 and of its reference, walked.
-/
import Derived.Test.YthlhphifibldnaaCodecV
import Derived.Test.YthlhphifibldnaaSealK
import Derived.Test.YthlhphifibldnaaMat
import Derived.Test.YthlhphifibldnaaMedN
import Derived.Test.YthlhphifibldnaaMedB
import Derived.Deep.RegionWith
import Derived.Deep.RegionHeld3
namespace Go.Proofs.Ythlhphifibldnaa
open Go.RowKit

set_option maxHeartbeats 2000000 in
theorem blk_med9 {w : World} {g : Nat} {t : TypeId} {z0 z1 z2 z3 z4 z5 z6 z7 z8 : Value} (h0 : Blk w g t #[z0, z1, z2, z3, z4, z5, z6, z7, z8]) (v0 v1 v2 v3 v4 v5 v6 v7 v8 : Value) : Blk (((((((((w.setCell ⟨g, 0, none⟩ v0).setCell ⟨g, 1, none⟩ v1).setCell ⟨g, 2, none⟩ v2).setCell ⟨g, 3, none⟩ v3).setCell ⟨g, 4, none⟩ v4).setCell ⟨g, 5, none⟩ v5).setCell ⟨g, 6, none⟩ v6).setCell ⟨g, 7, none⟩ v7).setCell ⟨g, 8, none⟩ v8) g t #[v0, v1, v2, v3, v4, v5, v6, v7, v8] := by
  have h1 : Blk (w.setCell ⟨g, 0, none⟩ v0) g t #[v0, z1, z2, z3, z4, z5, z6, z7, z8] := by have h := h0.set_ 0 v0; simpa using h
  have h2 : Blk ((w.setCell ⟨g, 0, none⟩ v0).setCell ⟨g, 1, none⟩ v1) g t #[v0, v1, z2, z3, z4, z5, z6, z7, z8] := by have h := h1.set_ 1 v1; simpa using h
  have h3 : Blk (((w.setCell ⟨g, 0, none⟩ v0).setCell ⟨g, 1, none⟩ v1).setCell ⟨g, 2, none⟩ v2) g t #[v0, v1, v2, z3, z4, z5, z6, z7, z8] := by have h := h2.set_ 2 v2; simpa using h
  have h4 : Blk ((((w.setCell ⟨g, 0, none⟩ v0).setCell ⟨g, 1, none⟩ v1).setCell ⟨g, 2, none⟩ v2).setCell ⟨g, 3, none⟩ v3) g t #[v0, v1, v2, v3, z4, z5, z6, z7, z8] := by have h := h3.set_ 3 v3; simpa using h
  have h5 : Blk (((((w.setCell ⟨g, 0, none⟩ v0).setCell ⟨g, 1, none⟩ v1).setCell ⟨g, 2, none⟩ v2).setCell ⟨g, 3, none⟩ v3).setCell ⟨g, 4, none⟩ v4) g t #[v0, v1, v2, v3, v4, z5, z6, z7, z8] := by have h := h4.set_ 4 v4; simpa using h
  have h6 : Blk ((((((w.setCell ⟨g, 0, none⟩ v0).setCell ⟨g, 1, none⟩ v1).setCell ⟨g, 2, none⟩ v2).setCell ⟨g, 3, none⟩ v3).setCell ⟨g, 4, none⟩ v4).setCell ⟨g, 5, none⟩ v5) g t #[v0, v1, v2, v3, v4, v5, z6, z7, z8] := by have h := h5.set_ 5 v5; simpa using h
  have h7 : Blk (((((((w.setCell ⟨g, 0, none⟩ v0).setCell ⟨g, 1, none⟩ v1).setCell ⟨g, 2, none⟩ v2).setCell ⟨g, 3, none⟩ v3).setCell ⟨g, 4, none⟩ v4).setCell ⟨g, 5, none⟩ v5).setCell ⟨g, 6, none⟩ v6) g t #[v0, v1, v2, v3, v4, v5, v6, z7, z8] := by have h := h6.set_ 6 v6; simpa using h
  have h8 : Blk ((((((((w.setCell ⟨g, 0, none⟩ v0).setCell ⟨g, 1, none⟩ v1).setCell ⟨g, 2, none⟩ v2).setCell ⟨g, 3, none⟩ v3).setCell ⟨g, 4, none⟩ v4).setCell ⟨g, 5, none⟩ v5).setCell ⟨g, 6, none⟩ v6).setCell ⟨g, 7, none⟩ v7) g t #[v0, v1, v2, v3, v4, v5, v6, v7, z8] := by have h := h7.set_ 7 v7; simpa using h
  have h9 : Blk (((((((((w.setCell ⟨g, 0, none⟩ v0).setCell ⟨g, 1, none⟩ v1).setCell ⟨g, 2, none⟩ v2).setCell ⟨g, 3, none⟩ v3).setCell ⟨g, 4, none⟩ v4).setCell ⟨g, 5, none⟩ v5).setCell ⟨g, 6, none⟩ v6).setCell ⟨g, 7, none⟩ v7).setCell ⟨g, 8, none⟩ v8) g t #[v0, v1, v2, v3, v4, v5, v6, v7, v8] := by have h := h8.set_ 8 v8; simpa using h
  exact h9

theorem tagM_mk (key : Nat) (ser cnt prd fst lft tdy lif at_ tag : Int) : tagM key ⟨ser, cnt, prd, fst, lft, tdy, lif, at_, tag⟩ = tagN (keyN key ser) (bodyN ⟨ser, cnt, prd, fst, lft, tdy, lif, at_, tag⟩) := rfl

set_option maxRecDepth 100000 in
set_option maxHeartbeats 4000000 in
theorem rmtag_any (key : Nat) (hk : key < 18446744073709551616) (m : Med) (w : World) (h : RangeM m) : Calls Try.prog 28 #[.int .u64 (key : Int), .agg #[.int .i64 m.ser, .int .i64 m.cnt, .int .i64 m.prd, .int .i64 m.fst, .int .i64 m.lft, .int .i64 m.tdy, .int .i64 m.lif, .int .i64 m.at_, .int .u64 m.tag]] w fun e w' => e = .returned (.int .u64 ((tagM key m : Nat) : Int)) ∧ Below w.heap.size w w' := by
  obtain ⟨ser, cnt, prd, fst, lft, tdy, lif, at_, tag⟩ := m
  rw [tagM_mk]
  have HBody : Hid (∀ W : World, Calls Try.prog 20 #[.agg #[.int .i64 ser, .int .i64 cnt, .int .i64 prd, .int .i64 fst, .int .i64 lft, .int .i64 tdy, .int .i64 lif, .int .i64 at_, .int .u64 tag]] W fun e w' => ∃ v, e = .returned v ∧ OwnB w' W.heap.size v (bodyN ⟨ser, cnt, prd, fst, lft, tdy, lif, at_, tag⟩) ∧ Below W.heap.size W w') := fun W => rbody_any _ W h
  have HKey : Hid (∀ W : World, Calls Try.prog 43 #[.int .u64 (key : Int), .int .i64 ser] W fun e w' => e = .returned (.int .u64 ((keyN key ser : Nat) : Int)) ∧ W = w') := fun W => rkey_any key ser W
  have HLen : Hid ((bodyN ⟨ser, cnt, prd, fst, lft, tdy, lif, at_, tag⟩).length ≤ 80) := bodyN_len _
  have HKl : keyN key ser < 18446744073709551616 := keyN_lt key ser
  obtain ⟨bl, hbl⟩ : ∃ bl, bodyN ⟨ser, cnt, prd, fst, lft, tdy, lif, at_, tag⟩ = bl := ⟨_, rfl⟩
  obtain ⟨K, hK⟩ : ∃ K, keyN key ser = K := ⟨_, rfl⟩
  rw [hbl] at HBody HLen ⊢
  rw [hK] at HKey HKl ⊢
  clear hbl hK h
  have HTag : Hid (∀ (W : World) (B : Nat) (A : Option Addr) (n c : Nat), Bytes W B A n bl → n ≤ c → n ≤ 1000000 → Calls Try.prog 42 #[.int .u64 (K : Int), .slice A n c] W fun e w' => e = .returned (.int .u64 ((tagN K bl : Nat) : Int)) ∧ W = w') := by
    intro W B A n c hr hc hn
    have h := rtag_any (K : Int) (by omega) (by omega) A n c B bl W hr hn
    rw [Int.toNat_natCast] at h
    exact h
  obtain ⟨T, hT⟩ : ∃ T, tagN K bl = T := ⟨_, rfl⟩
  rw [hT] at HTag ⊢
  clear hT
  have HBt : Hid (∀ W : World, Blk (W.alloc (.cells #[.int .i64 ser, .int .i64 cnt, .int .i64 prd, .int .i64 fst, .int .i64 lft, .int .i64 tdy, .int .i64 lif, .int .i64 at_, .int .u64 tag] 24)) W.heap.size 24 #[.int .i64 ser, .int .i64 cnt, .int .i64 prd, .int .i64 fst, .int .i64 lft, .int .i64 tdy, .int .i64 lif, .int .i64 at_, .int .u64 tag]) := fun W => Blk.new W _ _
  go_enter Try.func28, Try.ntmps28
  go_wp2_with fail
  have hb00 := (Below.refl w.heap.size w).alloc (Nat.le_refl _) (.cells #[.int .i64 ser, .int .i64 cnt, .int .i64 prd, .int .i64 fst, .int .i64 lft, .int .i64 tdy, .int .i64 lif, .int .i64 at_, .int .u64 tag] 24)
  have HBx := Lib.hid (HBt.out w)
  obtain ⟨w0, hw0⟩ : ∃ W, w.alloc (.cells #[.int .i64 ser, .int .i64 cnt, .int .i64 prd, .int .i64 fst, .int .i64 lft, .int .i64 tdy, .int .i64 lif, .int .i64 at_, .int .u64 tag] 24) = W := ⟨_, rfl⟩
  have hs0 : w.heap.size < w0.heap.size := by rw [← hw0]; simp
  rw [hw0] at HBx hb00 ⊢
  have HB0 := Lib.hid hb00
  clear hw0 hb00
  have c0 : w0.cell? ⟨w.heap.size, 0, none⟩ = some (.int .i64 ser) := HBx.out.cell 0
  have c1 : w0.cell? ⟨w.heap.size, 1, none⟩ = some (.int .i64 cnt) := HBx.out.cell 1
  have c2 : w0.cell? ⟨w.heap.size, 2, none⟩ = some (.int .i64 prd) := HBx.out.cell 2
  have c3 : w0.cell? ⟨w.heap.size, 3, none⟩ = some (.int .i64 fst) := HBx.out.cell 3
  have c4 : w0.cell? ⟨w.heap.size, 4, none⟩ = some (.int .i64 lft) := HBx.out.cell 4
  have c5 : w0.cell? ⟨w.heap.size, 5, none⟩ = some (.int .i64 tdy) := HBx.out.cell 5
  have c6 : w0.cell? ⟨w.heap.size, 6, none⟩ = some (.int .i64 lif) := HBx.out.cell 6
  have c7 : w0.cell? ⟨w.heap.size, 7, none⟩ = some (.int .i64 at_) := HBx.out.cell 7
  have c8 : w0.cell? ⟨w.heap.size, 8, none⟩ = some (.int .u64 tag) := HBx.out.cell 8
  go_region_with (first
    | (go_at_call 43
       with_reducible refine (HKey.out _).mono ?_
       rintro e w' ⟨rfl, rfl⟩)
    | (go_at_call 20
       with_reducible refine (HBody.out _).mono ?_
       rintro e w2 ⟨v2, rfl, hown2, hb2⟩
       obtain ⟨A2, n2, k2, rfl, HN2, hk21, hk22, hr2⟩ := hown2.nam
       have HV2 := Lib.hid hr2
       have HBx2 := Lib.hid ((HBx.out.drewN _).below hb2 hs0)
       have HB2 := Lib.hid ((below_drewN HB0.out _).trans (hb2.mono HB0.out.size))
       have c0 : w2.cell? ⟨w.heap.size, 0, none⟩ = some (.int .i64 ser) := HBx2.out.cell 0
       have c1 : w2.cell? ⟨w.heap.size, 1, none⟩ = some (.int .i64 cnt) := HBx2.out.cell 1
       have c2 : w2.cell? ⟨w.heap.size, 2, none⟩ = some (.int .i64 prd) := HBx2.out.cell 2
       have c3 : w2.cell? ⟨w.heap.size, 3, none⟩ = some (.int .i64 fst) := HBx2.out.cell 3
       have c4 : w2.cell? ⟨w.heap.size, 4, none⟩ = some (.int .i64 lft) := HBx2.out.cell 4
       have c5 : w2.cell? ⟨w.heap.size, 5, none⟩ = some (.int .i64 tdy) := HBx2.out.cell 5
       have c6 : w2.cell? ⟨w.heap.size, 6, none⟩ = some (.int .i64 lif) := HBx2.out.cell 6
       have c7 : w2.cell? ⟨w.heap.size, 7, none⟩ = some (.int .i64 at_) := HBx2.out.cell 7
       have c8 : w2.cell? ⟨w.heap.size, 8, none⟩ = some (.int .u64 tag) := HBx2.out.cell 8
       clear hown2 hb2 hr2)
    | (go_at_call 42
       with_reducible refine (HTag.out _ _ _ _ _ HV2.out hk21 (by have := HLen.out; have := HN2.out; omega)).mono ?_
       rintro e w' ⟨rfl, rfl⟩))
  all_goals
    go_wp2_with fail
    go_ret
    refine ⟨rfl, ?_⟩
    first | exact HB2.out | exact below_drewN HB2.out _

end Go.Proofs.Ythlhphifibldnaa
