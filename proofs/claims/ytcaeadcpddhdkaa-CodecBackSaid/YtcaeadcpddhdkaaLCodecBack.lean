/-
  CodecBack answers true for every input. Its conditions: none.
-/
import Derived.Test.YtcaeadcpddhdkaaCodecA
import Derived.Test.YtcaeadcpddhdkaaRowS
namespace Go.Proofs.Ytcaeadcpddhdkaa
open Go.ChangeShapes Go.WideShapes Go.ChangeAt Go.RowKit

def natB (l : List Int) : Bool := decide (l.length ≤ 300) && l.all fun z => decide (0 ≤ z)
theorem natB_toI {l : List Int} (h : natB l = true) (hb : ∀ z ∈ l, z ≤ 9223372036854775807) : l.length ≤ 300 ∧ l = toI (l.map Int.toNat) ∧ ∀ x ∈ l.map Int.toNat, x < 9223372036854775808 := by
  simp only [natB, Bool.and_eq_true, decide_eq_true_eq, List.all_eq_true] at h
  refine ⟨h.1, ?_, ?_⟩
  · unfold toI
    rw [List.map_map]
    have e : l.map ((fun n : Nat => (n : Int)) ∘ Int.toNat) = l.map id := List.map_congr_left fun z hz => by
      have := h.2 z hz
      simp only [Function.comp, id]
      omega
    rw [e, List.map_id]
  · intro x hx
    obtain ⟨z, hz, rfl⟩ := List.mem_map.1 hx
    have := hb z hz
    omega
theorem all_take_next (l : List Int) (k : Nat) (h : k < l.length) : ((l.take (k + 1)).all fun z => decide (0 ≤ z)) = ((l.take k).all (fun z => decide (0 ≤ z)) && decide (0 ≤ l.getD k 0)) := by
  have e : l.getD k 0 = l[k] := by simp [List.getElem?_eq_getElem h]
  rw [List.take_succ_eq_append_getElem h, List.all_append, e]
  simp
theorem natB_no {l : List Int} (k : Nat) (h : k < l.length) (hz : l.getD k 0 < 0) : natB l = false := by
  have e : l.getD k 0 = l[k] := by simp [List.getElem?_eq_getElem h]
  rw [Bool.eq_false_iff]
  intro h2
  simp only [natB, Bool.and_eq_true, decide_eq_true_eq, List.all_eq_true] at h2
  have := h2.2 _ (List.getElem_mem h)
  omega
set_option maxRecDepth 100000 in
set_option maxHeartbeats 400000 in
theorem natural_any (b : Bool) (A : Option Addr) (n c B : Nat) (l : List Int) (w : World) (hr : Ints w B A n l) (hn : n ≤ maxLen) (hb : natB l = b) :
    Calls Try.prog 32 #[.slice A n c] w fun e w' => e = .returned (.bool b) ∧ w = w' := by
  unfold maxLen at hn
  have HL := Lib.hid hr.ilen
  have HR := Lib.hid hr
  have HB := Lib.hid hb
  clear hr hb
  go_enter Try.func32, Try.ntmps32
  go_wp2_with fail
  go_loop [3] (fun i => ∃ k : Nat, k ≤ n ∧ k ≤ 301 ∧ i = .int .i64 k ∧ ((l.take k).all fun z => decide (0 ≤ z)) = true) (fun i => n - (intOf i).toNat)
  case atStart => exact ⟨0, by omega, by omega, rfl, rfl⟩
  case round =>
    obtain ⟨k, hk, hk3, rfl, hall⟩ := hrel
    have HA := Lib.hid hall
    clear hall
    by_cases hlt : k < n
    · by_cases h3 : k < 301
      · obtain ⟨ad, rfl, _, hc⟩ := HR.out.int hlt
        have HT := Lib.hid (all_take_next l k (by rw [HL.out]; exact hlt))
        have HN : Hid (l.getD k 0 < 0 → natB l = false) := fun h => natB_no k (by rw [HL.out]; exact hlt) h
        generalize l.getD k 0 = z at *
        by_cases hz : z < 0
        · have HZ := Lib.hid (HN.out hz)
          go_wp2_with fail
          go_ret
          exact ⟨ret_b (by rw [← HB.out, HZ.out]), rfl⟩
        · go_wp2_with fail
          go_round
          case rel => exact ⟨k + 1, by omega, by omega, by go_num, by rw [HT.out, HA.out]; simp; omega⟩
          case measure => simp [intOf]; omega
      · have HZ : Hid (b = false) := by
          show _ = _
          rw [← HB.out, natB, HL.out]
          have : decide (n ≤ 300) = false := by simp; omega
          rw [this]
          rfl
        have d : decide (n ≤ 300) = false := by simp; omega
        have d2 : decide ((n : Int) ≤ 300) = false := by simp; omega
        go_wp2_with fail
        go_ret
        exact ⟨ret_b (by rw [HZ.out]), rfl⟩
    · have HZ : Hid (decide ((n : Int) ≤ 300) = b) := by
        show _ = _
        have h := HA.out
        rw [List.take_of_length_le (by rw [HL.out]; omega)] at h
        rw [← HB.out, natB, HL.out, h, Bool.and_true]
        exact decide_eq_decide.2 (by omega)
      go_wp2_with fail
      go_ret
      exact ⟨ret_b HZ.out, rfl⟩

theorem rdrew {w : World} {v : Nat} {A : Option Addr} {n : Nat} {r : List UInt8} (h : Bytes w v A n r) : Bytes w.drew v A n r := h

theorem app2_len (a r : List UInt8) : (a ++ r).length = a.length + r.length := List.length_append
set_option maxRecDepth 100000 in
set_option maxHeartbeats 4000000 in
theorem codecBack_any (w : World) (N : Int) (hN : -9223372036854775808 ≤ N ∧ N ≤ 9223372036854775807) (S : ByteArray) (hS : S.size ≤ maxLen) (lA : Option Addr) (ln lc : Nat) (l : List Int) (l1 : ln ≤ lc) (l2 : lc ≤ maxLen) (lr : Ints w w.heap.size lA ln l) (lw : ∀ z ∈ l, (Lit.int .i64 z).wf = true) (bA : Option Addr) (bn bc : Nat) (b : List UInt8) (b1 : bn ≤ bc) (b2 : bc ≤ maxLen) (br : Bytes w w.heap.size bA bn b) (rA : Option Addr) (rn rc : Nat) (r : List UInt8) (r1 : rn ≤ rc) (r2 : rc ≤ maxLen) (rr : Bytes w w.heap.size rA rn r) (At : Int) (hAt : -9223372036854775808 ≤ At ∧ At ≤ 9223372036854775807) (C : Int) (hC : 0 ≤ C ∧ C < 256) :
    Calls Try.prog 9 #[.agg #[.int .i64 N, .string S, .slice lA ln lc, .slice bA bn bc, .slice rA rn rc, .int .i64 At, .int .u8 C]] w fun e w' => e = .returned (.bool true) ∧ Below w.heap.size w w' := by
  have HS := Lib.hid hS
  have HI := Lib.hid lr
  have HIl := Lib.hid lr.ilen
  have HW := Lib.hid lw
  have HB := Lib.hid br
  have HBl := Lib.hid br.blen
  have HR := Lib.hid rr
  have HRl := Lib.hid rr.blen
  have HM := Lib.hid l2
  clear lr lw br rr l2
  have hml : ln ≤ maxLen := Nat.le_trans l1 HM.out
  have HML := Lib.hid hml
  unfold maxLen at hS b2 r2 hml
  have HBt : Hid (∀ W : World, Blk (W.alloc (.cells #[.int .i64 N, .string S, .slice lA ln lc, .slice bA bn bc, .slice rA rn rc, .int .i64 At, .int .u8 C] 48)) W.heap.size 48 #[.int .i64 N, .string S, .slice lA ln lc, .slice bA bn bc, .slice rA rn rc, .int .i64 At, .int .u8 C]) := fun W => Blk.new W _ _
  go_enter Try.func9, Try.ntmps9
  go_wp2_with fail
  have hb00 := (Below.refl w.heap.size w).alloc (Nat.le_refl _) (.cells #[.int .i64 N, .string S, .slice lA ln lc, .slice bA bn bc, .slice rA rn rc, .int .i64 At, .int .u8 C] 48)
  have HBx := Lib.hid (HBt.out w)
  obtain ⟨w0, hw0⟩ : ∃ W, w.alloc (.cells #[.int .i64 N, .string S, .slice lA ln lc, .slice bA bn bc, .slice rA rn rc, .int .i64 At, .int .u8 C] 48) = W := ⟨_, rfl⟩
  have hsz0 : w.heap.size < w0.heap.size := by rw [← hw0]; simp
  rw [hw0] at HBx hb00 ⊢
  have HI0 := Lib.hid (HI.out.now hb00)
  have HB0 := Lib.hid (HB.out.now hb00)
  have HR0 := Lib.hid (HR.out.now hb00)
  have HBB0 := Lib.hid hb00
  clear hw0 hb00
  with_reducible refine (alive_any _).mono ?_
  rintro e w1 ⟨rfl, hb1⟩
  have HI1 := Lib.hid (HI0.out.now hb1)
  have HB1 := Lib.hid (HB0.out.now hb1)
  have HR1 := Lib.hid (HR0.out.now hb1)
  have HBx1 := Lib.hid (HBx.out.below hb1 hsz0)
  have HBB1 := Lib.hid (HBB0.out.trans (hb1.mono HBB0.out.size))
  have hs1 := hb1.size
  clear hb1
  have c0 : w1.cell? ⟨w.heap.size, 0, none⟩ = some (.int .i64 N) := HBx1.out.cell 0
  have c1 : w1.cell? ⟨w.heap.size, 1, none⟩ = some (.string S) := HBx1.out.cell 1
  have c2 : w1.cell? ⟨w.heap.size, 2, none⟩ = some (.slice lA ln lc) := HBx1.out.cell 2
  have c3 : w1.cell? ⟨w.heap.size, 3, none⟩ = some (.slice bA bn bc) := HBx1.out.cell 3
  have c4 : w1.cell? ⟨w.heap.size, 4, none⟩ = some (.slice rA rn rc) := HBx1.out.cell 4
  have c0' : w1.cell? ⟨w.heap.size, 0, none⟩ = some (.int .i64 N) := c0
  go_wp2_with fail
  go_quiet (fail)
  clear c0 c1 c2 c3 c4 c0'
  obtain ⟨w2, hw2⟩ : ∃ W, w1.drewN nq = W := ⟨_, rfl⟩
  have HI2 : Hid (Ints w2 w2.heap.size lA ln l) := by rw [← hw2]; exact HI1.out
  have HB2 : Hid (Bytes w2 w2.heap.size bA bn b) := by rw [← hw2]; exact HB1.out
  have HR2 : Hid (Bytes w2 w2.heap.size rA rn r) := by rw [← hw2]; exact HR1.out
  have HBx2 : Hid (Blk w2 w.heap.size 48 #[.int .i64 N, .string S, .slice lA ln lc, .slice bA bn bc, .slice rA rn rc, .int .i64 At, .int .u8 C]) := by rw [← hw2]; exact HBx1.out
  have HBB2 : Hid (Below w.heap.size w w2) := by rw [← hw2]; exact hide (below_drewN HBB1.out _)
  have hs2 : w.heap.size < w2.heap.size := by
    have : w1.heap.size = w2.heap.size := by rw [← hw2]; rfl
    omega
  rw [hw2]
  clear hw2 hs1 hsz0 HBt
  by_cases a1 : N < 0
  · go_wp2_with fail
    go_ret
    exact ⟨rfl, HBB2.out⟩
  by_cases a2 : 2000 < S.size
  · go_wp2_with fail
    go_ret
    exact ⟨rfl, HBB2.out⟩
  cases hnb : natB l with
  | false =>
    have HNb := Lib.hid hnb
    clear hnb
    go_wp2_with fail
    with_reducible refine (natural_any false _ _ _ _ _ _ HI2.out HML.out HNb.out).mono ?_
    rintro e w' ⟨rfl, rfl⟩
    go_wp2_with fail
    go_ret
    exact ⟨rfl, HBB2.out⟩
  | true =>
  obtain ⟨hl300, hltoI, hlb⟩ := natB_toI hnb (fun z hz => (bounds_i64 (HW.out z hz)).2)
  have HNb := Lib.hid hnb
  have HToI := Lib.hid hltoI
  have HLb := Lib.hid hlb
  rw [HIl.out] at hl300
  clear hnb hltoI hlb
  go_wp2_with fail
  with_reducible refine (natural_any true _ _ _ _ _ _ HI2.out HML.out HNb.out).mono ?_
  rintro e w' ⟨rfl, rfl⟩
  by_cases a3 : 3000 < bn
  · go_wp2_with fail
    go_ret
    exact ⟨rfl, HBB2.out⟩
  by_cases a4 : 3000 < rn
  · go_wp2_with fail
    go_ret
    exact ⟨rfl, HBB2.out⟩
  obtain ⟨M, rfl⟩ := Int.eq_ofNat_of_zero_le (show 0 ≤ N by omega)
  have hM : M < 9223372036854775808 := by omega
  clear hN a1
  go_wp2_with fail
  with_reducible refine (Put_any none 0 0 0 [] (M : Int) M _ Reads.empty (by omega) (Nat.zero_le _) (by omega) (by simp)).mono ?_
  rintro e w3 ⟨v3, rfl, hown3, hb3⟩
  rw [List.nil_append] at hown3
  obtain ⟨A3, n3, c3, rfl, HN3, hc31, hc32, hr3⟩ := hown3.nam
  have hn3 : n3 ≤ 10 := by rw [← HN3.out]; exact (putN_len M).2
  have HV3 := Lib.hid hr3
  have HI3 := Lib.hid (HI2.out.now hb3)
  have HB3 := Lib.hid (HB2.out.now hb3)
  have HR3 := Lib.hid (HR2.out.now hb3)
  have HBx3 := Lib.hid (HBx2.out.below hb3 hs2)
  have HBB3 := Lib.hid (HBB2.out.trans (hb3.mono HBB2.out.size))
  have hs3 : w.heap.size < w3.heap.size := by have := hb3.size; omega
  clear hb3
  clear hown3 hr3
  go_wp2_with
    (first
     | (at_builtin
        refine wpList_app _ ei_byte rfl (.tmp 66) (.tmp 67) rfl w3.heap.size (.slice (some ⟨w3.heap.size, 0, none⟩) 0 0) 0 [] rfl (World.ownsRow_lit w3 #[] 0 (Nat.le_refl _) (by simp [maxLen]) rfl) w3.heap.size A3 n3 c3 ((putN M).map B8) rfl (HV3.out.alloc (Nat.le_refl _) _) (oneCell_B8 _) (by simp only [maxLen]; omega) (by omega) (by simp) ?_
        intro v4 w4 hown4 hg4 hbw4 hat4
        simp only [Nat.zero_add, List.nil_append] at hown4
        have hb4 : Below w3.heap.size w3 w4 := ((Below.refl _ _).alloc (Nat.le_refl _) _).trans hbw4
        have HO4 := Lib.hid hown4
        have HR4 := Lib.hid (HR3.out.now hb4)
        have Hb4 := Lib.hid hb4
        have hsa4 := hb4.size
        clear hown4 hg4 hbw4 hat4 hb4)
     | (at_builtin
        refine wpList_app _ ei_byte rfl (.tmp 68) (.tmp 69) rfl w3.heap.size v4 n3 ((putN M).map B8) rfl HO4.out w4.heap.size rA rn rc (r.map B8) rfl HR4.out (oneCell_B8 _) (by simp only [maxLen]; omega) (by omega) hsa4 ?_
        intro v5 w5 hown5 hg5 hbw5 hat5
        rw [app_map] at hown5
        have hb5 : Below w3.heap.size w3 w5 := Hb4.out.trans hbw5
        have HO5 := Lib.hid hown5
        have Hb5 := Lib.hid hb5
        clear hown5 hg5 hbw5 hat5 hb5))
  have hb5 := Hb5.out
  have HI5 := Lib.hid (HI3.out.now hb5)
  have HB5 := Lib.hid (HB3.out.now hb5)
  have HR5 := Lib.hid (HR3.out.now hb5)
  have HBx5 := Lib.hid (HBx3.out.below hb5 hs3)
  have HBB5 := Lib.hid (HBB3.out.trans (hb5.mono HBB3.out.size))
  have hs5 : w.heap.size < w5.heap.size := by have := hb5.size; omega
  clear hb5
  obtain ⟨A5, c5, rfl, hc51, hc52, hr5⟩ := own_open HO5.out
  have HZ5 := Lib.hid hr5
  clear hr5
  have HG5 : Hid (getN (putN M ++ r) = (M, n3, 0)) := by show _ = _; rw [getN_put M hM r, HN3.out]
  with_reducible refine (get_any M n3 0 _ _ _ _ _ _ HZ5.out HG5.out).mono ?_
  rintro e w' ⟨rfl, rfl⟩
  go_wp2_with fail
  with_reducible refine (ptext_any none 0 0 0 [] S _ Reads.empty (by omega) (by omega) (Nat.zero_le _)).mono ?_
  rintro e w6 ⟨v6, rfl, hown6, hb6⟩
  rw [List.nil_append] at hown6
  obtain ⟨A6, n6, c6, rfl, HN6, hc61, hc62, hr6⟩ := hown6.nam
  obtain ⟨sl, hsl⟩ : ∃ sl, S.data.toList = sl := ⟨_, rfl⟩
  have hsll : sl.length = S.size := by rw [← hsl]; show S.data.toList.length = S.data.size; simp
  rw [hsl] at HN6 hr6
  have HSL := Lib.hid hsl
  have HSLl := Lib.hid hsll
  have hn6 : n6 ≤ 2010 := by
    rw [← HN6.out, textP, List.length_append]
    have := putN_len sl.length
    omega
  have HV6 := Lib.hid hr6
  have HI6 := Lib.hid (HI5.out.now hb6)
  have HB6 := Lib.hid (HB5.out.now hb6)
  have HR6 := Lib.hid (HR5.out.now hb6)
  have HBx6 := Lib.hid (HBx5.out.below hb6 hs5)
  have HBB6 := Lib.hid (HBB5.out.trans (hb6.mono HBB5.out.size))
  have hs6 : w.heap.size < w6.heap.size := by have := hb6.size; omega
  clear hb6
  clear hown6 hr6 hsl hsll
  go_wp2_with
    (first
     | (at_builtin
        refine wpList_app _ ei_byte rfl (.tmp 78) (.tmp 79) rfl w6.heap.size (.slice (some ⟨w6.heap.size, 0, none⟩) 0 0) 0 [] rfl (World.ownsRow_lit w6 #[] 0 (Nat.le_refl _) (by simp [maxLen]) rfl) w6.heap.size A6 n6 c6 ((textP sl).map B8) rfl (HV6.out.alloc (Nat.le_refl _) _) (oneCell_B8 _) (by simp only [maxLen]; omega) (by omega) (by simp) ?_
        intro v7 w7 hown7 hg7 hbw7 hat7
        simp only [Nat.zero_add, List.nil_append] at hown7
        have hb7 : Below w6.heap.size w6 w7 := ((Below.refl _ _).alloc (Nat.le_refl _) _).trans hbw7
        have HO7 := Lib.hid hown7
        have HR7 := Lib.hid (HR6.out.now hb7)
        have Hb7 := Lib.hid hb7
        have hsa7 := hb7.size
        clear hown7 hg7 hbw7 hat7 hb7)
     | (at_builtin
        refine wpList_app _ ei_byte rfl (.tmp 80) (.tmp 81) rfl w6.heap.size v7 n6 ((textP sl).map B8) rfl HO7.out w7.heap.size rA rn rc (r.map B8) rfl HR7.out (oneCell_B8 _) (by simp only [maxLen]; omega) (by omega) hsa7 ?_
        intro v8 w8 hown8 hg8 hbw8 hat8
        rw [app_map] at hown8
        have hb8 : Below w6.heap.size w6 w8 := Hb7.out.trans hbw8
        have HO8 := Lib.hid hown8
        have Hb8 := Lib.hid hb8
        clear hown8 hg8 hbw8 hat8 hb8))
  have hb8 := Hb8.out
  have HI8 := Lib.hid (HI6.out.now hb8)
  have HB8 := Lib.hid (HB6.out.now hb8)
  have HR8 := Lib.hid (HR6.out.now hb8)
  have HBx8 := Lib.hid (HBx6.out.below hb8 hs6)
  have HBB8 := Lib.hid (HBB6.out.trans (hb8.mono HBB6.out.size))
  have hs8 : w.heap.size < w8.heap.size := by have := hb8.size; omega
  clear hb8
  obtain ⟨A8, c8, rfl, hc81, hc82, hr8⟩ := own_open HO8.out
  have HZ8 := Lib.hid hr8
  clear hr8
  have HG8 : Hid (textG (textP sl ++ r) = (sl, n6, 0)) := by show _ = _; rw [textG_back sl r (by have := HSLl.out; omega), HN6.out]
  with_reducible refine (gtext_any _ _ _ _ _ sl n6 0 _ HZ8.out (by omega) hc81 hc82 HG8.out).mono ?_
  rintro e w' ⟨rfl, rfl⟩
  go_wp2_with fail
  with_reducible refine (plist_any none 0 0 [] _ _ _ _ _ Reads.empty (by omega) HI8.out (by omega) HW.out).mono ?_
  rintro e w9 ⟨v9, rfl, hown9, hb9⟩
  rw [List.nil_append] at hown9
  obtain ⟨A9, n9, c9, rfl, HN9, hc91, hc92, hr9⟩ := hown9.nam
  have hn9 : n9 ≤ 3010 := by
    rw [← HN9.out, listP, List.length_append]
    have := putN_len l.length
    have := putsN_len l
    have := HIl.out
    omega
  have HV9 := Lib.hid hr9
  have HI9 := Lib.hid (HI8.out.now hb9)
  have HB9 := Lib.hid (HB8.out.now hb9)
  have HR9 := Lib.hid (HR8.out.now hb9)
  have HBx9 := Lib.hid (HBx8.out.below hb9 hs8)
  have HBB9 := Lib.hid (HBB8.out.trans (hb9.mono HBB8.out.size))
  have hs9 : w.heap.size < w9.heap.size := by have := hb9.size; omega
  clear hb9
  clear hown9 hr9
  go_wp2_with
    (first
     | (at_builtin
        refine wpList_app _ ei_byte rfl (.tmp 90) (.tmp 91) rfl w9.heap.size (.slice (some ⟨w9.heap.size, 0, none⟩) 0 0) 0 [] rfl (World.ownsRow_lit w9 #[] 0 (Nat.le_refl _) (by simp [maxLen]) rfl) w9.heap.size A9 n9 c9 ((listP l).map B8) rfl (HV9.out.alloc (Nat.le_refl _) _) (oneCell_B8 _) (by simp only [maxLen]; omega) (by omega) (by simp) ?_
        intro v10 w10 hown10 hg10 hbw10 hat10
        simp only [Nat.zero_add, List.nil_append] at hown10
        have hb10 : Below w9.heap.size w9 w10 := ((Below.refl _ _).alloc (Nat.le_refl _) _).trans hbw10
        have HO10 := Lib.hid hown10
        have HR10 := Lib.hid (HR9.out.now hb10)
        have Hb10 := Lib.hid hb10
        have hsa10 := hb10.size
        clear hown10 hg10 hbw10 hat10 hb10)
     | (at_builtin
        refine wpList_app _ ei_byte rfl (.tmp 92) (.tmp 93) rfl w9.heap.size v10 n9 ((listP l).map B8) rfl HO10.out w10.heap.size rA rn rc (r.map B8) rfl HR10.out (oneCell_B8 _) (by simp only [maxLen]; omega) (by omega) hsa10 ?_
        intro v11 w11 hown11 hg11 hbw11 hat11
        rw [app_map] at hown11
        have hb11 : Below w9.heap.size w9 w11 := Hb10.out.trans hbw11
        have HO11 := Lib.hid hown11
        have Hb11 := Lib.hid hb11
        clear hown11 hg11 hbw11 hat11 hb11))
  have hb11 := Hb11.out
  have HI11 := Lib.hid (HI9.out.now hb11)
  have HB11 := Lib.hid (HB9.out.now hb11)
  have HR11 := Lib.hid (HR9.out.now hb11)
  have HBx11 := Lib.hid (HBx9.out.below hb11 hs9)
  have HBB11 := Lib.hid (HBB9.out.trans (hb11.mono HBB9.out.size))
  have hs11 : w.heap.size < w11.heap.size := by have := hb11.size; omega
  clear hb11
  obtain ⟨A11, c11, rfl, hc111, hc112, hr11⟩ := own_open HO11.out
  have HZ11 := Lib.hid hr11
  clear hr11
  have HG11 : Hid (listG (listP l ++ r) = (l.map Int.toNat, n9, 0)) := by
    show _ = _
    have h := listG_back (l.map Int.toNat) HLb.out (by rw [List.length_map, HIl.out]; exact hl300) r
    rw [← HToI.out, HN9.out] at h
    exact h
  with_reducible refine (glist_any _ _ _ _ _ n9 0 _ HZ11.out (by omega) hc111 hc112 HG11.out).mono ?_
  rintro e w12 ⟨v12, rfl, hown12, hb12⟩
  rw [← HToI.out] at hown12
  obtain ⟨A12, n12, c12, rfl, HN12, hc121, hc122, hr12⟩ := hown12.nam
  have HL12 := Lib.hid hr12
  have hm12 := Nat.le_trans hc121 hc122
  have HM12 := Lib.hid hm12
  have HI12 := Lib.hid (HI11.out.now hb12)
  have HB12 := Lib.hid (HB11.out.now hb12)
  have HR12 := Lib.hid (HR11.out.now hb12)
  have HBx12 := Lib.hid (HBx11.out.below hb12 hs11)
  have HBB12 := Lib.hid (HBB11.out.trans (hb12.mono HBB11.out.size))
  have hs12 : w.heap.size < w12.heap.size := by have := hb12.size; omega
  clear hb12
  clear hown12 hr12 hm12
  go_wp2_with fail
  with_reducible refine (frame_any _ _ _ _ _ HB12.out (by omega)).mono ?_
  rintro e w13 ⟨v13, rfl, hown13, hb13⟩
  obtain ⟨A13, n13, c13, rfl, HN13, hc131, hc132, hr13⟩ := hown13.nam
  have hn13 : bn + 5 ≤ n13 ∧ n13 ≤ bn + 14 := by
    rw [← HN13.out, frameN]
    have := putN_len b.length
    have := HBl.out
    simp only [List.length_append, be4_len]
    omega
  have HV13 := Lib.hid hr13
  have HL13 := Lib.hid (HL12.out.now hb13)
  have HI13 := Lib.hid (HI12.out.now hb13)
  have HB13 := Lib.hid (HB12.out.now hb13)
  have HR13 := Lib.hid (HR12.out.now hb13)
  have HBx13 := Lib.hid (HBx12.out.below hb13 hs12)
  have HBB13 := Lib.hid (HBB12.out.trans (hb13.mono HBB12.out.size))
  have hs13 : w.heap.size < w13.heap.size := by have := hb13.size; omega
  clear hb13
  clear hown13 hr13
  go_wp2_with
    (first
     | (at_builtin
        refine wpList_app _ ei_byte rfl (.tmp 102) (.tmp 103) rfl w13.heap.size (.slice (some ⟨w13.heap.size, 0, none⟩) 0 0) 0 [] rfl (World.ownsRow_lit w13 #[] 0 (Nat.le_refl _) (by simp [maxLen]) rfl) w13.heap.size A13 n13 c13 ((frameN b).map B8) rfl (HV13.out.alloc (Nat.le_refl _) _) (oneCell_B8 _) (by simp only [maxLen]; omega) (by omega) (by simp) ?_
        intro v14 w14 hown14 hg14 hbw14 hat14
        simp only [Nat.zero_add, List.nil_append] at hown14
        have hb14 : Below w13.heap.size w13 w14 := ((Below.refl _ _).alloc (Nat.le_refl _) _).trans hbw14
        have HO14 := Lib.hid hown14
        have HR14 := Lib.hid (HR13.out.now hb14)
        have Hb14 := Lib.hid hb14
        have hsa14 := hb14.size
        clear hown14 hg14 hbw14 hat14 hb14)
     | (at_builtin
        refine wpList_app _ ei_byte rfl (.tmp 104) (.tmp 105) rfl w13.heap.size v14 n13 ((frameN b).map B8) rfl HO14.out w14.heap.size rA rn rc (r.map B8) rfl HR14.out (oneCell_B8 _) (by simp only [maxLen]; omega) (by omega) hsa14 ?_
        intro v15 w15 hown15 hg15 hbw15 hat15
        rw [app_map] at hown15
        have hb15 : Below w13.heap.size w13 w15 := Hb14.out.trans hbw15
        have HO15 := Lib.hid hown15
        have Hb15 := Lib.hid hb15
        clear hown15 hg15 hbw15 hat15 hb15))
  have hb15 := Hb15.out
  have HI15 := Lib.hid (HI13.out.now hb15)
  have HB15 := Lib.hid (HB13.out.now hb15)
  have HR15 := Lib.hid (HR13.out.now hb15)
  have HBx15 := Lib.hid (HBx13.out.below hb15 hs13)
  have HBB15 := Lib.hid (HBB13.out.trans (hb15.mono HBB13.out.size))
  have hs15 : w.heap.size < w15.heap.size := by have := hb15.size; omega
  clear hb15
  obtain ⟨A15, c15, rfl, hc151, hc152, hr15⟩ := own_open HO15.out
  have HZ15 := Lib.hid hr15
  clear hr15
  have HL15 := Lib.hid (HL13.out.now Hb15.out)
  have HV15 := Lib.hid (HV13.out.now Hb15.out)
  have HG15 : Hid (unfG (frameN b ++ r) = (b, n13, 0)) := by show _ = _; rw [unfG_back b r (by rw [HBl.out]; omega), HN13.out]
  with_reducible refine (unf_any _ _ _ _ b n13 0 _ HZ15.out (by omega) hc151 hc152 HG15.out).mono ?_
  rintro e w16 ⟨v16, rfl, hown16, hb16⟩
  obtain ⟨A16, n16, c16, rfl, HN16, hc161, hc162, hr16⟩ := hown16.nam
  have HU16 := Lib.hid hr16
  have HL16 := Lib.hid (HL15.out.now hb16)
  have HV16 := Lib.hid (HV15.out.now hb16)
  have HI16 := Lib.hid (HI15.out.now hb16)
  have HB16 := Lib.hid (HB15.out.now hb16)
  have HR16 := Lib.hid (HR15.out.now hb16)
  have HBx16 := Lib.hid (HBx15.out.below hb16 hs15)
  have HBB16 := Lib.hid (HBB15.out.trans (hb16.mono HBB15.out.size))
  have hs16 : w.heap.size < w16.heap.size := by have := hb16.size; omega
  clear hb16
  clear hown16 hr16 hc161
  have hq2' : (sl = S.toList) := by rw [ByteArray.toList_eq]; exact HSL.out.symm
  go_wp2_with fail
  with_reducible refine (samel_any true _ _ _ _ _ _ _ _ _ _ _ HL16.out HI16.out HM12.out (by simp)).mono ?_
  rintro e w' ⟨rfl, m17, rfl⟩
  go_wp2_with fail
  with_reducible refine (sameb_any true _ _ _ _ _ _ _ _ _ _ _ (HU16.out.drewN m17) (HB16.out.drewN m17) (by simp)).mono ?_
  rintro e w' ⟨rfl, rfl⟩
  have hn16 : ((n13 : Int) < (bn : Int) + 5) = False := by simp; omega
  have d16 : decide ((n13 : Int) < (bn : Int) + 5) = false := by simp; omega
  have HBx17 : Hid (Blk (w16.drewN m17) w.heap.size 48 #[.int .i64 (M : Int), .string S, .slice lA ln lc, .slice bA bn bc, .slice rA rn rc, .int .i64 At, .int .u8 C]) := HBx16.out
  have c5 : (w16.drewN m17).cell? ⟨w.heap.size, 5, none⟩ = some (.int .i64 At) := HBx17.out.cell 5
  have c6 : (w16.drewN m17).cell? ⟨w.heap.size, 6, none⟩ = some (.int .u8 C) := HBx17.out.cell 6
  clear hn16
  obtain ⟨w17, hw17⟩ : ∃ W, w16.drewN m17 = W := ⟨_, rfl⟩
  have HR17 : Hid (Bytes w17 w17.heap.size rA rn r) := by rw [← hw17]; exact HR16.out
  have HV17 : Hid (Bytes w17 w17.heap.size A13 n13 (frameN b)) := by rw [← hw17]; exact HV16.out
  have HBB17 : Hid (Below w.heap.size w w17) := by rw [← hw17]; exact hide (below_drewN HBB16.out _)
  have hs17 : w.heap.size < w17.heap.size := by
    have : w16.heap.size = w17.heap.size := by rw [← hw17]; rfl
    omega
  rw [hw17] at c5 c6 HBx17 ⊢
  clear hw17
  by_cases p1 : C = 0
  · subst p1
    go_wp2_with fail
    go_ret
    exact ⟨rfl, HBB17.out⟩
  by_cases p2 : At < (n13 : Int) - bn - 4
  · have p1' : (C == 0) = false := beq_eq_false_iff_ne.2 p1
    have P1 := Lib.hid p1
    clear p1
    go_wp2_with fail
    go_ret
    exact ⟨rfl, HBB17.out⟩
  by_cases p3 : (n13 : Int) ≤ At
  · have p1' : (C == 0) = false := beq_eq_false_iff_ne.2 p1
    have P1 := Lib.hid p1
    clear p1
    go_wp2_with fail
    go_ret
    exact ⟨rfl, HBB17.out⟩
  have p1' : (C == 0) = false := beq_eq_false_iff_ne.2 p1
  have P1 := Lib.hid p1
  clear p1
  obtain ⟨i, rfl⟩ := Int.eq_ofNat_of_zero_le (show 0 ≤ At by omega)
  have hi1 : n13 ≤ i + bn + 4 := by omega
  have hi2 : i < n13 := by omega
  clear hAt p2 p3
  have HF13 := Lib.hid HN13.out
  go_wp2_with
    (at_builtin
     refine wpList_app _ ei_byte rfl (.tmp 199) (.tmp 200) rfl w17.heap.size (.slice (some ⟨w17.heap.size, 0, none⟩) 0 0) 0 [] rfl (World.ownsRow_lit w17 #[] 0 (Nat.le_refl _) (by simp [maxLen]) rfl) w17.heap.size A13 n13 c13 ((frameN b).map B8) rfl (HV17.out.alloc (Nat.le_refl _) _) (oneCell_B8 _) (by simp only [maxLen]; omega) (by omega) (by simp) ?_
     intro v18 w18 hown18 hg18 hbw18 hat18
     simp only [Nat.zero_add, List.nil_append] at hown18
     have hb18 : Below w17.heap.size w17 w18 := ((Below.refl _ _).alloc (Nat.le_refl _) _).trans hbw18
     obtain ⟨g18, c18, rfl, hg181, hg182, hc181, hc182⟩ := own_form hown18 (by omega)
     have HO18 := Lib.hid hown18
     have HR18 := Lib.hid (HR17.out.below hb18)
     have HBx18 := Lib.hid (HBx17.out.below hb18 (Nat.lt_of_lt_of_le hs17 (Nat.le_refl _)))
     have HBB18 := Lib.hid (HBB17.out.trans (hb18.mono HBB17.out.size))
     have hcell : w18.cell? ⟨g18, i, none⟩ = some (.int .u8 (((frameN b).getD i 0).toNat : Int)) := by
       rw [hown18.cellAt i (by omega), List.getElem?_map, List.getElem?_eq_getElem (by rw [HF13.out]; exact hi2)]
       simp [B8, List.getElem?_eq_getElem (show i < (frameN b).length by rw [HF13.out]; exact hi2)]
     have hfr : w18.frozen? ⟨g18, i, none⟩ = false := hown18.frozenAt i
     have c5 : w18.cell? ⟨w.heap.size, 5, none⟩ = some (.int .i64 (i : Int)) := HBx18.out.cell 5
     have c6 : w18.cell? ⟨w.heap.size, 6, none⟩ = some (.int .u8 C) := HBx18.out.cell 6
     clear hown18 hg18 hbw18 hat18 hb18)
  obtain ⟨x, hx⟩ : ∃ x, ((frameN b).getD i 0).toNat = x := ⟨_, rfl⟩
  have hx256 : x < 256 := by rw [← hx]; exact UInt8.toNat_lt _
  obtain ⟨c, rfl⟩ := Int.eq_ofNat_of_zero_le hC.1
  have hc256 : c < 256 := by omega
  have hxor := u8_xor_nat x c hx256 hc256
  have HY : Hid (x ^^^ c < 256) := hide (Nat.xor_lt_two_pow (n := 8) hx256 hc256)
  have HNe : Hid (UInt8.ofNat (x ^^^ c) ≠ (frameN b).getD i 0) := by
    intro e
    have e2 := congrArg UInt8.toNat e
    rw [ofNat_toNat _ HY.out, hx] at e2
    have e3 : x ^^^ c = x ^^^ 0 := by rw [e2, Nat.xor_zero]
    have := xorL _ _ _ e3
    exact P1.out (by omega)
  rw [hx] at hcell
  have HX := Lib.hid hx
  clear hx hC
  have HSt : Hid ((w18.setCell ⟨g18, i, none⟩ (.int .u8 ((x ^^^ c : Nat) : Int))).ownsRow w17.heap.size 5 1 (.slice (some ⟨g18, 0, none⟩) n13 c18) n13 (((frameN b).set i (UInt8.ofNat (x ^^^ c))).map B8)) := by
    have h := (HO18.out.stored i (.int .u8 ((x ^^^ c : Nat) : Int))).1
    rw [B8_of _ HY.out, ← List.map_set] at h
    rw [B8_of _ HY.out]
    exact hide h
  have HRt : Hid (Bytes (w18.setCell ⟨g18, i, none⟩ (.int .u8 ((x ^^^ c : Nat) : Int))) w17.heap.size rA rn r) := hide (HR18.out.keep fun p hp => World.cell?_setCell_other _ _ _ _ (fun e => by subst e; simp at hp; omega))
  have HBt : Hid (Below w.heap.size w (w18.setCell ⟨g18, i, none⟩ (.int .u8 ((x ^^^ c : Nat) : Int)))) := hide (HBB18.out.setCell (by simp; omega) _)
  have HST17 : Hid (w17.heap.size ≤ (w18.setCell ⟨g18, i, none⟩ (.int .u8 ((x ^^^ c : Nat) : Int))).heap.size) := by simp; exact hide (by omega)
  have HDam := Lib.hid (frame_damaged b r i (UInt8.ofNat (x ^^^ c)) (by rw [HBl.out]; omega) (by have h := HF13.out; rw [frameN] at h; simp only [List.length_append, be4_len, HBl.out] at h; rw [HBl.out]; omega) (by rw [HF13.out]; exact hi2) HNe.out)
  have HSl : Hid (((frameN b).set i (UInt8.ofNat (x ^^^ c))).length = n13) := by show _ = _; rw [List.length_set, HF13.out]
  obtain ⟨W, hW⟩ : ∃ W, (w18.setCell ⟨g18, i, none⟩ (.int .u8 ((x ^^^ c : Nat) : Int))).drew = W := ⟨_, rfl⟩
  have HO19 : Hid (W.ownsRow w17.heap.size 5 1 (.slice (some ⟨g18, 0, none⟩) n13 c18) n13 (((frameN b).set i (UInt8.ofNat (x ^^^ c))).map B8)) := by rw [← hW]; exact HSt.out
  have HR19 : Hid (Bytes W w17.heap.size rA rn r) := by rw [← hW]; exact HRt.out
  have HB19 : Hid (Below w.heap.size w W) := by rw [← hW]; exact hide HBt.out.drew
  have HS19 : Hid (w17.heap.size ≤ W.heap.size) := by rw [← hW]; exact HST17
  have HWq := Lib.hid hW
  clear hW HSt HRt HBt HST17
  go_region
  all_goals
    try rw [HWq.out]
    have hs19 := HS19.out
    go_wp2_with
      (at_builtin
       refine wpList_app _ ei_byte rfl (.tmp 215) (.tmp 216) rfl w17.heap.size (.slice (some ⟨g18, 0, none⟩) n13 c18) n13 (((frameN b).set i (UInt8.ofNat (x ^^^ c))).map B8) rfl HO19.out w17.heap.size _ rn rc (r.map B8) rfl HR19.out (oneCell_B8 _) (by simp only [maxLen]; omega) (by omega) hs19 ?_
       intro v20 w20 hown20 hg20 hbw20 hat20
       rw [app_map] at hown20
       have HB20 : Hid (Below w.heap.size w w20) := HB19.out.trans (hbw20.mono HBB17.out.size)
       have HO20 := Lib.hid hown20
       clear hown20 hg20 hbw20 hat20)
    obtain ⟨A20, c20, rfl, hc201, hc202, hr20⟩ := own_open HO20.out
    have HZ20 := Lib.hid hr20
    clear hr20
    with_reducible refine (unf_any _ _ _ _ [] 0 6 _ HZ20.out (by omega) hc201 hc202 HDam.out).mono ?_
    rintro e w21 ⟨v21, rfl, _, hb21⟩
    have HB21 := Lib.hid (HB20.out.trans (hb21.mono HB20.out.size))
    clear hb21
    go_wp2_with fail
    go_ret
    exact ⟨rfl, HB21.out⟩


theorem own_codecBack : ownKnob Try.prog.godebug = none := by kernel_rfl
theorem laidOut_codecBack : laidOutB Try.prog = true := by kernel_rfl
set_option maxRecDepth 100000 in
theorem codecBack_lifted (os : Os) (started : os.Started) (H : Type) (enc : TypeId × Value → H) :
    ReturnsInHanded {} Try.checked os 9 .any (Rows.codecBackSpec.pre6 enc Try.prog Try.f9 Rows.codecBackRow.domain false) (Rows.codecBackSpec.post enc Try.prog Try.f9 false true false false) := by
  refine returnsInHanded_of_change (C := Try.checked) own_codecBack started (by kernel_rfl) Try.func9
    (ChangeSpec.witness6 (enc := enc) (C := Try.checked) false ⟨#[], #[.agg #[.int .i64 0, .string ⟨#[]⟩, .slice none 0 0, .slice none 0 0, .slice none 0 0, .int .i64 0, .int .u8 0]], []⟩ 8 (by kernel_rfl) (by kernel_rfl) (by kernel_rfl) (by kernel_rfl)) ?_
  intro W base args ds gs before hval0 hW hcnd _
  have hval : ∀ (j : Nat) t v, Try.f9.params[j]? = some t → args[j]? = some v → Value.okWide Try.prog W .any base t v := hval0
  have hW' := hW
  obtain ⟨p, q, hA0, hV, rfl, hfz, hnd⟩ := hW
  have hA : DataW.TrodAll enc Try.prog W 0 (fun _ => true) true Try.f9.params.toList args.toList ds p := hA0
  rw [Try.params9] at hA hval
  obtain ⟨v0, vs0, d0, ds0, p0, q0, hargs, rfl, rfl, h0, r0⟩ := trodAll_cons hA
  obtain ⟨rfl, rfl, rfl⟩ := trodAll_nil r0
  obtain rfl : args = #[v0] := by cases args; simp_all
  obtain ⟨rfl, rfl⟩ := trodVars_none hV
  obtain ⟨ol, rfl, oll, of⟩ := open_agg Try.underlying48 (by kernel_rfl) (by kernel_rfl) (hval 0 48 v0 rfl rfl) h0
  obtain ⟨u0, u1, u2, u3, u4, u5, u6, rfl⟩ := list_len7 ol oll
  obtain ⟨N, rfl, wN⟩ := field_int Try.underlying3 (of 0 _ _ rfl rfl)
  obtain ⟨S, rfl, hS⟩ := field_string Try.underlying9 (of 1 _ _ rfl rfl)
  obtain ⟨lA, ln, lc, l, rfl, l1, l2, lr, lw⟩ := field_ints Try.underlying38 Try.underlying3 (by kernel_rfl) (of 2 _ _ rfl rfl)
  obtain ⟨bA, bn, bc, b, rfl, b1, b2, br⟩ := field_bytes Try.underlying22 Try.underlying5 (by kernel_rfl) (of 3 _ _ rfl rfl)
  obtain ⟨rA, rn, rc, r, rfl, r1, r2, rr⟩ := field_bytes Try.underlying22 Try.underlying5 (by kernel_rfl) (of 4 _ _ rfl rfl)
  obtain ⟨At, rfl, wAt⟩ := field_int Try.underlying3 (of 5 _ _ rfl rfl)
  obtain ⟨C, rfl, wC⟩ := field_int Try.underlying5 (of 6 _ _ rfl rfl)
  have hN := bounds_i64 wN
  have hAt := bounds_i64 wAt
  have hC : 0 ≤ C ∧ C < 256 := by have := bounds_u8 wC; omega
  refine (codecBack_any W N hN S hS lA ln lc l l1 l2 lr lw bA bn bc b b1 b2 br rA rn rc r r1 r2 rr At hAt C hC).mono fun e W' ⟨he, hb⟩ => ?_
  subst he
  exact ⟨_, rfl, law_post laidOut_codecBack (by kernel_rfl) rfl rfl Try.underlying4 hW' rfl hb⟩

theorem codecBack_holds : Rows.CodecBackSaid :=
  OpenClaim.holds_of_wide 9 Try.f9 rfl rfl rfl rfl rfl rfl rfl ⟨rfl, rfl, rfl, rfl, rfl⟩ rfl rfl rfl rfl rfl (by kernel_rfl) Try.func9 (by kernel_rfl)
    (of_decide_eq_true (by kernel_rfl)) (by unfold Func.isWrapper; rw [if_neg (by decide +kernel)]; exact ⟨rfl, rfl⟩)
    (fun os started H enc _ => codecBack_lifted os started H enc)
#print axioms codecBack_holds
end Go.Proofs.Ytcaeadcpddhdkaa
