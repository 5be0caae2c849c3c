/-
  CodecApart answers true for every input. Its conditions: none.
-/
import Derived.Test.YtcaeadcpddhdkaaCodecA
import Derived.Test.YtcaeadcpddhdkaaRow
namespace Go.Proofs.Ytcaeadcpddhdkaa
open Go.ChangeShapes Go.WideShapes Go.ChangeAt Go.RowKit

theorem ints2 (W : World) (x y : Int) : Ints (W.alloc (.cells #[.int .i64 x, .int .i64 y] 3)) (W.alloc (.cells #[.int .i64 x, .int .i64 y] 3)).heap.size (some ⟨W.heap.size, 0, none⟩) 2 [x, y] := by
  have h := Reads.new W 3 #[.int .i64 x, .int .i64 y] 1 2 rfl
  have e : (W.alloc (.cells #[.int .i64 x, .int .i64 y] 3)).heap.size = W.heap.size + 1 := by simp
  rw [e]
  exact h
theorem plist2 (W : World) (A : Option Addr) (n c : Nat) (b : List UInt8) (hr : Bytes W W.heap.size A n b) (hn : n ≤ 100000) (x y : Int) (hx : -9223372036854775808 ≤ x ∧ x ≤ 9223372036854775807) (hy : -9223372036854775808 ≤ y ∧ y ≤ 9223372036854775807) :
    Calls Try.prog 24 #[.slice A n c, .slice (some ⟨W.heap.size, 0, none⟩) 2 2] (W.alloc (.cells #[.int .i64 x, .int .i64 y] 3)) fun e w' => ∃ v, e = .returned v ∧ OwnB w' W.heap.size v (b ++ listP [x, y]) ∧ Below W.heap.size W w' := by
  refine (plist_any A n c b _ _ _ [x, y] _ ((hr.alloc (Nat.le_refl _) _).more (by simp)) hn (ints2 W x y) (by omega) (by
    intro z hz
    simp only [List.mem_cons, List.not_mem_nil, or_false] at hz
    rcases hz with rfl | rfl
    · exact WalkArith.wf_i64 hx
    · exact WalkArith.wf_i64 hy)).mono ?_
  rintro e w' ⟨v, rfl, ho, hb⟩
  exact ⟨v, rfl, ho.mono (by simp), below_alloc_of hb⟩
theorem rplist2 (W : World) (A : Option Addr) (n c : Nat) (b : List UInt8) (hr : Bytes W W.heap.size A n b) (hn : n ≤ 100000) (x y : Int) (hx : -9223372036854775808 ≤ x ∧ x ≤ 9223372036854775807) (hy : -9223372036854775808 ≤ y ∧ y ≤ 9223372036854775807) :
    Calls Try.prog 26 #[.slice A n c, .slice (some ⟨W.heap.size, 0, none⟩) 2 2] (W.alloc (.cells #[.int .i64 x, .int .i64 y] 3)) fun e w' => ∃ v, e = .returned v ∧ OwnB w' W.heap.size v (b ++ listP [x, y]) ∧ Below W.heap.size W w' := by
  refine (rplist_any A n c b _ _ _ [x, y] _ ((hr.alloc (Nat.le_refl _) _).more (by simp)) hn (ints2 W x y) (by omega) (by
    intro z hz
    simp only [List.mem_cons, List.not_mem_nil, or_false] at hz
    rcases hz with rfl | rfl
    · exact WalkArith.wf_i64 hx
    · exact WalkArith.wf_i64 hy)).mono ?_
  rintro e w' ⟨v, rfl, ho, hb⟩
  exact ⟨v, rfl, ho.mono (by simp), below_alloc_of hb⟩

set_option maxRecDepth 100000 in
set_option maxHeartbeats 1000000 in
theorem codecApart_any (w : World) (bA : Option Addr) (bn bc : Nat) (b : List UInt8) (b1 : bn ≤ bc) (b2 : bc ≤ maxLen) (br : Bytes w w.heap.size bA bn b) (x : Int) (hx : -9223372036854775808 ≤ x ∧ x ≤ 9223372036854775807) (y : Int) (hy : -9223372036854775808 ≤ y ∧ y ≤ 9223372036854775807) :
    Calls Try.prog 6 #[.slice bA bn bc, .int .i64 x, .int .i64 y] w fun e w' => e = .returned (.bool true) ∧ Below w.heap.size w w' := by
  have HR := Lib.hid br
  have HL := Lib.hid br.blen
  clear br
  by_cases h4 : bn ≤ 1000
  · obtain ⟨i0, hi0, hz0, hz1, hz2⟩ := info_parts (show (Try.prog.info? 5).map (fun i => (i.zero, i.size, i.bytes)) = some (some (.int .u8 0), 1, 1) by kernel_rfl)
    have HI := Lib.hid (And.intro hi0 (And.intro hz0 (And.intro hz1 hz2)))
    clear hi0 hz0 hz1 hz2
    go_enter Try.func6, Try.ntmps6
    go_wp2_with fail
    with_reducible refine (alive_any _).mono ?_
    rintro e w1 ⟨rfl, hb1⟩
    have HR1 := Lib.hid (HR.out.now hb1)
    have HB1 := Lib.hid hb1
    clear hb1
    go_wp2_with
      (first
       | (at_make
          refine wpList_make_own _ rfl (.const (.int .i64 0)) (.tmp 21) 22 rfl w1.heap.size 5 i0 (.int .u8 0) 1 Try.underlying22 HI.out.1 HI.out.2.1 HI.out.2.2.1 .i64 .i64 ((bn : Int) + 40) (bn + 40) rfl rfl (by simp) (by rw [HI.out.2.2.2]; omega) (by simp only [maxLen]; omega) (Nat.le_refl _) ?_
          intro w2 hown2 hg2
          have hb2 : Below w1.heap.size w1 w2 := (Below.refl _ _).grown hg2 (Nat.le_refl _) (fun k hk => by cases hk)
          have HR2 := Lib.hid (HR1.out.now hb2)
          have HO2 := Lib.hid hown2
          have HB2 := Lib.hid hb2
          have hs2 := hb2.size
          clear hown2 hg2 hb2)
       | (at_builtin
          refine wpList_app _ ei_byte rfl (.tmp 23) (.tmp 24) rfl w1.heap.size (.slice (some ⟨w1.heap.size, 0, none⟩) 0 (bn + 40)) 0 [] rfl HO2.out w2.heap.size bA bn bc (b.map B8) rfl HR2.out (oneCell_B8 b) (by simp only [maxLen]; omega) (by omega) hs2 ?_
          intro v3 w3 hown3 hg3 hbw3 hat3
          have HO3 : Hid (OwnB w3 w1.heap.size v3 b) := by
            simp only [Nat.zero_add, List.nil_append] at hown3
            exact OwnB.mk' hown3 HL.out.symm rfl
          have HB3 : Hid (Below w1.heap.size w1 w3) := HB2.out.trans hbw3
          have HR3 := Lib.hid (HR1.out.now HB3.out)
          clear hown3 hg3 hbw3 hat3))
    obtain ⟨A3, n3, c3, rfl, HN3, hc31, hc32, hr3⟩ := HO3.out.nam
    have HW3 := Lib.hid hr3
    have hn3 : n3 ≤ 1000 := by rw [← HN3.out, HL.out]; exact h4
    clear hr3 hc31
    have HBB3 := Lib.hid (HB1.out.trans (HB3.out.mono HB1.out.size))
    go_wp2_with fail
    with_reducible refine (Put_any _ _ _ _ _ x x.toNat _ HW3.out (by omega) (Nat.le_refl _) hx.2 rfl).mono ?_
    rintro e w4 ⟨v4, rfl, hown4, hb4⟩
    obtain ⟨A4, n4, c4, rfl, HN4, hc41, hc42, hr4⟩ := hown4.nam
    have HX4 := Lib.hid hr4
    have HW4 := Lib.hid (HW3.out.now hb4)
    have HR4 := Lib.hid (HR3.out.now hb4)
    have HBB4 := Lib.hid (HBB3.out.trans (hb4.mono HBB3.out.size))
    clear hown4 hr4 hb4 hc41
    go_wp2_with fail
    with_reducible refine (Put_any _ _ _ _ _ y y.toNat _ HW4.out (by omega) (Nat.le_refl _) hy.2 rfl).mono ?_
    rintro e w5 ⟨v5, rfl, hown5, hb5⟩
    obtain ⟨A5, n5, c5, rfl, HN5, hc51, hc52, hr5⟩ := hown5.nam
    have HY5 := Lib.hid hr5
    have HX5 := Lib.hid (HX4.out.now hb5)
    have HW5 := Lib.hid (HW4.out.now hb5)
    have HR5 := Lib.hid (HR4.out.now hb5)
    have HBB5 := Lib.hid (HBB4.out.trans (hb5.mono HBB4.out.size))
    clear hown5 hr5 hb5 hc51
    go_wp2_with fail
    with_reducible refine (ptext_any _ _ _ _ _ _ _ HW5.out (by omega) (by decide) (Nat.le_refl _)).mono ?_
    rintro e w6 ⟨v6, rfl, hown6, hb6⟩
    obtain ⟨A6, n6, c6, rfl, HN6, hc61, hc62, hr6⟩ := hown6.nam
    have HU6 := Lib.hid hr6
    have HY6 := Lib.hid (HY5.out.now hb6)
    have HX6 := Lib.hid (HX5.out.now hb6)
    have HW6 := Lib.hid (HW5.out.now hb6)
    have HR6 := Lib.hid (HR5.out.now hb6)
    have HBB6 := Lib.hid (HBB5.out.trans (hb6.mono HBB5.out.size))
    clear hown6 hr6 hb6 hc61
    go_wp2_with fail
    with_reducible refine (ptext_any _ _ _ _ _ _ _ HW6.out (by omega) (by decide) (Nat.le_refl _)).mono ?_
    rintro e w7 ⟨v7, rfl, hown7, hb7⟩
    have hpos7 : 0 < (b ++ textP (ByteArray.mk #[116, 119, 111]).data.toList).length := by
      simp only [List.length_append, textP, List.length_cons, List.length_nil]
      omega
    obtain ⟨l7, hl7⟩ : ∃ l, b ++ textP (ByteArray.mk #[116, 119, 111]).data.toList = l := ⟨_, rfl⟩
    rw [hl7] at hown7 hpos7
    obtain ⟨n7, hn7⟩ : ∃ n, l7.length = n := ⟨_, rfl⟩
    have hown7 := hown7.row hn7
    rw [hn7] at hpos7
    obtain ⟨g7, c7, rfl, hg71, hg72, hc71, hc72⟩ := own_form hown7 hpos7
    have HO7 := Lib.hid hown7
    have HL7 := Lib.hid hn7
    have HU7 := Lib.hid (HU6.out.below hb7)
    have HY7 := Lib.hid (HY6.out.below hb7)
    have HX7 := Lib.hid (HX6.out.below hb7)
    have HW7 := Lib.hid (HW6.out.below hb7)
    have HR7 := Lib.hid (HR6.out.below hb7)
    have HBB7 := Lib.hid (HBB6.out.trans (hb7.mono HBB6.out.size))
    have hs7 := hb7.size
    have hsw6 := HBB6.out.size
    have hmx : n7 ≤ maxLen := Nat.le_trans hc71 hc72
    unfold maxLen at hmx
    clear hown7 hb7 hl7 hn7
    go_wp2_with fail
    with_reducible refine (plist2 w7 _ _ _ b (HW7.out.more hs7) (by omega) x y hx hy).mono ?_
    rintro e w8 ⟨v8, rfl, hown8, hb8⟩
    obtain ⟨A8, n8, c8, rfl, HN8, hc81, hc82, hr8⟩ := hown8.nam
    have HP8 := Lib.hid hown8
    have HO8 := Lib.hid (own_below HO7.out hb8 (Nat.le_refl _))
    have HU8 := Lib.hid (HU7.out.below (hb8.mono hs7))
    have HY8 := Lib.hid (HY7.out.below (hb8.mono hs7))
    have HX8 := Lib.hid (HX7.out.below (hb8.mono hs7))
    have HW8 := Lib.hid (HW7.out.below (hb8.mono hs7))
    have HR8 := Lib.hid (HR7.out.below (hb8.mono hs7))
    have HBB8 := Lib.hid (HBB7.out.trans (hb8.mono HBB7.out.size))
    have hs8 := hb8.size
    clear hown8 hb8 hr8 hc81
    go_wp2_with fail
    with_reducible refine (plist2 w8 _ _ _ b (HW8.out.more (by omega)) (by omega) y x hy hx).mono ?_
    rintro e w9 ⟨v9, rfl, hown9, hb9⟩
    obtain ⟨A9, n9, c9, rfl, HN9, hc91, hc92, hr9⟩ := hown9.nam
    have HQ9 := Lib.hid hown9
    have HP9 := Lib.hid (own_below HP8.out hb9 (Nat.le_refl _))
    have HO9 := Lib.hid (own_below HO8.out hb9 (Nat.le_refl _))
    have hs6 : w6.heap.size ≤ w8.heap.size := by omega
    have HU9 := Lib.hid (HU8.out.below (hb9.mono hs6))
    have HY9 := Lib.hid (HY8.out.below (hb9.mono hs6))
    have HX9 := Lib.hid (HX8.out.below (hb9.mono hs6))
    have HW9 := Lib.hid (HW8.out.below (hb9.mono hs6))
    have HR9 := Lib.hid (HR8.out.below (hb9.mono hs6))
    have HBB9 := Lib.hid (HBB8.out.trans (hb9.mono HBB8.out.size))
    have hs9 := hb9.size
    clear hown9 hb9 hr9 hc91
    have hcell : w9.cell? ⟨g7, 0, none⟩ = some (.int .u8 ((l7.getD 0 0).toNat : Int)) := by
      rw [HO9.out.cellAt 0 (by omega), List.getElem?_map, List.getElem?_eq_getElem (by rw [HL7.out]; exact hpos7)]
      simp [B8, List.getElem?_eq_getElem (show 0 < l7.length by rw [HL7.out]; exact hpos7)]
    have hfr : w9.frozen? ⟨g7, 0, none⟩ = false := HO9.out.frozenAt 0
    have HST : Hid (∀ u p, w6.heap.size ≤ g7 → Addr.block p < w6.heap.size → (w9.setCell ⟨g7, 0, none⟩ u).cell? p = w9.cell? p) := fun u p h1 h2 => World.cell?_setCell_other _ _ _ _ (fun e => by subst e; simp at h2; omega)
    have HP10 : Hid (∀ u, OwnB (w9.setCell ⟨g7, 0, none⟩ u) w7.heap.size (.slice A8 n8 c8) (b ++ listP [x, y])) := fun u => own_setCell HP9.out (fun e => by have := HP9.out.lt _ e; simp at this; omega) u
    have HQ10 : Hid (∀ u, OwnB (w9.setCell ⟨g7, 0, none⟩ u) w8.heap.size (.slice A9 n9 c9) (b ++ listP [y, x])) := fun u => own_setCell HQ9.out (fun e => by have := HQ9.out.lt _ e; simp at this; omega) u
    have HBB10 : Hid (∀ u, Below w.heap.size w (w9.setCell ⟨g7, 0, none⟩ u)) := fun u => HBB9.out.setCell (by simp; omega) u
    have hxx : (l7.getD 0 0).toNat < 256 := UInt8.toNat_lt _
    generalize (l7.getD 0 0).toNat = x0 at *
    go_wp2_with fail
    obtain ⟨w10, hw10⟩ : ∃ W, w9.setCell ⟨g7, 0, none⟩ (.int .u8 (((x0 : Int) + 1) % 256)) = W := ⟨_, rfl⟩
    have hs10 : w6.heap.size ≤ w10.heap.size := by rw [← hw10]; simp; omega
    have KK : ∀ {A : Option Addr} {n : Nat} {xs : List Value}, Reads w9 w6.heap.size 1 A n xs → Reads w10 w10.heap.size 1 A n xs := fun h => by
      rw [← hw10] at hs10 ⊢
      exact (h.keep (fun p hp => HST.out _ p hg71 hp)).more hs10
    have HW10 := Lib.hid (KK HW9.out)
    have HR10 := Lib.hid (KK HR9.out)
    have HX10 := Lib.hid (KK HX9.out)
    have HY10 := Lib.hid (KK HY9.out)
    have HU10 := Lib.hid (KK HU9.out)
    have HPP : Hid (OwnB w10 w7.heap.size (.slice A8 n8 c8) (b ++ listP [x, y])) := by rw [← hw10]; exact hide (HP10.out _)
    have HQQ : Hid (OwnB w10 w8.heap.size (.slice A9 n9 c9) (b ++ listP [y, x])) := by rw [← hw10]; exact hide (HQ10.out _)
    have HBB : Hid (Below w.heap.size w w10) := by rw [← hw10]; exact hide (HBB10.out _)
    obtain ⟨_, _, _, e1, hl8, _, _, hrp⟩ := HPP.out.nam
    injection e1 with e1 e2 e3
    subst e1
    subst e2
    obtain ⟨_, _, _, f1, hl9, _, _, hrq⟩ := HQQ.out.nam
    injection f1 with f1 f2 f3
    subst f1
    subst f2
    have HP10' := Lib.hid hrp
    have HQ10' := Lib.hid hrq
    rw [hw10]
    clear hw10 KK HST HP10 HQ10 HBB10 hcell hfr e3 f3 hrp hrq hl8 hl9
    with_reducible refine (sameb_any true _ _ _ _ _ _ _ _ _ _ _ HW10.out HR10.out (by simp)).mono ?_
    rintro e w' ⟨rfl, rfl⟩
    go_wp2_with fail
    with_reducible refine (rPut_any _ _ _ _ _ x x.toNat _ HR10.out (by omega) (Nat.le_refl _) hx.2 rfl).mono ?_
    rintro e w11 ⟨v11, rfl, hown11, hb11⟩
    obtain ⟨A11, n11, c11, rfl, HN11, hc111, hc112, hr11⟩ := hown11.nam
    have HZ11 := Lib.hid hr11
    have HR11 := Lib.hid (HR10.out.now hb11)
    have HX11 := Lib.hid (HX10.out.now hb11)
    have HY11 := Lib.hid (HY10.out.now hb11)
    have HU11 := Lib.hid (HU10.out.now hb11)
    have HP11 := Lib.hid (Reads.now HP10'.out hb11)
    have HQ11 := Lib.hid (Reads.now HQ10'.out hb11)
    have HB11 := Lib.hid (HBB.out.trans (hb11.mono HBB.out.size))
    clear hown11 hb11 hr11 hc111
    go_wp2_with fail
    with_reducible refine (sameb_any true _ _ _ _ _ _ _ _ _ _ _ HX11.out HZ11.out (by simp)).mono ?_
    rintro e w' ⟨rfl, rfl⟩
    go_wp2_with fail
    with_reducible refine (rPut_any _ _ _ _ _ y y.toNat _ HR11.out (by omega) (Nat.le_refl _) hy.2 rfl).mono ?_
    rintro e w12 ⟨v12, rfl, hown12, hb12⟩
    obtain ⟨A12, n12, c12, rfl, HN12, hc121, hc122, hr12⟩ := hown12.nam
    have HZ12 := Lib.hid hr12
    have HR12 := Lib.hid (HR11.out.now hb12)
    have HY12 := Lib.hid (HY11.out.now hb12)
    have HU12 := Lib.hid (HU11.out.now hb12)
    have HP12 := Lib.hid (HP11.out.now hb12)
    have HQ12 := Lib.hid (HQ11.out.now hb12)
    have HB12 := Lib.hid (HB11.out.trans (hb12.mono HB11.out.size))
    clear hown12 hb12 hr12 hc121
    go_wp2_with fail
    with_reducible refine (sameb_any true _ _ _ _ _ _ _ _ _ _ _ HY12.out HZ12.out (by simp)).mono ?_
    rintro e w' ⟨rfl, rfl⟩
    go_wp2_with fail
    with_reducible refine (rptext_any _ _ _ _ _ _ _ HR12.out (by omega) (by decide) (Nat.le_refl _)).mono ?_
    rintro e w13 ⟨v13, rfl, hown13, hb13⟩
    obtain ⟨A13, n13, c13, rfl, HN13, hc131, hc132, hr13⟩ := hown13.nam
    have HZ13 := Lib.hid hr13
    have HR13 := Lib.hid (HR12.out.now hb13)
    have HU13 := Lib.hid (HU12.out.now hb13)
    have HP13 := Lib.hid (HP12.out.now hb13)
    have HQ13 := Lib.hid (HQ12.out.now hb13)
    have HB13 := Lib.hid (HB12.out.trans (hb13.mono HB12.out.size))
    clear hown13 hb13 hr13 hc131
    go_wp2_with fail
    with_reducible refine (sameb_any true _ _ _ _ _ _ _ _ _ _ _ HU13.out HZ13.out (by simp)).mono ?_
    rintro e w' ⟨rfl, rfl⟩
    go_wp2_with fail
    with_reducible refine (rplist2 w13 _ _ _ b HR13.out (by omega) x y hx hy).mono ?_
    rintro e w14 ⟨v14, rfl, hown14, hb14⟩
    obtain ⟨A14, n14, c14, rfl, HN14, hc141, hc142, hr14⟩ := hown14.nam
    have HZ14 := Lib.hid hr14
    have HR14 := Lib.hid (HR13.out.now hb14)
    have HP14 := Lib.hid (HP13.out.now hb14)
    have HQ14 := Lib.hid (HQ13.out.now hb14)
    have HB14 := Lib.hid (HB13.out.trans (hb14.mono HB13.out.size))
    clear hown14 hb14 hr14 hc141
    go_wp2_with fail
    with_reducible refine (sameb_any true _ _ _ _ _ _ _ _ _ _ _ HP14.out HZ14.out (by simp)).mono ?_
    rintro e w' ⟨rfl, rfl⟩
    go_wp2_with fail
    with_reducible refine (rplist2 w14 _ _ _ b HR14.out (by omega) y x hy hx).mono ?_
    rintro e w15 ⟨v15, rfl, hown15, hb15⟩
    obtain ⟨A15, n15, c15, rfl, HN15, hc151, hc152, hr15⟩ := hown15.nam
    have HZ15 := Lib.hid hr15
    have HQ15 := Lib.hid (HQ14.out.now hb15)
    have HB15 := Lib.hid (HB14.out.trans (hb15.mono HB14.out.size))
    clear hown15 hb15 hr15 hc151
    go_wp2_with fail
    with_reducible refine (sameb_any true _ _ _ _ _ _ _ _ _ _ _ HQ15.out HZ15.out (by simp)).mono ?_
    rintro e w' ⟨rfl, rfl⟩
    go_wp2_with fail
    go_ret
    exact ⟨rfl, HB15.out⟩
  · go_enter Try.func6, Try.ntmps6
    go_wp2_with fail
    with_reducible refine (alive_any _).mono ?_
    rintro e w1 ⟨rfl, hb1⟩
    go_wp2_with fail
    go_ret
    exact ⟨rfl, hb1⟩


theorem own_codecApart : ownKnob Try.prog.godebug = none := by kernel_rfl
theorem laidOut_codecApart : laidOutB Try.prog = true := by kernel_rfl
set_option maxRecDepth 100000 in
theorem codecApart_lifted (os : Os) (started : os.Started) (H : Type) (enc : TypeId × Value → H) :
    ReturnsInHanded {} Try.checked os 6 .any (Rows.codecApartSpec.pre6 enc Try.prog Try.f6 Rows.codecApartRow.domain false) (Rows.codecApartSpec.post enc Try.prog Try.f6 false true false false) := by
  refine returnsInHanded_of_change (C := Try.checked) own_codecApart started (by kernel_rfl) Try.func6
    (ChangeSpec.witness6 (enc := enc) (C := Try.checked) false ⟨#[], #[.slice none 0 0, .int .i64 0, .int .i64 0], []⟩ 8 (by kernel_rfl) (by kernel_rfl) (by kernel_rfl) (by kernel_rfl)) ?_
  intro W base args ds gs before hval0 hW hcnd _
  have hval : ∀ (j : Nat) t v, Try.f6.params[j]? = some t → args[j]? = some v → Value.okWide Try.prog W .any base t v := hval0
  have hW' := hW
  obtain ⟨p, q, hA0, hV, rfl, hfz, hnd⟩ := hW
  have hA : DataW.TrodAll enc Try.prog W 0 (fun _ => true) true Try.f6.params.toList args.toList ds p := hA0
  rw [Try.params6] at hA hval
  obtain ⟨v0, vs0, d0, ds0, p0, q0, hargs, rfl, rfl, h0, r0⟩ := trodAll_cons hA
  obtain ⟨v1, vs1, d1, ds1, p1, q1, rfl, rfl, rfl, h1, r1⟩ := trodAll_cons r0
  obtain ⟨v2, vs2, d2, ds2, p2, q2, rfl, rfl, rfl, h2, r2⟩ := trodAll_cons r1
  obtain ⟨rfl, rfl, rfl⟩ := trodAll_nil r2
  obtain rfl : args = #[v0, v1, v2] := by cases args; simp_all
  obtain ⟨rfl, rfl⟩ := trodVars_none hV
  obtain ⟨bA, bn, bc, b, rfl, b1, b2, br⟩ := open_bytes Try.underlying22 Try.underlying5 (by kernel_rfl) (hval 0 22 v0 rfl rfl) h0
  obtain ⟨x, rfl, x0, x1⟩ := open_i64 Try.underlying3 (hval 1 3 v1 rfl rfl) h1
  obtain ⟨y, rfl, y0, y1⟩ := open_i64 Try.underlying3 (hval 2 3 v2 rfl rfl) h2
  refine (codecApart_any W bA bn bc b b1 b2 br x ⟨x0, x1⟩ y ⟨y0, y1⟩).mono fun e W' ⟨he, hb⟩ => ?_
  subst he
  exact ⟨_, rfl, law_post laidOut_codecApart (by kernel_rfl) rfl rfl Try.underlying4 hW' rfl hb⟩

theorem codecApart_holds : Rows.CodecApartSaid :=
  OpenClaim.holds_of_wide 6 Try.f6 rfl rfl rfl rfl rfl rfl rfl ⟨rfl, rfl, rfl, rfl, rfl⟩ rfl rfl rfl rfl rfl (by kernel_rfl) Try.func6 (by kernel_rfl)
    (of_decide_eq_true (by kernel_rfl)) (by unfold Func.isWrapper; rw [if_neg (by decide +kernel)]; exact ⟨rfl, rfl⟩)
    (fun os started H enc _ => codecApart_lifted os started H enc)
#print axioms codecApart_holds
end Go.Proofs.Ytcaeadcpddhdkaa
