/-
  BulletinBounds answers true for every input. Its conditions: none.
-/
import Derived.Test.YtmbdlnimegdigaaRows
import Derived.Test.YtmbdlnimegdigaaRowS
import Derived.Test.YtmbdlnimegdigaaBulG
import Derived.Test.YtmbdlnimegdigaaBulK
import Derived.Test.YtmbdlnimegdigaaBulP
import Derived.Test.YtmbdlnimegdigaaBulV
namespace Go.Proofs.Ytmbdlnimegdigaa
open Go.ChangeShapes Go.WideShapes Go.ChangeAt Go.RowKit

set_option maxRecDepth 100000 in
set_option maxHeartbeats 4000000 in
theorem bulletinBounds_any (w : World) (lA : Option Addr) (ln lc : Nat) (l : List Bu) (l1 : ln ≤ lc) (l2 : lc ≤ maxLen) (lr : Buls w w.heap.size lA ln l) (lw : ∀ b ∈ l, BuW b) (pz pl ph pt : Int) (wpz : (Lit.int .i64 pz).wf = true) (wpl : (Lit.int .i64 pl).wf = true) (wph : (Lit.int .i64 ph).wf = true) (wpt : (Lit.int .i64 pt).wf = true) (q0 q1 : Int) (wq0 : (Lit.int .i64 q0).wf = true) (wq1 : (Lit.int .i64 q1).wf = true) :
    Calls Try.prog 7 #[.slice lA ln lc, .agg #[.int .i64 pz, .int .i64 pl, .int .i64 ph, .int .i64 pt], .agg #[.int .i64 q0, .int .i64 q1]] w fun e w' => e = .returned (.bool true) ∧ Below w.heap.size w w' := by
  have HR0 := Lib.hid lr
  have HB0 : Hid (Below w.heap.size w w) := hide (Below.refl _ _)
  have HL := Lib.hid lr.len
  clear lr
  have hln : ln ≤ maxLen := Nat.le_trans l1 l2
  obtain ⟨r, hr⟩ : ∃ r, rightB l = r := ⟨_, rfl⟩
  have HF := Lib.hid hr
  clear hr lw
  go_enter Try.func7, Try.ntmps7
  obtain ⟨w0, rfl⟩ : ∃ w0 : World, w0 = w := ⟨_, rfl⟩
  go_wp2_with
    (first
     | (refine wpList_box_blk rfl 37 (.tmp 1) rfl #[.int .i64 pz, .int .i64 pl, .int .i64 ph, .int .i64 pt] rfl ?_
        intro w1 hx1 hb1 hsz1
        have HP1 := Lib.hid hx1
        have HB1 := Lib.hid (HB0.out.trans (hb1.mono HB0.out.size))
        have HR1 := Lib.hid (HR0.out.now hb1)
        have hlt1 := hx1.lt
        clear hx1 hb1 hsz1)
     | (refine wpList_box_blk rfl 43 (.tmp 2) rfl #[.int .i64 q0, .int .i64 q1] rfl ?_
        intro w2 hx2 hb2 hsz2
        have HX2 := Lib.hid hx2
        have HB2 := Lib.hid (HB1.out.trans (hb2.mono HB1.out.size))
        have HR2 := Lib.hid (HR1.out.now hb2)
        have HP2 := Lib.hid (HP1.out.below hb2 hlt1)
        have hlt2 := Nat.lt_of_lt_of_le hlt1 hb2.size
        have hlx2 := hx2.lt
        clear hx2 hb2 hsz2))
  with_reducible refine (alive_any _).mono ?_
  rintro e w3 ⟨rfl, hb3⟩
  have HB3 := Lib.hid (HB2.out.trans (hb3.mono HB2.out.size))
  have HR3 := Lib.hid (HR2.out.now hb3)
  have HP3 := Lib.hid (HP2.out.below hb3 hlt2)
  have hlt3 := Nat.lt_of_lt_of_le hlt2 hb3.size
  have HX3 := Lib.hid (HX2.out.below hb3 hlx2)
  have hlx3 := Nat.lt_of_lt_of_le hlx2 hb3.size
  clear hb3
  go_wp2_with fail
  with_reducible refine (rgt_any _ _ _ _ r _ HR3.out HF.out).mono ?_
  rintro e w4 ⟨rfl, hb4⟩
  have HB4 := Lib.hid (HB3.out.trans (hb4.mono HB3.out.size))
  have HR4 := Lib.hid (HR3.out.now hb4)
  have HP4 := Lib.hid (HP3.out.below hb4 hlt3)
  have hlt4 := Nat.lt_of_lt_of_le hlt3 hb4.size
  have HX4 := Lib.hid (HX3.out.below hb4 hlx3)
  have hlx4 := Nat.lt_of_lt_of_le hlx3 hb4.size
  clear hb4
  cases r with
  | false =>
    go_wp2_with fail
    go_ret
    exact ⟨rfl, HB4.out⟩
  | true =>
    have hF : rightN l = 0 := by have h := HF.out; simp [rightB] at h; exact h.2
    obtain ⟨v, hv⟩ : ∃ v, worN l pt = v := ⟨_, rfl⟩
    obtain ⟨cv, hcv⟩ : ∃ v, curN l pt = v := ⟨_, rfl⟩
    obtain ⟨n, hn⟩ : ∃ v, levN l pz pl ph pt = v := ⟨_, rfl⟩
    obtain ⟨lo, hlo⟩ : ∃ a, (if q0 < pl then q0 else pl) = a := ⟨_, rfl⟩
    obtain ⟨hi, hhi⟩ : ∃ a, (if ph < q1 then q1 else ph) = a := ⟨_, rfl⟩
    have hlo1 : lo ≤ pl := by rw [← hlo]; split <;> omega
    have hhi1 : ph ≤ hi := by rw [← hhi]; split <;> omega
    obtain ⟨d, hd⟩ : ∃ v, levN l pz lo hi pt = v := ⟨_, rfl⟩
    have f1 : 0 ≤ v := hv ▸ worN_nn l pt
    have f2 : v ≤ 5 := hv ▸ worN_5 hF pt
    have f3 : (0 < v) ↔ (0 < cv) := hv ▸ hcv ▸ wor_pos hF pt
    have f4 : n ≤ v := hv ▸ hn ▸ levN_wor l pz pl ph pt
    have f5 : 0 ≤ n := hn ▸ levN_nn l pz pl ph pt
    have f6 : n ≤ d := hn ▸ hd ▸ lev_wide pz pl ph _ _ pt hlo1 hhi1
    have hz : levN l 0 pl ph pt = 0 := lev_zero hF pl ph pt
    have HQ : Hid (∀ W : World, Buls W W.heap.size lA ln l → Calls Try.prog 23 #[.slice lA ln lc, .int .i64 0, .int .i64 pl, .int .i64 ph, .int .i64 pt] W fun e w' => e = .returned (.int .i64 0) ∧ Below W.heap.size W w') := fun W hW => by have h := lvl_any lA ln lc l 0 pl ph pt W hW hln; rw [hz] at h; exact h
    clear hz
    have HM : Hid (mostN l pt 32 = v) := hv ▸ most_all hF pt
    have HW : Hid (∀ W : World, Buls W W.heap.size lA ln l → Calls Try.prog 21 #[.slice lA ln lc, .int .i64 pt] W fun e w' => e = .returned (.int .i64 v) ∧ Below W.heap.size W w') := fun W hW => hv ▸ wor_any lA ln lc l pt W hW hln
    have HC : Hid (∀ W : World, Buls W W.heap.size lA ln l → Calls Try.prog 17 #[.slice lA ln lc, .int .i64 pt] W fun e w' => e = .returned (.int .i64 cv) ∧ Below W.heap.size W w') := fun W hW => hcv ▸ cur_any lA ln lc l pt W hW hln
    have HN : Hid (∀ W : World, Buls W W.heap.size lA ln l → Calls Try.prog 19 #[.slice lA ln lc, .agg #[.int .i64 pz, .int .i64 pl, .int .i64 ph, .int .i64 pt]] W fun e w' => e = .returned (.int .i64 n) ∧ Below W.heap.size W w') := fun W hW => hn ▸ level_any lA ln lc l pz pl ph pt W hW hln
    have HD : Hid (∀ W : World, Buls W W.heap.size lA ln l → Calls Try.prog 23 #[.slice lA ln lc, .int .i64 pz, .int .i64 lo, .int .i64 hi, .int .i64 pt] W fun e w' => e = .returned (.int .i64 d) ∧ Below W.heap.size W w') := fun W hW => hd ▸ lvl_any lA ln lc l pz lo hi pt W hW hln
    have HLo := Lib.hid hlo
    have HHi := Lib.hid hhi
    clear hv hcv hn hd hF HF hlo hhi hlo1 hhi1
    have HFs := Lib.hid (And.intro f1 (And.intro f2 (And.intro f3 (And.intro f4 (And.intro f5 f6)))))
    clear f1 f2 f3 f4 f5 f6
    have p4_0 : w4.cell? ⟨w0.heap.size, 0, none⟩ = some (.int .i64 pz) := HP4.out.cell 0
    have p4_1 : w4.cell? ⟨w0.heap.size, 1, none⟩ = some (.int .i64 pl) := HP4.out.cell 1
    have p4_2 : w4.cell? ⟨w0.heap.size, 2, none⟩ = some (.int .i64 ph) := HP4.out.cell 2
    have p4_3 : w4.cell? ⟨w0.heap.size, 3, none⟩ = some (.int .i64 pt) := HP4.out.cell 3
    go_wp2_with fail
    with_reducible refine (HW.out _ HR4.out).mono ?_
    rintro e w5 ⟨rfl, hb5⟩
    have HB5 := Lib.hid (HB4.out.trans (hb5.mono HB4.out.size))
    have HR5 := Lib.hid (HR4.out.now hb5)
    have HP5 := Lib.hid (HP4.out.below hb5 hlt4)
    have hlt5 := Nat.lt_of_lt_of_le hlt4 hb5.size
    have HX5 := Lib.hid (HX4.out.below hb5 hlx4)
    have hlx5 := Nat.lt_of_lt_of_le hlx4 hb5.size
    clear hb5
    clear p4_0 p4_1 p4_2 p4_3
    go_wp2_with fail
    go_loopw [8, 9] (fun m z wr => ∃ k : Nat, k ≤ 32 ∧ z = .int .i64 ((k : Int) + 1) ∧ m = .int .i64 (mostN l pt k) ∧ Below w5.heap.size w5 wr) (fun _ z _ => 33 - (intOf z).toNat)
    case atStart => exact ⟨0, by omega, rfl, rfl, Below.refl _ _⟩
    case round =>
      obtain ⟨k, hk, rfl, rfl, hb6⟩ := hrel
      obtain ⟨w6, rfl⟩ : ∃ w6 : World, w6 = wr := ⟨_, rfl⟩
      have HB6 := Lib.hid (HB5.out.trans (hb6.mono HB5.out.size))
      have HR6 := Lib.hid (HR5.out.now hb6)
      have HP6 := Lib.hid (HP5.out.below hb6 hlt5)
      have HX6 := Lib.hid (HX5.out.below hb6 hlx5)
      have hlt6 := Nat.lt_of_lt_of_le hlt5 hb6.size
      have hlx6 := Nat.lt_of_lt_of_le hlx5 hb6.size
      have HL6 := Lib.hid hb6
      clear hb6
      have p6_0 : w6.cell? ⟨w0.heap.size, 0, none⟩ = some (.int .i64 pz) := HP6.out.cell 0
      have p6_1 : w6.cell? ⟨w0.heap.size, 1, none⟩ = some (.int .i64 pl) := HP6.out.cell 1
      have p6_2 : w6.cell? ⟨w0.heap.size, 2, none⟩ = some (.int .i64 ph) := HP6.out.cell 2
      have p6_3 : w6.cell? ⟨w0.heap.size, 3, none⟩ = some (.int .i64 pt) := HP6.out.cell 3
      have x6_0 : w6.cell? ⟨w1.heap.size, 0, none⟩ = some (.int .i64 q0) := HX6.out.cell 0
      have x6_1 : w6.cell? ⟨w1.heap.size, 1, none⟩ = some (.int .i64 q1) := HX6.out.cell 1
      by_cases hlt : k < 32
      · obtain ⟨s, hs⟩ : ∃ s, levN l ((k : Int) + 1) 0 6000 pt = s := ⟨_, rfl⟩
        have HS : Hid (∀ W : World, Buls W W.heap.size lA ln l → Calls Try.prog 23 #[.slice lA ln lc, .int .i64 ((k : Int) + 1), .int .i64 0, .int .i64 6000, .int .i64 pt] W fun e w' => e = .returned (.int .i64 s) ∧ Below W.heap.size W w') := fun W hW => hs ▸ lvl_any lA ln lc l ((k : Int) + 1) 0 6000 pt W hW hln
        have HN1 : Hid (mostN l pt (k + 1) = max (mostN l pt k) s) := by show _ = _; rw [← hs]; rfl
        clear hs
        generalize mostN l pt k = m at *
        go_wp2_with fail
        with_reducible refine (HS.out _ HR6.out).mono ?_
        rintro e w7 ⟨rfl, hb7⟩
        have HB7 := Lib.hid (HL6.out.trans (hb7.mono HL6.out.size))
        clear hb7
        go_wp2_with fail
        go_roundw
        case rel => exact ⟨k + 1, by omega, by go_num, by rw [HN1.out, show (if m < s then s else m) = max m s by split <;> omega], HB7.out⟩
        case measure => simp [intOf]; omega
      · obtain rfl : k = 32 := by omega
        rw [HM.out]
        go_wp2_with fail
        with_reducible refine (HN.out _ HR6.out).mono ?_
        rintro e w7 ⟨rfl, hb7⟩
        have HB7 := Lib.hid (HB6.out.trans (hb7.mono HB6.out.size))
        have HR7 := Lib.hid (HR6.out.now hb7)
        have HP7 := Lib.hid (HP6.out.below hb7 hlt6)
        have HX7 := Lib.hid (HX6.out.below hb7 hlx6)
        have hlt7 := Nat.lt_of_lt_of_le hlt6 hb7.size
        clear hb7
        have p7_0 : w7.cell? ⟨w0.heap.size, 0, none⟩ = some (.int .i64 pz) := HP7.out.cell 0
        have p7_1 : w7.cell? ⟨w0.heap.size, 1, none⟩ = some (.int .i64 pl) := HP7.out.cell 1
        have p7_2 : w7.cell? ⟨w0.heap.size, 2, none⟩ = some (.int .i64 ph) := HP7.out.cell 2
        have p7_3 : w7.cell? ⟨w0.heap.size, 3, none⟩ = some (.int .i64 pt) := HP7.out.cell 3
        have x7_0 : w7.cell? ⟨w1.heap.size, 0, none⟩ = some (.int .i64 q0) := HX7.out.cell 0
        have x7_1 : w7.cell? ⟨w1.heap.size, 1, none⟩ = some (.int .i64 q1) := HX7.out.cell 1
        have hlo := HLo.out
        have hhi := HHi.out
        go_wp2_with fail
        clear hlo hhi
        with_reducible refine (HD.out _ HR7.out).mono ?_
        rintro e w8 ⟨rfl, hb8⟩
        have HB8 := Lib.hid (HB7.out.trans (hb8.mono HB7.out.size))
        have HR8 := Lib.hid (HR7.out.now hb8)
        have HP8 := Lib.hid (HP7.out.below hb8 hlt7)
        have hlt8 := Nat.lt_of_lt_of_le hlt7 hb8.size
        clear hb8
        obtain ⟨f1, f2, f3, f4, f5, f6⟩ := HFs.out
        have p8_0 : w8.cell? ⟨w0.heap.size, 0, none⟩ = some (.int .i64 pz) := HP8.out.cell 0
        have p8_1 : w8.cell? ⟨w0.heap.size, 1, none⟩ = some (.int .i64 pl) := HP8.out.cell 1
        have p8_2 : w8.cell? ⟨w0.heap.size, 2, none⟩ = some (.int .i64 ph) := HP8.out.cell 2
        have p8_3 : w8.cell? ⟨w0.heap.size, 3, none⟩ = some (.int .i64 pt) := HP8.out.cell 3
        have g1 : (v == v) = true := beq_self_eq_true v
        have g2 : decide (v ≥ 0) = true := decide_eq_true f1
        have g3 : decide (v ≤ 5) = true := decide_eq_true f2
        go_wp2_with fail
        with_reducible refine (HC.out _ HR8.out).mono ?_
        rintro e w9 ⟨rfl, hb9⟩
        have HB9 := Lib.hid (HB8.out.trans (hb9.mono HB8.out.size))
        have HR9 := Lib.hid (HR8.out.now hb9)
        have HP9 := Lib.hid (HP8.out.below hb9 hlt8)
        clear hb9
        have p9_0 : w9.cell? ⟨w0.heap.size, 0, none⟩ = some (.int .i64 pz) := HP9.out.cell 0
        have p9_1 : w9.cell? ⟨w0.heap.size, 1, none⟩ = some (.int .i64 pl) := HP9.out.cell 1
        have p9_2 : w9.cell? ⟨w0.heap.size, 2, none⟩ = some (.int .i64 ph) := HP9.out.cell 2
        have p9_3 : w9.cell? ⟨w0.heap.size, 3, none⟩ = some (.int .i64 pt) := HP9.out.cell 3
        have g4 : (decide (v > 0) == decide (cv > 0)) = true := beq_iff_eq.2 (decide_eq_decide.2 f3)
        have g5 : decide (n ≤ v) = true := decide_eq_true f4
        have g6 : decide (n ≥ 0) = true := decide_eq_true f5
        have g7 : decide (d ≥ n) = true := decide_eq_true f6
        go_wp2_with fail
        with_reducible refine (HQ.out _ HR9.out).mono ?_
        rintro e w10 ⟨rfl, hb10⟩
        have HB10 := Lib.hid (HB9.out.trans (hb10.mono HB9.out.size))
        clear hb10
        go_wp2_with fail
        go_ret
        exact ⟨ret_b (by simp), HB10.out⟩


theorem own_bulletinBounds : ownKnob Try.prog.godebug = none := by kernel_rfl
theorem laidOut_bulletinBounds : laidOutB Try.prog = true := by kernel_rfl
set_option maxRecDepth 100000 in
theorem bulletinBounds_lifted (os : Os) (started : os.Started) (H : Type) (enc : TypeId × Value → H) :
    ReturnsInHanded {} Try.checked os 7 .any (Rows.bulletinBoundsSpec.pre6 enc Try.prog Try.f7 Rows.bulletinBoundsRow.domain false) (Rows.bulletinBoundsSpec.post enc Try.prog Try.f7 false true false false) := by
  refine returnsInHanded_of_change (C := Try.checked) own_bulletinBounds started (by kernel_rfl) Try.func7
    (ChangeSpec.witness6 (enc := enc) (C := Try.checked) false ⟨#[], #[.slice none 0 0, .agg #[.int .i64 0, .int .i64 0, .int .i64 0, .int .i64 0], .agg #[.int .i64 0, .int .i64 0]], []⟩ 8 (by kernel_rfl) (by kernel_rfl) (by kernel_rfl) (by kernel_rfl)) ?_
  intro W base args ds gs before hval0 hW hcnd _
  have hval : ∀ (j : Nat) t v, Try.f7.params[j]? = some t → args[j]? = some v → Value.okWide Try.prog W .any base t v := hval0
  have hW' := hW
  obtain ⟨p, q, hA0, hV, rfl, hfz, hnd⟩ := hW
  have hA : DataW.TrodAll enc Try.prog W 0 (fun _ => true) true Try.f7.params.toList args.toList ds p := hA0
  rw [Try.params7] at hA hval
  obtain ⟨v0, vs0, d0, ds0, p0, q0, hargs, rfl, rfl, h0, r0⟩ := trodAll_cons hA
  obtain ⟨v1, vs1, d1, ds1, p1, q1, rfl, rfl, rfl, h1, r1⟩ := trodAll_cons r0
  obtain ⟨v2, vs2, d2, ds2, p2, q2, rfl, rfl, rfl, h2, r2⟩ := trodAll_cons r1
  obtain ⟨rfl, rfl, rfl⟩ := trodAll_nil r2
  obtain rfl : args = #[v0, v1, v2] := by cases args; simp_all
  obtain ⟨rfl, rfl⟩ := trodVars_none hV
  obtain ⟨lA, ln, lc, l, rfl, l1, l2, lr, lw⟩ := open_buls (hval 0 22 v0 rfl rfl) h0
  obtain ⟨ol, rfl, oll, of⟩ := open_agg Try.underlying37 (by kernel_rfl) (by kernel_rfl) (hval 1 37 v1 rfl rfl) h1
  obtain ⟨u0, u1, u2, u3, rfl⟩ := list_len4 ol oll
  obtain ⟨pz, rfl, wpz⟩ := field_int Try.underlying3 (of 0 _ _ rfl rfl)
  obtain ⟨pl, rfl, wpl⟩ := field_int Try.underlying3 (of 1 _ _ rfl rfl)
  obtain ⟨ph, rfl, wph⟩ := field_int Try.underlying3 (of 2 _ _ rfl rfl)
  obtain ⟨pt, rfl, wpt⟩ := field_int Try.underlying3 (of 3 _ _ rfl rfl)
  obtain ⟨q0, q1, rfl, wq0, wq1⟩ := open_arr2 Try.underlying43 Try.underlying3 (by kernel_rfl) (by kernel_rfl) (hval 2 43 v2 rfl rfl) h2
  refine (bulletinBounds_any W lA ln lc l l1 l2 lr lw pz pl ph pt wpz wpl wph wpt q0 q1 wq0 wq1).mono fun e W' ⟨he, hb⟩ => ?_
  subst he
  exact ⟨_, rfl, law_post laidOut_bulletinBounds (by kernel_rfl) rfl rfl Try.underlying4 hW' rfl hb⟩

theorem bulletinBounds_holds : Rows.BulletinBoundsSaid :=
  OpenClaim.holds_of_wide 7 Try.f7 rfl rfl rfl rfl rfl rfl rfl ⟨rfl, rfl, rfl, rfl, rfl⟩ rfl rfl rfl rfl rfl (by kernel_rfl) Try.func7 (by kernel_rfl)
    (of_decide_eq_true (by kernel_rfl)) (by unfold Func.isWrapper; rw [if_neg (by decide +kernel)]; exact ⟨rfl, rfl⟩)
    (fun os started H enc _ => bulletinBounds_lifted os started H enc)
#print axioms bulletinBounds_holds
end Go.Proofs.Ytmbdlnimegdigaa
