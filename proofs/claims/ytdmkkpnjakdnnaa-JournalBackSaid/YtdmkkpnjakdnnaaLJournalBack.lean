/-
  JournalBack answers true for every input. Its conditions: none.
-/
import Derived.Test.YtdmkkpnjakdnnaaJouR
import Derived.Test.YtdmkkpnjakdnnaaJouL
import Derived.Test.YtdmkkpnjakdnnaaJouK
import Derived.Test.YtdmkkpnjakdnnaaRegC
namespace Go.Proofs.Ytdmkkpnjakdnnaa
open Go.ChangeShapes Go.WideShapes Go.ChangeAt Go.RowKit

theorem set7 (c0 c1 c2 c3 c4 c5 c6 : Value) (a : Array Value) (h : a.size = 7) : (((((((a.setIfInBounds 0 c0).setIfInBounds 1 c1).setIfInBounds 2 c2).setIfInBounds 3 c3).setIfInBounds 4 c4).setIfInBounds 5 c5).setIfInBounds 6 c6) = #[c0, c1, c2, c3, c4, c5, c6] := by
  obtain ⟨l⟩ := a
  match l, h with
  | [x0, x1, x2, x3, x4, x5, x6], _ => rfl
theorem run_lit7 {P : Program} (w : World) (t e : TypeId) (c0 c1 c2 c3 c4 c5 c6 : Value) (hu : P.underlying t = some (.slice e)) (hi : (P.info? e).map (fun i => (i.size, i.zero.map (·.cells.size))) = some (7, some 7)) : (Instr.buildSlice t 1 #[(0, .agg #[c0, c1, c2, c3, c4, c5, c6])]).run P w = .ok (.slice (some ⟨w.heap.size, 0, none⟩) 1 1) (w.alloc (.cells #[c0, c1, c2, c3, c4, c5, c6] e)) := by
  cases hq : P.info? e with
  | none => rw [hq] at hi; cases hi
  | some inf =>
    rw [hq] at hi
    simp only [Option.map_some, Option.some.injEq, Prod.mk.injEq] at hi
    obtain ⟨h1, h2⟩ := hi
    cases hz : inf.zero with
    | none => rw [hz] at h2; cases h2
    | some z =>
      simp [Instr.buildSlice, run_underlying hu, sizeOf, typeInfo, zeroValue, hq, h1, hz, Instr.fill, newRow, Value.cells]
      rw [set7 _ _ _ _ _ _ _ _ (by simp)]
theorem one_rd (r : Rd) : ∀ u ∈ Rd.cells r, u.oneCell' = true := by
  intro u hu
  simp only [Rd.cells, List.mem_cons, List.not_mem_nil, or_false] at hu
  rcases hu with rfl | rfl | rfl | rfl | rfl | rfl | rfl <;> rfl
theorem one_rds (l : List Rd) : ∀ u ∈ (l.map Rd.cells).flatten, u.oneCell' = true := by
  intro u hu
  obtain ⟨x, hx, hu⟩ := List.mem_flatten.1 hu
  obtain ⟨r, _, rfl⟩ := List.mem_map.1 hx
  exact one_rd r u hu
theorem app_write {l : List Rd} (h : l.all okB = true) (r : Rd) : appG (wrR 0 l) r = writeG (l ++ [r]) := by
  rw [appG_of (scanR_back l 0 (List.all_eq_true.1 h)) rfl, if_neg (by simp)]
  by_cases hr : okB r = true
  · rw [if_neg (by simp [hr]), writeG_ok (all_next h hr), wrR_snoc]
  · rw [if_pos (by simpa using hr), writeG_bad (l := l ++ [r]) (r := r) (by simp) (by simpa using hr)]

set_option maxRecDepth 100000 in
set_option maxHeartbeats 4000000 in
theorem journalBack_any (w : World) (v : Value) (l : List Rd) (hv : StrV Rd.cells 7 w w.heap.size v l) (r : Rd) :
    Calls Try.prog 6 #[v, .agg #[.int .i64 r.gate, .int .i64 r.seq, .int .i64 r.ser, .int .i64 r.cnt, .int .i64 r.prod, .int .i64 r.lift, .int .i64 r.att]] w fun e w' => e = .returned (.bool true) ∧ Below w.heap.size w w' := by
  obtain ⟨ga, sq, se, cn, pr, li, at_⟩ := r
  dsimp only
  obtain ⟨A, c, rfl, hc, hc2, hr⟩ := hv
  obtain ⟨n, hn⟩ : ∃ n, l.length = n := ⟨_, rfl⟩
  have HN := Lib.hid hn
  have HV := Lib.hid (strV_of hr rfl hc hc2)
  have HS := Lib.hid hr
  rw [hn] at HV hc HS ⊢
  have hm := Int.ofNat_le.2 (show n ≤ maxLen by omega)
  have HG : Hid (∃ x y, writeG l = (x, y)) := ⟨_, _, rfl⟩
  obtain ⟨bl, y, hg⟩ := HG.out
  have HG := Lib.hid hg
  clear hn hg hr
  go_enter Try.func6, Try.ntmps6
  go_wp2_with fail
  have HBw0 := (Blk.new w 30 #[.int .i64 ga, .int .i64 sq, .int .i64 se, .int .i64 cn, .int .i64 pr, .int .i64 li, .int .i64 at_])
  have HLw0 := (below_new w (.cells #[.int .i64 ga, .int .i64 sq, .int .i64 se, .int .i64 cn, .int .i64 pr, .int .i64 li, .int .i64 at_] 30))
  have hsw0 : (w.alloc (.cells #[.int .i64 ga, .int .i64 sq, .int .i64 se, .int .i64 cn, .int .i64 pr, .int .i64 li, .int .i64 at_] 30)).heap.size = w.heap.size + 1 := by simp
  generalize w.alloc (.cells #[.int .i64 ga, .int .i64 sq, .int .i64 se, .int .i64 cn, .int .i64 pr, .int .i64 li, .int .i64 at_] 30) = w0 at HBw0 HLw0 hsw0 ⊢
  replace HBw0 := Lib.hid HBw0
  replace HLw0 := Lib.hid HLw0
  have hlw0 : w.heap.size < w0.heap.size := by omega
  replace hsw0 := Lib.hid hsw0
  refine (alive_any _).mono ?_
  rintro e w1 ⟨rfl, hb1⟩
  have HB1 := Lib.hid (HLw0.out.trans (hb1.mono HLw0.out.size))
  have HX1 := Lib.hid (HBw0.out.below hb1 hlw0)
  have hl1 := Nat.lt_of_lt_of_le hlw0 hb1.size
  have HV1 := Lib.hid (HV.out.now HB1.out)
  clear hb1
  by_cases hs : n ≤ 60
  · have d1 : decide ((n : Int) > 60) = false := decide_eq_false (by omega)
    have W2 := (Write_any _ l _ HV1.out (by rw [HN.out]; omega))
    rw [HG.out] at W2
    go_wp2_with fail
    with_reducible refine W2.mono ?_
    rintro e w2 ⟨v2, rfl, ho2, hb2⟩
    have HB2 := Lib.hid (HB1.out.trans (hb2.mono HB1.out.size))
    have HX2 := Lib.hid (HX1.out.below hb2 hl1)
    have hl2 := Nat.lt_of_lt_of_le hl1 hb2.size
    have HV2 := Lib.hid (HV1.out.now hb2)
    obtain ⟨A2, n2, c2, rfl, HN2, h21, h22, hr2⟩ := ho2.nam
    have HR2 := Lib.hid hr2
    clear hb2 hr2 ho2 W2
    by_cases hok : l.all okB = true
    · have HOk : Hid (l.all okB = true) := hok
      have hw := HG.out
      rw [writeG_ok hok] at hw
      simp only [Prod.mk.injEq] at hw
      obtain ⟨hbl, rfl⟩ := hw
      have HBl := Lib.hid hbl
      have hn2 : n2 ≤ 2500 := by
        have h := wrR_len l 0 (List.all_eq_true.1 hok)
        rw [HBl.out, HN2.out] at h
        have := HN.out
        omega
      have HSc : Hid (scanR 0 bl = (l, n2, lkR 0 l)) := by
        have h := scanR_back l 0 (List.all_eq_true.1 hok)
        rw [hbl, HN2.out] at h
        exact h
      have HGx : Hid (∃ x y, writeG (l ++ [⟨ga, sq, se, cn, pr, li, at_⟩]) = (x, y)) := ⟨_, _, rfl⟩
      obtain ⟨x0, y, hgw⟩ := HGx.out
      have HGW := Lib.hid hgw
      have HGA : Hid (appG bl ⟨ga, sq, se, cn, pr, li, at_⟩ = (x0, y)) := by
        show _ = _
        rw [← hbl, app_write hok, hgw]
      have HLn : Hid ((l ++ [(⟨ga, sq, se, cn, pr, li, at_⟩ : Rd)]).length ≤ 3000000000000) := by show _ ≤ _; rw [List.length_append, HN.out]; simp; omega
      clear hbl hgw
      go_wp2_with fail
      with_reducible refine (Read_any A2 n2 c2 bl l n2 _ _ HR2.out (by omega) h21 h22 HSc.out).mono ?_
      rintro e w3 ⟨v3, rfl, ho3, hb3⟩
      have HB3 := Lib.hid (HB2.out.trans (hb3.mono HB2.out.size))
      have HX3 := Lib.hid (HX2.out.below hb3 hl2)
      have hl3 := Nat.lt_of_lt_of_le hl2 hb3.size
      have HV3 := Lib.hid (HV2.out.now hb3)
      have HR3 := Lib.hid (HR2.out.now hb3)
      have HG3 := Lib.hid ho3.strV
      clear hb3 ho3
      go_wp2_with fail
      with_reducible refine (rsame_any _ _ l _ HV3.out HG3.out).mono ?_
      rintro e w4 ⟨rfl, hb4⟩
      have HB4 := Lib.hid (HB3.out.trans (hb4.mono HB3.out.size))
      have HX4 := Lib.hid (HX3.out.below hb4 hl3)
      have hl4 := Nat.lt_of_lt_of_le hl3 hb4.size
      have HR4 := Lib.hid (HR3.out.now hb4)
      clear hb4
      go_wp2_with fail
      with_reducible refine (Whole_any true A2 n2 c2 bl l n2 _ _ HR4.out (by omega) h21 h22 HSc.out (by simp)).mono ?_
      rintro e w5 ⟨rfl, hb5⟩
      have HB5 := Lib.hid (HB4.out.trans (hb5.mono HB4.out.size))
      have HX5 := Lib.hid (HX4.out.below hb5 hl4)
      have hl5 := Nat.lt_of_lt_of_le hl4 hb5.size
      have HR5 := Lib.hid (HR4.out.now hb5)
      clear hb5
      have W6 := (Append_any A2 n2 c2 bl (⟨ga, sq, se, cn, pr, li, at_⟩ : Rd) _ HR5.out (by omega) h21 h22)
      rw [HGA.out] at W6
      go_wp2_with (refine wpList_load_blk rfl 30 (.tmp 3) rfl w.heap.size rfl _ _ HX5.out _ Try.underlying30 rfl (by kernel_rfl) ?_)
      with_reducible refine W6.mono ?_
      rintro e w9 ⟨v9, rfl, ho9, hb9⟩
      have HB9 := Lib.hid (HB5.out.trans (hb9.mono HB5.out.size))
      have HX9 := Lib.hid (HX5.out.below hb9 hl5)
      have hl9 := Nat.lt_of_lt_of_le hl5 hb9.size
      obtain ⟨A9, n9, c9, rfl, HN9, h91, h92, hr9⟩ := ho9.nam
      have HR9 := Lib.hid hr9
      have HS9 := Lib.hid (HS.out.now HB9.out)
      have HBd : Hid (Below w9.heap.size w9 w9.drew) := hide (Below.refl _ _).drew
      clear hb9 hr9 ho9 W6
      go_wp2_with fail
      go_cut [11, 12] (fun s t wx => ∃ (A' : Option Addr) (n' c' : Nat), s = .slice A' n' c' ∧ t = .int .i64 (y : Int) ∧ n' ≤ c' ∧ c' ≤ maxLen ∧ Bytes wx wx.heap.size A' n' x0 ∧ Below w9.heap.size w9 wx)
      case first =>
        refine wp_region_held_drew (S := fun W => Blk W w.heap.size 30 #[.int .i64 ga, .int .i64 sq, .int .i64 se, .int .i64 cn, .int .i64 pr, .int .i64 li, .int .i64 at_]) (by kernel_rfl) (HX9.out.drew) (fun hHeld => ?_)
        refine held_run 1 (some 56) (.move (.tmp 0)) ?v12_1_2 (by rfl) (by kernel_rfl) (by kernel_rfl) (by kernel_rfl) (fun _ _ _ h => h) (fun o ho w hS => ?y12_1_2) (by assumption) ?r12_1_2
        case y12_1_2 => (try dsimp only at hS); unfold execOp; simp only [ho]; go_simp; try with_reducible rfl
        try simp only [Act.put, List.setIfInBounds_toArray, List.set_cons_zero, List.set_cons_succ]
        refine held_load 3 (some 58) 30 (.tmp 3) (by rfl) (by kernel_rfl) (by kernel_rfl) (by kernel_rfl) (w.heap.size) 30 #[.int .i64 ga, .int .i64 sq, .int .i64 se, .int .i64 cn, .int .i64 pr, .int .i64 li, .int .i64 at_] (fun _ _ _ h => h) (by rfl) (fun _ h => h) _ Try.underlying30 rfl (by kernel_rfl) (by assumption) ?_
        try simp only [Act.put, List.setIfInBounds_toArray, List.set_cons_zero, List.set_cons_succ]
        refine held_two 0 4 (by kernel_rfl) ?_ ?_
        · refine op_lit 0 (some 55) 22 30 0 #[] #[] (by rfl) (by have h := run_lit0 (P := Try.prog) w9.drew 22 30 Try.underlying22 (by kernel_rfl); simpa using h) ?_
          intro wa _ hb he
          have HBa := Lib.hid (HBd.out.trans (hb.mono HBd.out.size))
          have hda : Hid (w9.drew.heap.size < wa.heap.size) := by show _ < _; rw [he]; simp
          have HOa : Hid (wa.ownsRow w9.heap.size 30 7 (.slice (some ⟨w9.drew.heap.size, 0, none⟩) 0 0) 0 []) := by show World.ownsRow _ _ _ _ _ _ _; rw [he]; exact World.ownsRow_lit w9.drew #[] 0 HBd.out.size (by simp [maxLen]) rfl
          clear hb he
          refine ⟨HX9.out.below HBa.out hl9, ?_⟩
          try simp only [Act.put, List.setIfInBounds_toArray, List.set_cons_zero, List.set_cons_succ]
          refine held_two 2 4 (by kernel_rfl) ?_ ?_
          · refine op_app ei_rd 2 (some 57) (.tmp 55) (.tmp 56) (by rfl) w9.heap.size _ 0 [] rfl (HOa.out) wa.heap.size A n c (l.map Rd.cells).flatten rfl (HS9.out.now HBa.out) (one_rds l) (by simp only [maxLen]; omega) (by omega) (HBa.out.size) ?_
            intro vb wb hown hg hb _
            simp only [Nat.zero_add, List.nil_append] at hown
            have HBb := Lib.hid (HBa.out.trans hb)
            have HOb := Lib.hid hown
            clear hown hg hb
            refine ⟨HX9.out.below HBb.out hl9, ?_⟩
            try simp only [Act.put, List.setIfInBounds_toArray, List.set_cons_zero, List.set_cons_succ]
            refine held_one 4 (by kernel_rfl) ?_
            refine op_lit 4 (some 59) 22 30 1 #[(0, .tmp 58)] #[.int .i64 ga, .int .i64 sq, .int .i64 se, .int .i64 cn, .int .i64 pr, .int .i64 li, .int .i64 at_] (by rfl) (by simp only [List.map_toArray, List.map_cons, List.map_nil]; exact run_lit7 (P := Try.prog) wb 22 30 _ _ _ _ _ _ _ Try.underlying22 (by kernel_rfl)) ?_
            intro wc hx hb _
            have HBc := Lib.hid (HBb.out.trans (hb.mono HBb.out.size))
            have HLc := Lib.hid hx
            have HOc := Lib.hid (own_below HOb.out hb (Nat.le_refl _))
            clear hx hb
            refine ⟨HX9.out.below HBc.out hl9, ?_⟩
            try simp only [Act.put, List.setIfInBounds_toArray, List.set_cons_zero, List.set_cons_succ]
            refine held_one 5 (by kernel_rfl) ?_
            refine op_app ei_rd 5 (some 60) (.tmp 57) (.tmp 59) (by rfl) w9.heap.size _ n (l.map Rd.cells).flatten rfl (HOc.out) wc.heap.size (some ⟨wb.heap.size, 0, none⟩) 1 1 (Rd.cells ⟨ga, sq, se, cn, pr, li, at_⟩) rfl (reads_blk HLc.out rfl) (one_rd _) (by simp only [maxLen]; omega) (by omega) (HBc.out.size) ?_
            intro vd wd hown _ hb _
            have HBd2 := Lib.hid (HBc.out.trans hb)
            have HOd : Hid (OwnRd wd w9.heap.size vd (l ++ [⟨ga, sq, se, cn, pr, li, at_⟩])) := hide (OwnRd.snoc hown (by rw [HN.out]) rfl)
            clear hown hb
            refine ⟨HX9.out.below HBd2.out hl9, ?_⟩
            try simp only [Act.put, List.setIfInBounds_toArray, List.set_cons_zero, List.set_cons_succ]
            refine held_call 6 (some 61) 11 [(.tmp 60)] #[22] #[vd] (by rfl) (by rfl) (by kernel_rfl) Try.func11 (by rfl) (by rfl) ?_
            have W6 := Write_any _ (l ++ [⟨ga, sq, se, cn, pr, li, at_⟩]) _ HOd.out.strV HLn.out
            rw [HGW.out] at W6
            refine W6.mono ?_
            rintro e we ⟨ve, rfl, ho, hb⟩
            obtain ⟨Ax, nx, cx, rfl, HNx, hx1, hx2, hrx⟩ := ho.nam
            have HRx := Lib.hid hrx
            have HBx := Lib.hid (HBd2.out.trans (hb.mono HBd2.out.size))
            have hHx : (fun W => Blk W w.heap.size 30 #[.int .i64 ga, .int .i64 sq, .int .i64 se, .int .i64 cn, .int .i64 pr, .int .i64 li, .int .i64 at_]) we := HX9.out.below HBx.out hl9
            clear ho hb hrx W6
            refine ⟨_, rfl, hHx, ?_⟩
            try simp only [Act.put, List.setIfInBounds_toArray, List.set_cons_zero, List.set_cons_succ]
            refine held_run 7 (some 54) (.move (.tmp 61)) ?v12_1_9 (by rfl) (by kernel_rfl) (by kernel_rfl) (by kernel_rfl) (fun _ _ _ h => h) (fun o ho w hS => ?y12_1_9) (by assumption) ?r12_1_9
            case y12_1_9 => (try dsimp only at hS); unfold execOp; simp only [ho]; go_simp; try with_reducible rfl
            try simp only [Act.put, List.setIfInBounds_toArray, List.set_cons_zero, List.set_cons_succ]
            refine held_run 8 (some 62) (.extract (.tmp 54) 0) ?v12_1_10 (by rfl) (by kernel_rfl) (by kernel_rfl) (by kernel_rfl) (fun _ _ _ h => h) (fun o ho w hS => ?y12_1_10) (by assumption) ?r12_1_10
            case y12_1_10 => (try dsimp only at hS); unfold execOp; simp only [ho]; go_simp; try with_reducible rfl
            try simp only [Act.put, List.setIfInBounds_toArray, List.set_cons_zero, List.set_cons_succ]
            refine held_run 9 (some 63) (.extract (.tmp 54) 1) ?v12_1_11 (by rfl) (by kernel_rfl) (by kernel_rfl) (by kernel_rfl) (fun _ _ _ h => h) (fun o ho w hS => ?y12_1_11) (by assumption) ?r12_1_11
            case y12_1_11 => (try dsimp only at hS); unfold execOp; simp only [ho]; go_simp; try with_reducible rfl
            try simp only [Act.put, List.setIfInBounds_toArray, List.set_cons_zero, List.set_cons_succ]
            refine held_run 10 (some 11) (.assign (.tmp 62)) ?v12_1_12 (by rfl) (by kernel_rfl) (by kernel_rfl) (by kernel_rfl) (fun _ _ _ h => h) (fun o ho w hS => ?y12_1_12) (by assumption) ?r12_1_12
            case y12_1_12 => (try dsimp only at hS); unfold execOp; simp only [ho]; go_simp; try with_reducible rfl
            try simp only [Act.put, List.setIfInBounds_toArray, List.set_cons_zero, List.set_cons_succ]
            refine held_run 11 (some 12) (.assign (.tmp 63)) ?v12_1_13 (by rfl) (by kernel_rfl) (by kernel_rfl) (by kernel_rfl) (fun _ _ _ h => h) (fun o ho w hS => ?y12_1_13) (by assumption) ?r12_1_13
            case y12_1_13 => (try dsimp only at hS); unfold execOp; simp only [ho]; go_simp; try with_reducible rfl
            try simp only [Act.put, List.setIfInBounds_toArray, List.set_cons_zero, List.set_cons_succ]
            refine wpAnyH_done (by kernel_rfl) ?_ _
            go_wp2_with fail
            go_meet
            exact ⟨_, _, _, rfl, rfl, hx1, hx2, HRx.out, HBx.out⟩
          · refine op_lit 4 (some 59) 22 30 1 #[(0, .tmp 58)] #[.int .i64 ga, .int .i64 sq, .int .i64 se, .int .i64 cn, .int .i64 pr, .int .i64 li, .int .i64 at_] (by rfl) (by simp only [List.map_toArray, List.map_cons, List.map_nil]; exact run_lit7 (P := Try.prog) wa 22 30 _ _ _ _ _ _ _ Try.underlying22 (by kernel_rfl)) ?_
            intro wf hx hb _
            have HBf := Lib.hid (HBa.out.trans (hb.mono HBa.out.size))
            have HLf := Lib.hid hx
            have HOf := Lib.hid (own_below HOa.out hb (Nat.le_refl _))
            clear hx hb
            refine ⟨HX9.out.below HBf.out hl9, ?_⟩
            try simp only [Act.put, List.setIfInBounds_toArray, List.set_cons_zero, List.set_cons_succ]
            refine held_one 2 (by kernel_rfl) ?_
            refine op_app ei_rd 2 (some 57) (.tmp 55) (.tmp 56) (by rfl) w9.heap.size _ 0 [] rfl (HOf.out) wf.heap.size A n c (l.map Rd.cells).flatten rfl (HS9.out.now HBf.out) (one_rds l) (by simp only [maxLen]; omega) (by omega) (HBf.out.size) ?_
            intro vg wg hown hg hb _
            simp only [Nat.zero_add, List.nil_append] at hown
            have HBg := Lib.hid (HBf.out.trans hb)
            have HOg := Lib.hid hown
            have HLg : Hid (Blk wg wa.heap.size 30 #[.int .i64 ga, .int .i64 sq, .int .i64 se, .int .i64 cn, .int .i64 pr, .int .i64 li, .int .i64 at_]) := hide ((hg.block _ HLf.out.lt (fun e => by have h0 : w9.heap.size < wa.heap.size := hda.out; have h2 : wa.heap.size = w9.heap.size := Option.some.inj e; omega)).trans HLf.out)
            clear hown hg hb
            refine ⟨HX9.out.below HBg.out hl9, ?_⟩
            try simp only [Act.put, List.setIfInBounds_toArray, List.set_cons_zero, List.set_cons_succ]
            refine held_one 5 (by kernel_rfl) ?_
            refine op_app ei_rd 5 (some 60) (.tmp 57) (.tmp 59) (by rfl) w9.heap.size _ n (l.map Rd.cells).flatten rfl (HOg.out) wg.heap.size (some ⟨wa.heap.size, 0, none⟩) 1 1 (Rd.cells ⟨ga, sq, se, cn, pr, li, at_⟩) rfl (reads_blk HLg.out rfl) (one_rd _) (by simp only [maxLen]; omega) (by omega) (HBg.out.size) ?_
            intro vh wh hown _ hb _
            have HBh := Lib.hid (HBg.out.trans hb)
            have HOh : Hid (OwnRd wh w9.heap.size vh (l ++ [⟨ga, sq, se, cn, pr, li, at_⟩])) := hide (OwnRd.snoc hown (by rw [HN.out]) rfl)
            clear hown hb
            refine ⟨HX9.out.below HBh.out hl9, ?_⟩
            try simp only [Act.put, List.setIfInBounds_toArray, List.set_cons_zero, List.set_cons_succ]
            refine held_call 6 (some 61) 11 [(.tmp 60)] #[22] #[vh] (by rfl) (by rfl) (by kernel_rfl) Try.func11 (by rfl) (by rfl) ?_
            have W6 := Write_any _ (l ++ [⟨ga, sq, se, cn, pr, li, at_⟩]) _ HOh.out.strV HLn.out
            rw [HGW.out] at W6
            refine W6.mono ?_
            rintro e wi ⟨vi, rfl, ho, hb⟩
            obtain ⟨Ax, nx, cx, rfl, HNx, hx1, hx2, hrx⟩ := ho.nam
            have HRx := Lib.hid hrx
            have HBx := Lib.hid (HBh.out.trans (hb.mono HBh.out.size))
            have hHx : (fun W => Blk W w.heap.size 30 #[.int .i64 ga, .int .i64 sq, .int .i64 se, .int .i64 cn, .int .i64 pr, .int .i64 li, .int .i64 at_]) wi := HX9.out.below HBx.out hl9
            clear ho hb hrx W6
            refine ⟨_, rfl, hHx, ?_⟩
            try simp only [Act.put, List.setIfInBounds_toArray, List.set_cons_zero, List.set_cons_succ]
            refine held_run 7 (some 54) (.move (.tmp 61)) ?v12_1_18 (by rfl) (by kernel_rfl) (by kernel_rfl) (by kernel_rfl) (fun _ _ _ h => h) (fun o ho w hS => ?y12_1_18) (by assumption) ?r12_1_18
            case y12_1_18 => (try dsimp only at hS); unfold execOp; simp only [ho]; go_simp; try with_reducible rfl
            try simp only [Act.put, List.setIfInBounds_toArray, List.set_cons_zero, List.set_cons_succ]
            refine held_run 8 (some 62) (.extract (.tmp 54) 0) ?v12_1_19 (by rfl) (by kernel_rfl) (by kernel_rfl) (by kernel_rfl) (fun _ _ _ h => h) (fun o ho w hS => ?y12_1_19) (by assumption) ?r12_1_19
            case y12_1_19 => (try dsimp only at hS); unfold execOp; simp only [ho]; go_simp; try with_reducible rfl
            try simp only [Act.put, List.setIfInBounds_toArray, List.set_cons_zero, List.set_cons_succ]
            refine held_run 9 (some 63) (.extract (.tmp 54) 1) ?v12_1_20 (by rfl) (by kernel_rfl) (by kernel_rfl) (by kernel_rfl) (fun _ _ _ h => h) (fun o ho w hS => ?y12_1_20) (by assumption) ?r12_1_20
            case y12_1_20 => (try dsimp only at hS); unfold execOp; simp only [ho]; go_simp; try with_reducible rfl
            try simp only [Act.put, List.setIfInBounds_toArray, List.set_cons_zero, List.set_cons_succ]
            refine held_run 10 (some 11) (.assign (.tmp 62)) ?v12_1_21 (by rfl) (by kernel_rfl) (by kernel_rfl) (by kernel_rfl) (fun _ _ _ h => h) (fun o ho w hS => ?y12_1_21) (by assumption) ?r12_1_21
            case y12_1_21 => (try dsimp only at hS); unfold execOp; simp only [ho]; go_simp; try with_reducible rfl
            try simp only [Act.put, List.setIfInBounds_toArray, List.set_cons_zero, List.set_cons_succ]
            refine held_run 11 (some 12) (.assign (.tmp 63)) ?v12_1_22 (by rfl) (by kernel_rfl) (by kernel_rfl) (by kernel_rfl) (fun _ _ _ h => h) (fun o ho w hS => ?y12_1_22) (by assumption) ?r12_1_22
            case y12_1_22 => (try dsimp only at hS); unfold execOp; simp only [ho]; go_simp; try with_reducible rfl
            try simp only [Act.put, List.setIfInBounds_toArray, List.set_cons_zero, List.set_cons_succ]
            refine wpAnyH_done (by kernel_rfl) ?_ _
            go_wp2_with fail
            go_meet
            exact ⟨_, _, _, rfl, rfl, hx1, hx2, HRx.out, HBx.out⟩
        · refine op_lit 4 (some 59) 22 30 1 #[(0, .tmp 58)] #[.int .i64 ga, .int .i64 sq, .int .i64 se, .int .i64 cn, .int .i64 pr, .int .i64 li, .int .i64 at_] (by rfl) (by simp only [List.map_toArray, List.map_cons, List.map_nil]; exact run_lit7 (P := Try.prog) w9.drew 22 30 _ _ _ _ _ _ _ Try.underlying22 (by kernel_rfl)) ?_
          intro wj hx hb _
          have HBj := Lib.hid (HBd.out.trans (hb.mono HBd.out.size))
          have hdj : Hid (w9.drew.heap.size < wj.heap.size) := hide hx.lt
          have HLj := Lib.hid hx
          clear hx hb
          refine ⟨HX9.out.below HBj.out hl9, ?_⟩
          try simp only [Act.put, List.setIfInBounds_toArray, List.set_cons_zero, List.set_cons_succ]
          refine held_one 0 (by kernel_rfl) ?_
          refine op_lit 0 (some 55) 22 30 0 #[] #[] (by rfl) (by have h := run_lit0 (P := Try.prog) wj 22 30 Try.underlying22 (by kernel_rfl); simpa using h) ?_
          intro wk _ hb he
          have HBk := Lib.hid (HBj.out.trans (hb.mono HBj.out.size))
          have HOk : Hid (wk.ownsRow w9.heap.size 30 7 (.slice (some ⟨wj.heap.size, 0, none⟩) 0 0) 0 []) := by show World.ownsRow _ _ _ _ _ _ _; rw [he]; exact World.ownsRow_lit wj #[] 0 HBj.out.size (by simp [maxLen]) rfl
          have HLk := Lib.hid (HLj.out.below hb HLj.out.lt)
          clear hb he
          refine ⟨HX9.out.below HBk.out hl9, ?_⟩
          try simp only [Act.put, List.setIfInBounds_toArray, List.set_cons_zero, List.set_cons_succ]
          refine held_one 2 (by kernel_rfl) ?_
          refine op_app ei_rd 2 (some 57) (.tmp 55) (.tmp 56) (by rfl) w9.heap.size _ 0 [] rfl (HOk.out) wk.heap.size A n c (l.map Rd.cells).flatten rfl (HS9.out.now HBk.out) (one_rds l) (by simp only [maxLen]; omega) (by omega) (HBk.out.size) ?_
          intro vm wm hown hg hb _
          simp only [Nat.zero_add, List.nil_append] at hown
          have HBm := Lib.hid (HBk.out.trans hb)
          have HOm := Lib.hid hown
          have HLm : Hid (Blk wm w9.drew.heap.size 30 #[.int .i64 ga, .int .i64 sq, .int .i64 se, .int .i64 cn, .int .i64 pr, .int .i64 li, .int .i64 at_]) := hide ((hg.block _ HLk.out.lt (fun e => by have h0 : w9.heap.size < wj.heap.size := hdj.out; have h2 : w9.heap.size = wj.heap.size := Option.some.inj e; omega)).trans HLk.out)
          clear hown hg hb
          refine ⟨HX9.out.below HBm.out hl9, ?_⟩
          try simp only [Act.put, List.setIfInBounds_toArray, List.set_cons_zero, List.set_cons_succ]
          refine held_one 5 (by kernel_rfl) ?_
          refine op_app ei_rd 5 (some 60) (.tmp 57) (.tmp 59) (by rfl) w9.heap.size _ n (l.map Rd.cells).flatten rfl (HOm.out) wm.heap.size (some ⟨w9.drew.heap.size, 0, none⟩) 1 1 (Rd.cells ⟨ga, sq, se, cn, pr, li, at_⟩) rfl (reads_blk HLm.out rfl) (one_rd _) (by simp only [maxLen]; omega) (by omega) (HBm.out.size) ?_
          intro vo wo hown _ hb _
          have HBo := Lib.hid (HBm.out.trans hb)
          have HOo : Hid (OwnRd wo w9.heap.size vo (l ++ [⟨ga, sq, se, cn, pr, li, at_⟩])) := hide (OwnRd.snoc hown (by rw [HN.out]) rfl)
          clear hown hb
          refine ⟨HX9.out.below HBo.out hl9, ?_⟩
          try simp only [Act.put, List.setIfInBounds_toArray, List.set_cons_zero, List.set_cons_succ]
          refine held_call 6 (some 61) 11 [(.tmp 60)] #[22] #[vo] (by rfl) (by rfl) (by kernel_rfl) Try.func11 (by rfl) (by rfl) ?_
          have W6 := Write_any _ (l ++ [⟨ga, sq, se, cn, pr, li, at_⟩]) _ HOo.out.strV HLn.out
          rw [HGW.out] at W6
          refine W6.mono ?_
          rintro e wp ⟨vp, rfl, ho, hb⟩
          obtain ⟨Ax, nx, cx, rfl, HNx, hx1, hx2, hrx⟩ := ho.nam
          have HRx := Lib.hid hrx
          have HBx := Lib.hid (HBo.out.trans (hb.mono HBo.out.size))
          have hHx : (fun W => Blk W w.heap.size 30 #[.int .i64 ga, .int .i64 sq, .int .i64 se, .int .i64 cn, .int .i64 pr, .int .i64 li, .int .i64 at_]) wp := HX9.out.below HBx.out hl9
          clear ho hb hrx W6
          refine ⟨_, rfl, hHx, ?_⟩
          try simp only [Act.put, List.setIfInBounds_toArray, List.set_cons_zero, List.set_cons_succ]
          refine held_run 7 (some 54) (.move (.tmp 61)) ?v12_1_28 (by rfl) (by kernel_rfl) (by kernel_rfl) (by kernel_rfl) (fun _ _ _ h => h) (fun o ho w hS => ?y12_1_28) (by assumption) ?r12_1_28
          case y12_1_28 => (try dsimp only at hS); unfold execOp; simp only [ho]; go_simp; try with_reducible rfl
          try simp only [Act.put, List.setIfInBounds_toArray, List.set_cons_zero, List.set_cons_succ]
          refine held_run 8 (some 62) (.extract (.tmp 54) 0) ?v12_1_29 (by rfl) (by kernel_rfl) (by kernel_rfl) (by kernel_rfl) (fun _ _ _ h => h) (fun o ho w hS => ?y12_1_29) (by assumption) ?r12_1_29
          case y12_1_29 => (try dsimp only at hS); unfold execOp; simp only [ho]; go_simp; try with_reducible rfl
          try simp only [Act.put, List.setIfInBounds_toArray, List.set_cons_zero, List.set_cons_succ]
          refine held_run 9 (some 63) (.extract (.tmp 54) 1) ?v12_1_30 (by rfl) (by kernel_rfl) (by kernel_rfl) (by kernel_rfl) (fun _ _ _ h => h) (fun o ho w hS => ?y12_1_30) (by assumption) ?r12_1_30
          case y12_1_30 => (try dsimp only at hS); unfold execOp; simp only [ho]; go_simp; try with_reducible rfl
          try simp only [Act.put, List.setIfInBounds_toArray, List.set_cons_zero, List.set_cons_succ]
          refine held_run 10 (some 11) (.assign (.tmp 62)) ?v12_1_31 (by rfl) (by kernel_rfl) (by kernel_rfl) (by kernel_rfl) (fun _ _ _ h => h) (fun o ho w hS => ?y12_1_31) (by assumption) ?r12_1_31
          case y12_1_31 => (try dsimp only at hS); unfold execOp; simp only [ho]; go_simp; try with_reducible rfl
          try simp only [Act.put, List.setIfInBounds_toArray, List.set_cons_zero, List.set_cons_succ]
          refine held_run 11 (some 12) (.assign (.tmp 63)) ?v12_1_32 (by rfl) (by kernel_rfl) (by kernel_rfl) (by kernel_rfl) (fun _ _ _ h => h) (fun o ho w hS => ?y12_1_32) (by assumption) ?r12_1_32
          case y12_1_32 => (try dsimp only at hS); unfold execOp; simp only [ho]; go_simp; try with_reducible rfl
          try simp only [Act.put, List.setIfInBounds_toArray, List.set_cons_zero, List.set_cons_succ]
          refine wpAnyH_done (by kernel_rfl) ?_ _
          go_wp2_with fail
          go_meet
          exact ⟨_, _, _, rfl, rfl, hx1, hx2, HRx.out, HBx.out⟩
      obtain ⟨A', n', c', rfl, rfl, h1', h2', hr', hcut⟩ := hcut
      have HBc := Lib.hid (HB9.out.trans (hcut.mono HB9.out.size))
      have HR9c := Lib.hid (HR9.out.now hcut)
      have HRc := Lib.hid hr'
      clear hcut hr'
      obtain ⟨st, hst⟩ : ∃ x, ByteArray.mk x0.toArray = x := ⟨_, rfl⟩
      have q1 := run_str (P := Try.prog) wc Try.underlying24 Try.underlying5 Try.underlying9 HR9c.out c9
      have q2 := run_str (P := Try.prog) wc Try.underlying24 Try.underlying5 Try.underlying9 HRc.out c'
      rw [hst] at q1 q2
      go_wp2_with fail
      go_ret
      exact ⟨ret_b (by simp), HBc.out⟩
    · have hw := HG.out
      obtain ⟨r, hr1, hr2⟩ : ∃ r, r ∈ l ∧ okB r = false := by simpa using hok
      rw [writeG_bad hr1 hr2] at hw
      simp only [Prod.mk.injEq] at hw
      obtain ⟨rfl, rfl⟩ := hw
      obtain rfl : n2 = 0 := by rw [← HN2.out]; rfl
      go_wp2_with fail
      go_ret
      exact ⟨rfl, HB2.out⟩
  · have d1 : decide ((n : Int) > 60) = true := decide_eq_true (by omega)
    go_wp2_with fail
    go_ret
    exact ⟨rfl, HB1.out⟩


theorem own_journalBack : ownKnob Try.prog.godebug = none := by kernel_rfl
theorem laidOut_journalBack : laidOutB Try.prog = true := by kernel_rfl
set_option maxRecDepth 100000 in
theorem journalBack_lifted (os : Os) (started : os.Started) (H : Type) (enc : TypeId × Value → H) :
    ReturnsInHanded {} Try.checked os 6 .any (Rows.journalBackSpec.pre6 enc Try.prog Try.f6 Rows.journalBackRow.domain false) (Rows.journalBackSpec.post enc Try.prog Try.f6 false true false false) := by
  refine returnsInHanded_of_change (C := Try.checked) own_journalBack started (by kernel_rfl) Try.func6
    (ChangeSpec.witness6 (enc := enc) (C := Try.checked) false ⟨#[], #[.slice none 0 0, .agg #[.int .i64 0, .int .i64 0, .int .i64 0, .int .i64 0, .int .i64 0, .int .i64 0, .int .i64 0]], []⟩ 8 (by kernel_rfl) (by kernel_rfl) (by kernel_rfl) (by kernel_rfl)) ?_
  intro W base args ds gs before hval0 hW hcnd _
  have hval : ∀ (j : Nat) t v, Try.f6.params[j]? = some t → args[j]? = some v → Value.okWide Try.prog W .any base t v := hval0
  have hW' := hW
  obtain ⟨p, q, hA0, hV, rfl, hfz, hnd⟩ := hW
  have hA : DataW.TrodAll enc Try.prog W 0 (fun _ => true) true Try.f6.params.toList args.toList ds p := hA0
  rw [Try.params6] at hA hval
  obtain ⟨v0, vs0, d0, ds0, p0, q0, hargs, rfl, rfl, h0, r0⟩ := trodAll_cons hA
  obtain ⟨v1, vs1, d1, ds1, p1, q1, rfl, rfl, rfl, h1, r1⟩ := trodAll_cons r0
  obtain ⟨rfl, rfl, rfl⟩ := trodAll_nil r1
  obtain rfl : args = #[v0, v1] := by cases args; simp_all
  obtain ⟨rfl, rfl⟩ := trodVars_none hV
  obtain ⟨l, hl⟩ := open_rides (hval 0 22 v0 rfl rfl) h0
  obtain ⟨r, rfl⟩ := open_ride (hval 1 30 v1 rfl rfl) h1
  refine (journalBack_any W v0 l hl r).mono fun e W' ⟨he, hb⟩ => ?_
  subst he
  exact ⟨_, rfl, law_post laidOut_journalBack (by kernel_rfl) rfl rfl Try.underlying4 hW' rfl hb⟩

theorem journalBack_holds : Rows.JournalBackSaid :=
  OpenClaim.holds_of_wide 6 Try.f6 rfl rfl rfl rfl rfl rfl rfl ⟨rfl, rfl, rfl, rfl, rfl⟩ rfl rfl rfl rfl rfl (by kernel_rfl) Try.func6 (by kernel_rfl)
    (of_decide_eq_true (by kernel_rfl)) (by unfold Func.isWrapper; rw [if_neg (by decide +kernel)]; exact ⟨rfl, rfl⟩)
    (fun os started H enc _ => journalBack_lifted os started H enc)
#print axioms journalBack_holds

end Go.Proofs.Ytdmkkpnjakdnnaa
