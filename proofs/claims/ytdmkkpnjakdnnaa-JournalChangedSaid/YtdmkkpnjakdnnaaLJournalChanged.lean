/-
  JournalChanged answers true for every input of the form. Its conditions: none.
-/
import Derived.Test.YtdmkkpnjakdnnaaJouR
import Derived.Test.YtdmkkpnjakdnnaaJouL
import Derived.Test.YtdmkkpnjakdnnaaJouK
import Derived.Test.YtdmkkpnjakdnnaaStrO
namespace Go.Proofs.Ytdmkkpnjakdnnaa
open Go.ChangeShapes Go.WideShapes Go.ChangeAt Go.RowKit

/-- a row of the call's own that holds something begins a block -/
theorem own_pos {w : World} {base : Nat} {e : TypeId} {n : Nat} {v : Value} {xs : List Value} (h : w.ownsRow base e 1 v n xs) (hn : 0 < n) : ∃ g cap, v = .slice (some ⟨g, 0, none⟩) n cap ∧ n ≤ cap ∧ cap ≤ maxLen := by
  rcases h.2 with ⟨rfl, rfl⟩ | ⟨g, cap, cur, rfl, _, _, h1, h2, _⟩
  · omega
  · exact ⟨g, cap, rfl, h1, h2⟩

set_option maxRecDepth 100000 in
set_option maxHeartbeats 4000000 in
theorem journalChanged_any (w : World) (v : Value) (l : List Rd) (hv : StrV Rd.cells 7 w w.heap.size v l) (ki : Int) (hki : 0 ≤ ki ∧ ki < 256) (ka : Int) (hka : 0 ≤ ka ∧ ka < 256) (kx : Int) (hkx : 0 ≤ kx ∧ kx < 256) (hz : l.length ≤ 3000000000000) :
    Calls Try.prog 8 #[v, .int .u8 ki, .int .u8 ka, .int .u8 kx] w fun e w' => e = .returned (.bool true) ∧ Below w.heap.size w w' := by
  obtain ⟨A, c, rfl, hc, hc2, hr⟩ := hv
  obtain ⟨n, hn⟩ : ∃ n, l.length = n := ⟨_, rfl⟩
  have HN := Lib.hid hn
  have HV := Lib.hid (strV_of hr rfl hc hc2)
  have HS := Lib.hid hr
  rw [hn] at HV hc HS ⊢
  have hm := Int.ofNat_le.2 (show n ≤ maxLen by omega)
  have HG : Hid (∃ x y, writeG l = (x, y)) := ⟨_, _, rfl⟩
  obtain ⟨bl, y, hg⟩ := HG.out
  have HG := Lib.hid hg
  have HZ := Lib.hid hz
  clear hn hg hr hz
  obtain ⟨ci, rfl⟩ := Int.eq_ofNat_of_zero_le hki.1
  obtain ⟨ca, rfl⟩ := Int.eq_ofNat_of_zero_le hka.1
  obtain ⟨cx, rfl⟩ := Int.eq_ofNat_of_zero_le hkx.1
  go_enter Try.func8, Try.ntmps8
  go_wp2_with fail
  with_reducible refine (alive_any _).mono ?_
  rintro e w1 ⟨rfl, hb1⟩
  have HB1 := Lib.hid hb1
  have HV1 := Lib.hid (HV.out.now hb1)
  clear hb1
  have W2 := (Write_any _ l _ HV1.out HZ.out)
  rw [HG.out] at W2
  go_wp2_with fail
  with_reducible refine W2.mono ?_
  rintro e w2 ⟨v2, rfl, ho2, hb2⟩
  have HB2 := Lib.hid (HB1.out.trans (hb2.mono HB1.out.size))
  have HS2 := Lib.hid (HS.out.now HB2.out)
  obtain ⟨A2, n2, c2, rfl, HN2, h21, h22, hr2⟩ := ho2.nam
  have HR2 := Lib.hid hr2
  clear hb2 hr2 ho2 W2
  by_cases hs : n ≤ 30
  · have d1 : decide ((n : Int) > 30) = false := decide_eq_false (by omega)
    by_cases hn0 : n = 0
    · subst hn0
      go_wp2_with fail
      go_ret
      exact ⟨rfl, HB2.out⟩
    · have d0 : ((n : Int) == 0) = false := by rw [beq_eq_false_iff_ne]; omega
      by_cases hok : l.all okB = true
      · have HOk : Hid (∀ r ∈ l, okB r = true) := List.all_eq_true.1 hok
        have hw := HG.out
        rw [writeG_ok hok] at hw
        simp only [Prod.mk.injEq] at hw
        obtain ⟨hbl, rfl⟩ := hw
        by_cases hx0 : cx = 0
        · subst hx0
          go_wp2_with fail
          go_ret
          exact ⟨rfl, HB2.out⟩
        · have dx : ((cx : Int) == 0) = false := by rw [beq_eq_false_iff_ne]; omega
          have HOa : Hid (l.all okB = true) := hok
          have HBl := Lib.hid hbl
          have hn2 : n2 ≤ 1300 := by
            have h := wrR_len l 0 HOk.out
            rw [HBl.out, HN2.out] at h
            have := HN.out
            omega
          obtain ⟨i, hi⟩ : ∃ i, ci % n = i := ⟨_, rfl⟩
          have hin : i < n := by rw [← hi]; exact Nat.mod_lt ci (by omega)
          have hmod : ((ci : Int)) % (n : Int) = (i : Int) := by rw [← hi]; norm_cast
          have hmod2 : ((ci : Int)).tmod (n : Int) = (i : Int) := by rw [Int.tmod_eq_emod_of_nonneg (by omega)]; exact hmod
          obtain ⟨b, hb⟩ : ∃ b, begR l i = b := ⟨_, rfl⟩
          obtain ⟨e, he⟩ : ∃ e, begR l (i + 1) = e := ⟨_, rfl⟩
          have hble := begR_le HOk.out i (by rw [HN.out]; exact hin)
          have hbal := begR_all l (i + 1)
          rw [hb, he] at hble
          rw [he, HBl.out, HN2.out] at hbal
          obtain ⟨r, hrr⟩ : ∃ r, ca % (e - b - 1) = r := ⟨_, rfl⟩
          have hrl : r < e - b - 1 := by rw [← hrr]; exact Nat.mod_lt ca (by omega)
          have HBb := Lib.hid hb
          have HBe := Lib.hid he
          have HCb : Hid (∀ W : World, Strs Rd.cells 7 W W.heap.size A n l → Calls Try.prog 22 #[.slice A n c, .int .i64 (i : Int)] W fun e w' => e = .returned (.int .i64 (b : Int)) ∧ Below W.heap.size W w') := fun W h => by
            have h2 := begin_any A n c i l W h HN.out hc hc2 (by omega) (by omega) HOa.out
            rw [HBb.out] at h2
            exact h2
          have HCe : Hid (∀ W : World, Strs Rd.cells 7 W W.heap.size A n l → Calls Try.prog 22 #[.slice A n c, .int .i64 ((i : Int) + 1)] W fun e' w' => e' = .returned (.int .i64 (e : Int)) ∧ Below W.heap.size W w') := fun W h => by
            have h2 := begin_any A n c (i + 1) l W h HN.out hc hc2 (by omega) (by omega) HOa.out
            rw [HBe.out] at h2
            exact h2
          obtain ⟨q, hqe⟩ : ∃ q, e - b = q := ⟨_, rfl⟩
          obtain ⟨f, hfe⟩ : ∃ f, q - 1 = f := ⟨_, rfl⟩
          rw [hqe, hfe] at hrl hrr
          have hsub : (e : Int) - (b : Int) = (q : Int) := by omega
          have hsub1 : (q : Int) - 1 = (f : Int) := by omega
          have hr2 : ((ca : Int)).tmod (f : Int) = (r : Int) := by rw [Int.tmod_eq_emod_of_nonneg (by omega), ← hrr]; norm_cast
          have hr3 : ((ca : Int)) % (f : Int) = (r : Int) := by rw [← hrr]; norm_cast
          have d2 : decide ((q : Int) < 2) = false := decide_eq_false (by omega)
          have d3 : decide ((e : Int) > (n2 : Int)) = false := decide_eq_false (by omega)
          obtain ⟨idx, hidx⟩ : ∃ idx, b + 1 + r = idx := ⟨_, rfl⟩
          have hadd : (b : Int) + 1 + (r : Int) = (idx : Int) := by omega
          have hil : idx < n2 := by omega
          have h1x : b + 1 ≤ idx := by omega
          have h2x : idx < e := by omega
          obtain ⟨y, hy⟩ : ∃ y, bl.getD idx 0 = y := ⟨_, rfl⟩
          obtain ⟨u, hu⟩ : ∃ u, UInt8.ofNat (y.toNat ^^^ cx) = u := ⟨_, rfl⟩
          have hxl : y.toNat ^^^ cx < 256 := Nat.xor_lt_two_pow (n := 8) (UInt8.toNat_lt y) (by omega)
          have hux : bits .xor .u8 ((y.toNat : Nat) : Int) (cx : Int) = ((u.toNat : Nat) : Int) := by
            rw [u8_xor_nat _ _ (UInt8.toNat_lt y) (by omega), ← hu, UInt8.toNat_ofNat_of_lt' hxl]
          have hne : u ≠ y := by
            intro e0
            rw [e0] at hu
            have h3 := congrArg UInt8.toNat hu
            rw [UInt8.toNat_ofNat_of_lt' hxl] at h3
            have h4 : y.toNat ^^^ (y.toNat ^^^ cx) = 0 := by rw [h3, Nat.xor_self]
            rw [← Nat.xor_assoc, Nat.xor_self, Nat.zero_xor] at h4
            exact hx0 h4
          have HSc : Hid (scanR 0 (bl.set idx u) = (l.take i, b, lkR 0 (l.take i))) := by
            show _ = _
            have h := scanR_changed HOk.out (by rw [HN.out]; exact hin) (k := idx) (by rw [hb]; exact h1x) (by rw [he]; exact h2x) (x := u) (by rw [HBl.out, hy]; exact hne)
            rw [HBl.out, hb] at h
            exact h
          have HY := Lib.hid hy
          have HU := Lib.hid hux
          clear hi hb he hrr hbl hqe hfe hy hu hxl hux hidx
          go_wp2_with fail
          with_reducible refine (HCb.out _ HS2.out).mono ?_
          rintro e' w3 ⟨rfl, hb3⟩
          have HB3 := Lib.hid (HB2.out.trans (hb3.mono HB2.out.size))
          have HS3 := Lib.hid (HS2.out.now hb3)
          have HR3 := Lib.hid (HR2.out.now hb3)
          clear hb3
          go_wp2_with fail
          with_reducible refine (HCe.out _ HS3.out).mono ?_
          rintro e' w4 ⟨rfl, hb4⟩
          have HB4 := Lib.hid (HB3.out.trans (hb4.mono HB3.out.size))
          have HS4 := Lib.hid (HS3.out.now hb4)
          have HR4 := Lib.hid (HR3.out.now hb4)
          clear hb4
          go_wp2_with
            (at_builtin
             refine wpList_app _ ei_byte rfl (.tmp 63) (.tmp 64) rfl w4.heap.size (.slice (some ⟨w4.heap.size, 0, none⟩) 0 0) 0 [] rfl (World.ownsRow_lit w4 #[] 0 (Nat.le_refl _) (by simp [maxLen]) rfl) w4.heap.size A2 n2 c2 (bl.map B8) rfl (HR4.out.alloc (Nat.le_refl _) _) (oneCell_B8 bl) (by simp only [maxLen]; omega) (by omega) (by simp) ?_
             intro v5 w5 hown5 _ hbw5 _
             have hb5 : Below w4.heap.size w4 w5 := ((Below.refl _ _).alloc (Nat.le_refl _) _).trans hbw5
             simp only [Nat.zero_add, List.nil_append] at hown5
             obtain ⟨g, cap, rfl, hcp1, hcp2⟩ := own_pos hown5 (by omega)
             have HO5 := Lib.hid hown5
             have HB5 := Lib.hid (HB4.out.trans (hb5.mono HB4.out.size))
             have HS5 := Lib.hid (HS4.out.now hb5)
             have hcell : w5.cell? ⟨g, idx, none⟩ = some (.int .u8 ((y.toNat : Nat) : Int)) := by
               have h0 := HO5.out.cells (g := g) rfl idx (B8 y) (by rw [List.getElem?_map, ← HY.out, List.getD_eq_getElem?_getD, List.getElem?_eq_getElem (by rw [HN2.out]; exact hil)]; rfl)
               rwa [show (⟨g, 0, none⟩ : Addr).add idx = ⟨g, idx, none⟩ by unfold Addr.add; split <;> simp_all] at h0
             have hfz : w5.frozen? ⟨g, idx, none⟩ = false := HO5.out.frozenAt idx
             have HR6 : Hid (Bytes (w5.setCell ⟨g, idx, none⟩ (.int .u8 ((u.toNat : Nat) : Int))) (w5.setCell ⟨g, idx, none⟩ (.int .u8 ((u.toNat : Nat) : Int))).heap.size (some ⟨g, 0, none⟩) n2 (bl.set idx u)) := by
               have h := Reads.of_own (HO5.out.stored idx (.int .u8 ((u.toNat : Nat) : Int))).1
               show Reads _ _ _ _ _ ((bl.set idx u).map B8)
               rw [List.map_set]
               exact h
             have hg4 : w4.heap.size ≤ g := (HO5.out.lt g rfl).1
             have HB6 : Hid (Below w.heap.size w (w5.setCell ⟨g, idx, none⟩ (.int .u8 ((u.toNat : Nat) : Int)))) := hide (HB5.out.setCell (by have := HB4.out.size; show w.heap.size ≤ g; omega) _)
             have HS6 : Hid (Strs Rd.cells 7 (w5.setCell ⟨g, idx, none⟩ (.int .u8 ((u.toNat : Nat) : Int))) (w5.setCell ⟨g, idx, none⟩ (.int .u8 ((u.toNat : Nat) : Int))).heap.size A n l) := hide (HS.out.now HB6.out)
             have hux := HU.out
             clear hown5 hbw5 hb5)
          generalize hw6 : (w5.setCell ⟨g, idx, none⟩ (.int .u8 ((u.toNat : Nat) : Int))) = w6 at HR6 HB6 HS6 ⊢
          clear hw6 hux
          have HRl : Hid (Bytes w6 w6.heap.size (some ⟨g, 0, none⟩) n2 (bl.set idx u)) := HR6
          with_reducible refine (Read_any (some ⟨g, 0, none⟩) n2 cap (bl.set idx u) _ _ _ _ HR6.out (by omega) hcp1 hcp2 HSc.out).mono ?_
          rintro e' w7 ⟨v7, rfl, ho7, hb7⟩
          have HB7 := Lib.hid (HB6.out.trans (hb7.mono HB6.out.size))
          have HS7 := Lib.hid (HS6.out.now hb7)
          have HR7 := Lib.hid (HR6.out.now hb7)
          have HV7 := Lib.hid ho7.strV
          clear hb7 ho7
          have hsr := slr_to A n c i (by omega)
          have HVi : Hid (StrV Rd.cells 7 w7 w7.heap.size (.slice A i c) (l.take i)) := hide (take_strV HS7.out HN.out (by omega) hc hc2)
          go_wp2_with fail
          with_reducible refine (rsame_any _ _ (l.take i) _ HV7.out HVi.out).mono ?_
          rintro e' w8 ⟨rfl, hb8⟩
          have HB8 := Lib.hid (HB7.out.trans (hb8.mono HB7.out.size))
          have HR8 := Lib.hid (HR7.out.now hb8)
          clear hb8
          go_wp2_with fail
          with_reducible refine (Whole_any false (some ⟨g, 0, none⟩) n2 cap (bl.set idx u) _ _ _ _ HR8.out (by omega) hcp1 hcp2 HSc.out (decide_eq_false (by omega))).mono ?_
          rintro e' w9 ⟨rfl, hb9⟩
          have HB9 := Lib.hid (HB8.out.trans (hb9.mono HB8.out.size))
          clear hb9
          go_wp2_with fail
          go_ret
          exact ⟨ret_b (by simp), HB9.out⟩
      · have hw := HG.out
        obtain ⟨r, hr1, hr2⟩ : ∃ r, r ∈ l ∧ okB r = false := by simpa using hok
        rw [writeG_bad hr1 hr2] at hw
        simp only [Prod.mk.injEq] at hw
        obtain ⟨rfl, rfl⟩ := hw
        go_wp2_with fail
        go_ret
        exact ⟨rfl, HB2.out⟩
  · have d1 : decide ((n : Int) > 30) = true := decide_eq_true (by omega)
    go_wp2_with fail
    go_ret
    exact ⟨rfl, HB2.out⟩


theorem own_journalChanged : ownKnob Try.prog.godebug = none := by kernel_rfl
theorem laidOut_journalChanged : laidOutB Try.prog = true := by kernel_rfl
set_option maxRecDepth 100000 in
theorem journalChanged_lifted (os : Os) (started : os.Started) (H : Type) (enc : TypeId × Value → H) :
    ReturnsInHanded {} Try.checked os 8 .any (Rows.journalChangedSpec.pre6 enc Try.prog Try.f8 Rows.journalChangedRow.domain false) (Rows.journalChangedSpec.post enc Try.prog Try.f8 false true false false) := by
  refine returnsInHanded_of_change_sized (C := Try.checked) own_journalChanged started (by kernel_rfl) Try.func8
    (ChangeSpec.witness6 (enc := enc) (C := Try.checked) false ⟨#[], #[.slice none 0 0, .int .u8 0, .int .u8 0, .int .u8 0], []⟩ 8 (by kernel_rfl) (by kernel_rfl) (by kernel_rfl) (by kernel_rfl)) ?_
  intro W base args ds gs before hval0 hW hcnd hsz0 _
  have hval : ∀ (j : Nat) t v, Try.f8.params[j]? = some t → args[j]? = some v → Value.okWide Try.prog W .any base t v := hval0
  have hW' := hW
  obtain ⟨p, q, hA0, hV, rfl, hfz, hnd⟩ := hW
  have hA : DataW.TrodAll enc Try.prog W 0 (fun _ => true) true Try.f8.params.toList args.toList ds p := hA0
  have hsz : (DataW.weightsEach Try.prog (Try.f8.params.toList ++ Rows.journalChangedSpec.plain.varTypes Try.prog) (ds ++ gs)).all (· ≤ reachBytes) = true := hsz0
  rw [Try.params8] at hA hval hsz
  obtain ⟨v0, vs0, d0, ds0, p0, q0, hargs, rfl, rfl, h0, r0⟩ := trodAll_cons hA
  obtain ⟨v1, vs1, d1, ds1, p1, q1, rfl, rfl, rfl, h1, r1⟩ := trodAll_cons r0
  obtain ⟨v2, vs2, d2, ds2, p2, q2, rfl, rfl, rfl, h2, r2⟩ := trodAll_cons r1
  obtain ⟨v3, vs3, d3, ds3, p3, q3, rfl, rfl, rfl, h3, r3⟩ := trodAll_cons r2
  obtain ⟨rfl, rfl, rfl⟩ := trodAll_nil r3
  obtain rfl : args = #[v0, v1, v2, v3] := by cases args; simp_all
  obtain ⟨rfl, rfl⟩ := trodVars_none hV
  obtain ⟨l, hl⟩ := open_rides (hval 0 22 v0 rfl rfl) h0
  obtain ⟨ki, rfl, ki0, ki1⟩ := open_u8 Try.underlying5 (hval 1 5 v1 rfl rfl) h1
  obtain ⟨ka, rfl, ka0, ka1⟩ := open_u8 Try.underlying5 (hval 2 5 v2 rfl rfl) h2
  obtain ⟨kx, rfl, kx0, kx1⟩ := open_u8 Try.underlying5 (hval 3 5 v3 rfl rfl) h3
  have hz0 := rides_reach hl h0 hsz
  refine (journalChanged_any W v0 l hl ki ⟨ki0, ki1⟩ ka ⟨ka0, ka1⟩ kx ⟨kx0, kx1⟩ hz0).mono fun e W' ⟨he, hb⟩ => ?_
  subst he
  exact ⟨_, rfl, law_post laidOut_journalChanged (by kernel_rfl) rfl rfl Try.underlying4 hW' rfl hb⟩

theorem journalChanged_holds : Rows.JournalChangedSaid :=
  OpenClaim.holds_of_wide 8 Try.f8 rfl rfl rfl rfl rfl rfl rfl ⟨rfl, rfl, rfl, rfl, rfl⟩ rfl rfl rfl rfl rfl (by kernel_rfl) Try.func8 (by kernel_rfl)
    (of_decide_eq_true (by kernel_rfl)) (by unfold Func.isWrapper; rw [if_neg (by decide +kernel)]; exact ⟨rfl, rfl⟩)
    (fun os started H enc _ => journalChanged_lifted os started H enc)
#print axioms journalChanged_holds

end Go.Proofs.Ytdmkkpnjakdnnaa
