/-
  JournalTorn answers true for every input of the form. Its conditions: none.
-/
import Derived.Test.YtdmkkpnjakdnnaaJouR
import Derived.Test.YtdmkkpnjakdnnaaJouL
import Derived.Test.YtdmkkpnjakdnnaaJouK
namespace Go.Proofs.Ytdmkkpnjakdnnaa
open Go.ChangeShapes Go.WideShapes Go.ChangeAt Go.RowKit

set_option maxRecDepth 100000 in
set_option maxHeartbeats 4000000 in
theorem journalTorn_any (w : World) (v : Value) (l : List Rd) (hv : StrV Rd.cells 7 w w.heap.size v l) (k : Int) (hk : 0 ≤ k ∧ k < 65536) (hz : l.length ≤ 3000000000000) :
    Calls Try.prog 7 #[v, .int .u16 k] w fun e w' => e = .returned (.bool true) ∧ Below w.heap.size w w' := by
  obtain ⟨A, c, rfl, hc, hc2, hr⟩ := hv
  obtain ⟨n, hn⟩ : ∃ n, l.length = n := ⟨_, rfl⟩
  have HN := Lib.hid hn
  have HV := Lib.hid (strV_of hr rfl hc hc2)
  have HS := Lib.hid hr
  rw [hn] at HV hc HS ⊢
  have hm := Int.ofNat_le.2 (show n ≤ maxLen by omega)
  have HG : Hid (∃ x y, writeG l = (x, y)) := ⟨_, _, rfl⟩
  obtain ⟨bl, y, hg⟩ := HG.out
  have HG := Lib.hid hg
  have HZ := Lib.hid hz
  clear hn hg hr hz
  obtain ⟨kk, rfl⟩ := Int.eq_ofNat_of_zero_le hk.1
  go_enter Try.func7, Try.ntmps7
  go_wp2_with fail
  with_reducible refine (alive_any _).mono ?_
  rintro e w1 ⟨rfl, hb1⟩
  have HB1 := Lib.hid hb1
  have HV1 := Lib.hid (HV.out.now hb1)
  clear hb1
  have W2 := (Write_any _ l _ HV1.out HZ.out)
  rw [HG.out] at W2
  go_wp2_with fail
  with_reducible refine W2.mono ?_
  rintro e w2 ⟨v2, rfl, ho2, hb2⟩
  have HB2 := Lib.hid (HB1.out.trans (hb2.mono HB1.out.size))
  have HV2 := Lib.hid (HV1.out.now hb2)
  obtain ⟨A2, n2, c2, rfl, HN2, h21, h22, hr2⟩ := ho2.nam
  have HR2 := Lib.hid hr2
  clear hb2 hr2 ho2 W2
  by_cases hs : n ≤ 30
  · have d1 : decide ((n : Int) > 30) = false := decide_eq_false (by omega)
    by_cases hok : l.all okB = true
    · have HOk : Hid (∀ r ∈ l, okB r = true) := List.all_eq_true.1 hok
      have hw := HG.out
      rw [writeG_ok hok] at hw
      simp only [Prod.mk.injEq] at hw
      obtain ⟨hbl, rfl⟩ := hw
      obtain ⟨m, hmm⟩ : ∃ m, kk % (n2 + 1) = m := ⟨_, rfl⟩
      have hmn : m ≤ n2 := by rw [← hmm]; have := Nat.mod_lt kk (show n2 + 1 > 0 by omega); omega
      have HT : Hid (∃ j, j ≤ n ∧ scanR 0 (bl.take m) = (l.take j, begR l j, lkR 0 (l.take j)) ∧ begR l j ≤ m ∧ (j < n → m < begR l (j + 1))) := by
        obtain ⟨j, h1, h2, h3, h4⟩ := scanR_torn l 0 m HOk.out (by rw [hbl, HN2.out]; exact hmn)
        rw [hbl] at h2
        rw [HN.out] at h1 h4
        exact ⟨j, h1, h2, h3, h4⟩
      obtain ⟨j, hj, hsc, hb1, hb2⟩ := HT.out
      obtain ⟨b, hbj⟩ : ∃ b, begR l j = b := ⟨_, rfl⟩
      rw [hbj] at hsc hb1
      have HSc := Lib.hid hsc
      have HBj := Lib.hid hbj
      have HBl := Lib.hid hbl
      have HLt : Hid ((l.take j).length = j) := by show _ = _; rw [List.length_take, HN.out]; omega
      have hmod : ((kk : Int)) % ((n2 : Int) + 1) = (m : Int) := by rw [← hmm]; norm_cast
      have hmod2 : ((kk : Int)).tmod ((n2 : Int) + 1) = (m : Int) := by rw [Int.tmod_eq_emod_of_nonneg (by omega)]; exact hmod
      clear hsc hbj hbl hmm
      have hn2 : n2 ≤ 1300 := by
        have h := wrR_len l 0 HOk.out
        rw [HBl.out, HN2.out] at h
        have := HN.out
        omega
      have hst := slc_to A2 n2 c2 m (by omega)
      have HRm : Hid (Bytes w2 w2.heap.size A2 m (bl.take m)) := hide (Reads.bfront HR2.out hmn)
      have hlin := HRm.out.blen
      go_wp2_with fail
      with_reducible refine (Read_any A2 m c2 (bl.take m) _ _ _ _ HRm.out (by omega) (by omega) h22 HSc.out).mono ?_
      rintro e w3 ⟨v3, rfl, ho3, hb3⟩
      have HB3 := Lib.hid (HB2.out.trans (hb3.mono HB2.out.size))
      have HV3 := Lib.hid (HV2.out.now hb3)
      have HS3 := Lib.hid (HS.out.now HB3.out)
      obtain ⟨A3, c3, rfl, h31, h32, hr3⟩ := own_open ho3
      have HV3g : Hid (StrV Rd.cells 7 w3 w3.heap.size (.slice A3 (l.take j).length c3) (l.take j)) := hide ho3.strV
      rw [HLt.out] at HV3g ⊢
      clear hst hb3 ho3 hr3
      have hsr := slr_to A n c j (by omega)
      have HVj : Hid (StrV Rd.cells 7 w3 w3.heap.size (.slice A j c) (l.take j)) := hide (take_strV HS3.out HN.out hj hc hc2)
      have d2 : decide ((j : Int) > (n : Int)) = false := decide_eq_false (by omega)
      go_wp2_with fail
      with_reducible refine (rsame_any _ _ (l.take j) _ HV3g.out HVj.out).mono ?_
      rintro e w4 ⟨rfl, hb4⟩
      have HB4 := Lib.hid (HB3.out.trans (hb4.mono HB3.out.size))
      have HS4 := Lib.hid (HS3.out.now hb4)
      have HVj4 := Lib.hid (HVj.out.now hb4)
      clear hb4
      have HLj : Hid ((l.take j).length ≤ 3000000000000) := by show _ ≤ _; rw [HLt.out]; omega
      have HGj : Hid (writeG (l.take j) = (wrR 0 (l.take j), 0)) := writeG_ok (List.all_eq_true.2 fun r hr => HOk.out r (List.mem_of_mem_take hr))
      have W5 := Write_any _ (l.take j) _ HVj4.out HLj.out
      rw [HGj.out] at W5
      go_wp2_with fail
      with_reducible refine W5.mono ?_
      rintro e w5 ⟨v5, rfl, ho5, hb5⟩
      have HB5 := Lib.hid (HB4.out.trans (hb5.mono HB4.out.size))
      have HS5 := Lib.hid (HS4.out.now hb5)
      obtain ⟨A5, n5, c5, rfl, HN5, _, _, _⟩ := ho5.nam
      obtain rfl : b = n5 := by rw [← HN5.out, ← HBj.out]; rfl
      clear hb5 ho5 W5
      have d3 : decide ((b : Int) > (m : Int)) = false := decide_eq_false (by omega)
      by_cases hjn : j = n
      · subst hjn
        go_wp2_with fail
        go_ret
        exact ⟨rfl, HB5.out⟩
      · have d4 : ((j : Int) == (n : Int)) = false := by rw [beq_eq_false_iff_ne]; omega
        have hjlt : j < n := by omega
        have hb2' := hb2 hjlt
        obtain ⟨b', hbj'⟩ : ∃ b', begR l (j + 1) = b' := ⟨_, rfl⟩
        rw [hbj'] at hb2'
        have hsr2 := slr_to A n c (j + 1) (by omega)
        rw [show (((j + 1 : Nat)) : Int) = (j : Int) + 1 by omega] at hsr2
        have HVk : Hid (StrV Rd.cells 7 w5 w5.heap.size (.slice A (j + 1) c) (l.take (j + 1))) := hide (take_strV HS5.out HN.out hjlt hc hc2)
        have HLk : Hid ((l.take (j + 1)).length ≤ 3000000000000) := by show _ ≤ _; rw [List.length_take, HN.out]; omega
        have HGk : Hid (writeG (l.take (j + 1)) = (wrR 0 (l.take (j + 1)), 0)) := writeG_ok (List.all_eq_true.2 fun r hr => HOk.out r (List.mem_of_mem_take hr))
        have W6 := Write_any _ (l.take (j + 1)) _ HVk.out HLk.out
        rw [HGk.out] at W6
        go_wp2_with fail
        with_reducible refine W6.mono ?_
        rintro e w6 ⟨v6, rfl, ho6, hb6⟩
        have HB6 := Lib.hid (HB5.out.trans (hb6.mono HB5.out.size))
        obtain ⟨A6, n6, c6, rfl, HN6, _, _, _⟩ := ho6.nam
        obtain rfl : b' = n6 := by rw [← HN6.out, ← hbj']; rfl
        clear hb6 ho6 W6
        have d5 : decide ((b' : Int) > (m : Int)) = true := decide_eq_true (by omega)
        go_wp2_with fail
        go_ret
        exact ⟨ret_b (by simp), HB6.out⟩
    · have hw := HG.out
      obtain ⟨r, hr1, hr2⟩ : ∃ r, r ∈ l ∧ okB r = false := by simpa using hok
      rw [writeG_bad hr1 hr2] at hw
      simp only [Prod.mk.injEq] at hw
      obtain ⟨rfl, rfl⟩ := hw
      go_wp2_with fail
      go_ret
      exact ⟨rfl, HB2.out⟩
  · have d1 : decide ((n : Int) > 30) = true := decide_eq_true (by omega)
    go_wp2_with fail
    go_ret
    exact ⟨rfl, HB2.out⟩


theorem own_journalTorn : ownKnob Try.prog.godebug = none := by kernel_rfl
theorem laidOut_journalTorn : laidOutB Try.prog = true := by kernel_rfl
set_option maxRecDepth 100000 in
theorem journalTorn_lifted (os : Os) (started : os.Started) (H : Type) (enc : TypeId × Value → H) :
    ReturnsInHanded {} Try.checked os 7 .any (Rows.journalTornSpec.pre6 enc Try.prog Try.f7 Rows.journalTornRow.domain false) (Rows.journalTornSpec.post enc Try.prog Try.f7 false true false false) := by
  refine returnsInHanded_of_change_sized (C := Try.checked) own_journalTorn started (by kernel_rfl) Try.func7
    (ChangeSpec.witness6 (enc := enc) (C := Try.checked) false ⟨#[], #[.slice none 0 0, .int .u16 0], []⟩ 8 (by kernel_rfl) (by kernel_rfl) (by kernel_rfl) (by kernel_rfl)) ?_
  intro W base args ds gs before hval0 hW hcnd hsz0 _
  have hval : ∀ (j : Nat) t v, Try.f7.params[j]? = some t → args[j]? = some v → Value.okWide Try.prog W .any base t v := hval0
  have hW' := hW
  obtain ⟨p, q, hA0, hV, rfl, hfz, hnd⟩ := hW
  have hA : DataW.TrodAll enc Try.prog W 0 (fun _ => true) true Try.f7.params.toList args.toList ds p := hA0
  have hsz : (DataW.weightsEach Try.prog (Try.f7.params.toList ++ Rows.journalTornSpec.plain.varTypes Try.prog) (ds ++ gs)).all (· ≤ reachBytes) = true := hsz0
  rw [Try.params7] at hA hval hsz
  obtain ⟨v0, vs0, d0, ds0, p0, q0, hargs, rfl, rfl, h0, r0⟩ := trodAll_cons hA
  obtain ⟨v1, vs1, d1, ds1, p1, q1, rfl, rfl, rfl, h1, r1⟩ := trodAll_cons r0
  obtain ⟨rfl, rfl, rfl⟩ := trodAll_nil r1
  obtain rfl : args = #[v0, v1] := by cases args; simp_all
  obtain ⟨rfl, rfl⟩ := trodVars_none hV
  obtain ⟨l, hl⟩ := open_rides (hval 0 22 v0 rfl rfl) h0
  obtain ⟨k, rfl, k0, k1⟩ := open_u16 Try.underlying40 (hval 1 40 v1 rfl rfl) h1
  have hz0 := rides_reach hl h0 hsz
  refine (journalTorn_any W v0 l hl k ⟨k0, k1⟩ hz0).mono fun e W' ⟨he, hb⟩ => ?_
  subst he
  exact ⟨_, rfl, law_post laidOut_journalTorn (by kernel_rfl) rfl rfl Try.underlying4 hW' rfl hb⟩

theorem journalTorn_holds : Rows.JournalTornSaid :=
  OpenClaim.holds_of_wide 7 Try.f7 rfl rfl rfl rfl rfl rfl rfl ⟨rfl, rfl, rfl, rfl, rfl⟩ rfl rfl rfl rfl rfl (by kernel_rfl) Try.func7 (by kernel_rfl)
    (of_decide_eq_true (by kernel_rfl)) (by unfold Func.isWrapper; rw [if_neg (by decide +kernel)]; exact ⟨rfl, rfl⟩)
    (fun os started H enc _ => journalTorn_lifted os started H enc)
#print axioms journalTorn_holds

end Go.Proofs.Ytdmkkpnjakdnnaa
