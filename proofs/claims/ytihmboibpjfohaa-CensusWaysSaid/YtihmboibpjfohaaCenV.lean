/-
  alive of the law of chapter 55, walked.
-/
import Derived.Test.YtihmboibpjfohaaCenU
import Derived.Test.YtihmboibpjfohaaCenC
import Derived.Test.YtihmboibpjfohaaCenD
import Derived.Test.YtihmboibpjfohaaCenE
namespace Go.Proofs.Ytihmboibpjfohaa
open Go.RowKit

abbrev aL1 : List Cr := [⟨1, 1, 5, 10⟩]
abbrev aL2 : List Cr := [⟨1, 1, 5, 10⟩, ⟨2, 1, 2, 20⟩]
def AddX (l : List Cr) (r : Int) (w : World) (e : Ending) (w' : World) : Prop := ∃ v', e = .returned (.tuple #[v', .int .i64 r]) ∧ StrV Cr.cells 4 w' w'.heap.size v' l ∧ Below w.heap.size w w'
set_option maxRecDepth 100000 in
set_option maxHeartbeats 8000000 in
theorem alive_any (w : World) : Calls Try.prog 9 #[] w fun e w' => e = .returned (.bool true) ∧ Below w.heap.size w w' := by
  have HA1 : Hid (∀ W, Calls Try.prog 10 #[.slice none 0 0, .agg #[.int .i64 1, .int .i64 1, .int .i64 5, .int .i64 10]] W (AddX aL1 0 W)) := fun W => by
    refine (add_any _ [] 1 1 5 10 W (strV_nil _ _ _ _) (by decide)).mono ?_
    rintro e w' ⟨v, rfl, h, hb⟩
    rw [show rightC ([] ++ [(⟨1, 1, 5, 10⟩ : Cr)]) = 0 by decide +kernel]
    rw [show addC [] (⟨1, 1, 5, 10⟩ : Cr) = aL1 by decide +kernel] at h
    exact ⟨v, rfl, h, hb⟩
  have HA2 : Hid (∀ v W, StrV Cr.cells 4 W W.heap.size v aL1 → Calls Try.prog 10 #[v, .agg #[.int .i64 2, .int .i64 1, .int .i64 2, .int .i64 20]] W (AddX aL2 0 W)) := fun v W hv => by
    refine (add_any _ aL1 2 1 2 20 W hv (by decide)).mono ?_
    rintro e w' ⟨v, rfl, h, hb⟩
    rw [show rightC (aL1 ++ [(⟨2, 1, 2, 20⟩ : Cr)]) = 0 by decide +kernel]
    rw [show addC aL1 (⟨2, 1, 2, 20⟩ : Cr) = aL2 by decide +kernel] at h
    exact ⟨v, rfl, h, hb⟩
  have HA3 : Hid (∀ v W, StrV Cr.cells 4 W W.heap.size v aL2 → Calls Try.prog 10 #[v, .agg #[.int .i64 2, .int .i64 1, .int .i64 4, .int .i64 20]] W (AddX [] 10 W)) := fun v W hv => by
    refine (add_any _ aL2 2 1 4 20 W hv (by decide)).mono ?_
    rintro e w' ⟨v, rfl, h, hb⟩
    rw [show rightC (aL2 ++ [(⟨2, 1, 4, 20⟩ : Cr)]) = 10 by decide +kernel]
    rw [show addC aL2 (⟨2, 1, 4, 20⟩ : Cr) = [] by decide +kernel] at h
    exact ⟨v, rfl, h, hb⟩
  have hin : ∀ c ∈ aL2, inC c = true := by decide +kernel
  have HO : Hid (∀ v W t r, StrV Cr.cells 4 W W.heap.size v aL2 → onC aL2 t = r → Calls Try.prog 15 #[v, .int .i64 t] W fun e w' => e = .returned (.int .i64 r) ∧ Below W.heap.size W w') := fun v W t r hv hr => by rw [← hr]; exact on_any v aL2 t W hv (by decide) hin
  have HO9 : Hid (onC aL2 9 = 0) := hide (by decide +kernel)
  have HO10 : Hid (onC aL2 10 = 5) := hide (by decide +kernel)
  have HO20 : Hid (onC aL2 20 = 3) := hide (by decide +kernel)
  have HP : Hid (∀ v W, StrV Cr.cells 4 W W.heap.size v aL2 → Calls Try.prog 17 #[v] W fun e w' => e = .returned (.int .i64 5) ∧ Below W.heap.size W w') := fun v W hv => by
    have h := peak_any v aL2 W hv (by decide) hin
    rwa [show ppC aL2 aL2.length = 5 by decide +kernel] at h
  have HCt : Hid (∀ v W, StrV Cr.cells 4 W W.heap.size v aL2 → Calls Try.prog 19 #[v, .int .i64 1, .int .i64 1, .agg #[.int .i64 0, .int .i64 11]] W fun e w' => e = .returned (.int .i64 5) ∧ Below W.heap.size W w') := fun v W hv => by
    have h := count_any v aL2 1 1 0 11 W hv (by decide) hin
    rwa [show cntC aL2 1 1 0 11 = 5 by decide +kernel] at h
  have HEg : Hid (∀ (vn vr vb : Value) (Ar : Option Addr) (nr cr : Nat) (runs : List Int) (node M : Int) (W : World), StrV Nd.cells 2 W W.heap.size vn mNd → StrV Rn.cells 7 W W.heap.size vr mRn → RowV W W.heap.size vb [1] → Ints W W.heap.size Ar nr runs → nr ≤ 5 → EgV mNd mRn [1] runs node M →
      Calls Try.prog 22 #[.agg #[vn, .slice none 0 0, vr, vb], .slice Ar nr cr, .int .i64 node] W fun e w' => e = .returned (.int .i64 M) ∧ Below W.heap.size W w') := fun vn vr vb Ar nr cr runs node M W h1 h2 h3 h4 h5 h6 => by
    refine (egress_any vn _ vr vb Ar nr cr mNd mRn [1] runs node W h1 h2 h3 h4 (by simp only [maxLen]; omega) eg_ok).mono ?_
    rintro e w' ⟨M', hM, rfl, hb⟩
    rw [hM.unique h6]
    exact ⟨rfl, hb⟩
  have HEm : Hid (∀ (vn vr vb : Value) (Ar : Option Addr) (nr cr : Nat) (W : World), StrV Nd.cells 2 W W.heap.size vn mNd → StrV Rn.cells 7 W W.heap.size vr mRn → RowV W W.heap.size vb [1] → Ints W W.heap.size Ar nr [1, 2] → nr ≤ 5 →
      Calls Try.prog 24 #[.agg #[vn, .slice none 0 0, vr, vb], .slice Ar nr cr, .int .i64 3, .int .i64 100] W fun e w' => e = .returned (.int .i64 720) ∧ Below W.heap.size W w') := fun vn vr vb Ar nr cr W h1 h2 h3 h4 h5 => by
    refine (empty_any vn _ vr vb Ar nr cr mNd mRn [1] [1, 2] 3 100 W h1 h2 h3 h4 (by simp only [maxLen]; omega) eg_ok).mono ?_
    rintro e w' ⟨r, hr, rfl, hb⟩
    rw [hr _ eg_one, empty_one _ eg_one]
    exact ⟨rfl, hb⟩
  clear hin
  go_enter Try.func9, Try.ntmps9
  go_wp2_with fail
  with_reducible refine (HA1.out _).mono ?_
  rintro e w1 ⟨v1, rfl, hv1, hb1⟩
  have HV1 := Lib.hid hv1
  have HB1 := Lib.hid hb1
  clear hv1 hb1
  go_wp2_with fail
  with_reducible refine (HA2.out _ _ HV1.out).mono ?_
  rintro e w2 ⟨v2, rfl, hv2, hb2⟩
  have HV2 := Lib.hid hv2
  have HB2 := Lib.hid (HB1.out.trans (hb2.mono HB1.out.size))
  clear hv2 hb2
  go_wp2_with fail
  with_reducible refine (HA3.out _ _ HV2.out).mono ?_
  rintro e w3 ⟨v3, rfl, hv3, hb3⟩
  have HV3 := Lib.hid (HV2.out.now hb3)
  have HB3 := Lib.hid (HB2.out.trans (hb3.mono HB2.out.size))
  clear hv3 hb3
  go_wp2_with fail
  with_reducible refine (HO.out _ _ _ _ HV3.out HO9.out).mono ?_
  rintro e w4 ⟨rfl, hb⟩
  have HV4 := Lib.hid (HV3.out.now hb)
  have HB4 := Lib.hid (HB3.out.trans (hb.mono HB3.out.size))
  clear hb
  go_wp2_with fail
  with_reducible refine (HO.out _ _ _ _ HV4.out HO10.out).mono ?_
  rintro e w5 ⟨rfl, hb⟩
  have HV5 := Lib.hid (HV4.out.now hb)
  have HB5 := Lib.hid (HB4.out.trans (hb.mono HB4.out.size))
  clear hb
  go_wp2_with fail
  with_reducible refine (HO.out _ _ _ _ HV5.out HO20.out).mono ?_
  rintro e w6 ⟨rfl, hb⟩
  have HV6 := Lib.hid (HV5.out.now hb)
  have HB6 := Lib.hid (HB5.out.trans (hb.mono HB5.out.size))
  clear hb
  go_wp2_with fail
  with_reducible refine (HP.out _ _ HV6.out).mono ?_
  rintro e w7 ⟨rfl, hb⟩
  have HV7 := Lib.hid (HV6.out.now hb)
  have HB7 := Lib.hid (HB6.out.trans (hb.mono HB6.out.size))
  clear hb HV1 HV2 HV3 HV4 HV5 HV6 HB1 HB2 HB3 HB4 HB5 HB6
  go_wp2_with fail
  with_reducible refine (mountain_any _).mono ?_
  rintro e w8 ⟨vn, vr, vb, rfl, hn, hr, hbs, hb⟩
  have HV8 := Lib.hid (HV7.out.now hb)
  have HB8 := Lib.hid (HB7.out.trans (hb.mono HB7.out.size))
  have HN8 := Lib.hid hn
  have HR8 := Lib.hid hr
  have HS8 := Lib.hid hbs
  have hcs : #[vn, .slice none 0 0, vr, vb].all (·.oneCell') = true := by
    obtain ⟨_, _, _, rfl, _⟩ := hn.nam
    obtain ⟨_, _, _, rfl, _⟩ := hr.nam
    obtain ⟨_, _, _, rfl, _⟩ := hbs.nam
    simp [Value.oneCell']
  clear hn hr hbs hb HV7 HB7
  go_wp2_with
    (first
     | (refine wpList_store_blk rfl 44 (.tmp 6) (.tmp 54) rfl w8.heap.size #[vn, .slice none 0 0, vr, vb] rfl rfl _ _ (Blk.new w8 44 #[.slice none 0 0, .slice none 0 0, .slice none 0 0, .slice none 0 0]) (by kernel_rfl) rfl hcs ?_
        intro w9 hx9 hon9
        have hb := hon9.below (below_new w8 (.cells #[.slice none 0 0, .slice none 0 0, .slice none 0 0, .slice none 0 0] 44)) (Nat.le_refl _)
        have HX9 := Lib.hid hx9
        have HV9 := Lib.hid (HV8.out.now hb)
        have HB9 := Lib.hid (HB8.out.trans (hb.mono HB8.out.size))
        have HN9 := Lib.hid (HN8.out.now hb)
        have HR9 := Lib.hid (HR8.out.now hb)
        have HS9 := Lib.hid (HS8.out.now hb)
        have hl9 : w8.heap.size < w9.heap.size := hx9.lt
        clear hx9 hon9 hb)
     | (refine wpList_load_g 44 (.tmp 6) rfl rfl w8.heap.size rfl _ _ HX9.out _ Try.underlying44 rfl (by kernel_rfl) ?_))
  clear HV8 HB8 HN8 HR8 HS8
  have HBwa := (Blk.new w9 3 #[.int .i64 1, .int .i64 2])
  have HLwa := (below_new w9 (.cells #[.int .i64 1, .int .i64 2] 3))
  have hswa : (w9.alloc (.cells #[.int .i64 1, .int .i64 2] 3)).heap.size = w9.heap.size + 1 := by simp
  generalize w9.alloc (.cells #[.int .i64 1, .int .i64 2] 3) = wa at HBwa HLwa hswa ⊢
  replace HBwa := Lib.hid HBwa
  replace HLwa := Lib.hid HLwa
  have hlwa : w9.heap.size < wa.heap.size := by omega
  replace hswa := Lib.hid hswa
  have HXa := Lib.hid (HX9.out.below HLwa.out HX9.out.lt)
  have HVa := Lib.hid (HV9.out.now HLwa.out)
  have HBa := Lib.hid (HB9.out.trans (HLwa.out.mono HB9.out.size))
  have HNa := Lib.hid (HN9.out.now HLwa.out)
  have HRa := Lib.hid (HR9.out.now HLwa.out)
  have HSa := Lib.hid (HS9.out.now HLwa.out)
  clear HX9 HV9 HB9 HN9 HR9 HS9
  have HIa : Hid (Ints wa wa.heap.size (some ⟨w9.heap.size, 0, none⟩) 2 [1, 2]) := hide (reads_blk HBwa.out rfl)
  with_reducible refine (HEg.out vn vr vb _ 2 2 [1, 2] 3 500 wa HNa.out HRa.out HSa.out HIa.out (by decide) eg_one).mono ?_
  rintro e wb ⟨rfl, hb⟩
  have HXb := Lib.hid (HXa.out.below hb HXa.out.lt)
  have HVb := Lib.hid (HVa.out.now hb)
  have HBb := Lib.hid (HBa.out.trans (hb.mono HBa.out.size))
  have HNb := Lib.hid (HNa.out.now hb)
  have HRb := Lib.hid (HRa.out.now hb)
  have HSb := Lib.hid (HSa.out.now hb)
  clear HXa HVa HBa HNa HRa HSa
  clear hb HBwa HLwa hswa hlwa HIa
  go_wp2_with (refine wpList_load_g 44 (.tmp 6) rfl rfl w8.heap.size rfl _ _ HXb.out _ Try.underlying44 rfl (by kernel_rfl) ?_)
  have HBwc := (Blk.new wb 3 #[.int .i64 1])
  have HLwc := (below_new wb (.cells #[.int .i64 1] 3))
  have hswc : (wb.alloc (.cells #[.int .i64 1] 3)).heap.size = wb.heap.size + 1 := by simp
  generalize wb.alloc (.cells #[.int .i64 1] 3) = wc at HBwc HLwc hswc ⊢
  replace HBwc := Lib.hid HBwc
  replace HLwc := Lib.hid HLwc
  have hlwc : wb.heap.size < wc.heap.size := by omega
  replace hswc := Lib.hid hswc
  have HXc := Lib.hid (HXb.out.below HLwc.out HXb.out.lt)
  have HVc := Lib.hid (HVb.out.now HLwc.out)
  have HBc := Lib.hid (HBb.out.trans (HLwc.out.mono HBb.out.size))
  have HNc := Lib.hid (HNb.out.now HLwc.out)
  have HRc := Lib.hid (HRb.out.now HLwc.out)
  have HSc := Lib.hid (HSb.out.now HLwc.out)
  clear HXb HVb HBb HNb HRb HSb
  have HIc : Hid (Ints wc wc.heap.size (some ⟨wb.heap.size, 0, none⟩) 1 [1]) := hide (reads_blk HBwc.out rfl)
  with_reducible refine (HEg.out vn vr vb _ 1 1 [1] 3 0 wc HNc.out HRc.out HSc.out HIc.out (by decide) eg_two).mono ?_
  rintro e wd ⟨rfl, hb⟩
  have HXd := Lib.hid (HXc.out.below hb HXc.out.lt)
  have HVd := Lib.hid (HVc.out.now hb)
  have HBd := Lib.hid (HBc.out.trans (hb.mono HBc.out.size))
  have HNd := Lib.hid (HNc.out.now hb)
  have HRd := Lib.hid (HRc.out.now hb)
  have HSd := Lib.hid (HSc.out.now hb)
  clear HXc HVc HBc HNc HRc HSc
  clear hb HBwc HLwc hswc hlwc HIc
  go_wp2_with (refine wpList_load_g 44 (.tmp 6) rfl rfl w8.heap.size rfl _ _ HXd.out _ Try.underlying44 rfl (by kernel_rfl) ?_)
  with_reducible refine (HEg.out vn vr vb none 0 0 [] 1 1000000 wd HNd.out HRd.out HSd.out Reads.empty (by decide) eg_three).mono ?_
  rintro e we ⟨rfl, hb⟩
  have HXe := Lib.hid (HXd.out.below hb HXd.out.lt)
  have HVe := Lib.hid (HVd.out.now hb)
  have HBe := Lib.hid (HBd.out.trans (hb.mono HBd.out.size))
  have HNe := Lib.hid (HNd.out.now hb)
  have HRe := Lib.hid (HRd.out.now hb)
  have HSe := Lib.hid (HSd.out.now hb)
  clear HXd HVd HBd HNd HRd HSd
  clear hb
  go_wp2_with (refine wpList_load_g 44 (.tmp 6) rfl rfl w8.heap.size rfl _ _ HXe.out _ Try.underlying44 rfl (by kernel_rfl) ?_)
  have HBwf := (Blk.new we 3 #[.int .i64 1, .int .i64 2])
  have HLwf := (below_new we (.cells #[.int .i64 1, .int .i64 2] 3))
  have hswf : (we.alloc (.cells #[.int .i64 1, .int .i64 2] 3)).heap.size = we.heap.size + 1 := by simp
  generalize we.alloc (.cells #[.int .i64 1, .int .i64 2] 3) = wf at HBwf HLwf hswf ⊢
  replace HBwf := Lib.hid HBwf
  replace HLwf := Lib.hid HLwf
  have hlwf : we.heap.size < wf.heap.size := by omega
  replace hswf := Lib.hid hswf
  have HXf := Lib.hid (HXe.out.below HLwf.out HXe.out.lt)
  have HVf := Lib.hid (HVe.out.now HLwf.out)
  have HBf := Lib.hid (HBe.out.trans (HLwf.out.mono HBe.out.size))
  have HNf := Lib.hid (HNe.out.now HLwf.out)
  have HRf := Lib.hid (HRe.out.now HLwf.out)
  have HSf := Lib.hid (HSe.out.now HLwf.out)
  clear HXe HVe HBe HNe HRe HSe
  have HIf : Hid (Ints wf wf.heap.size (some ⟨we.heap.size, 0, none⟩) 2 [1, 2]) := hide (reads_blk HBwf.out rfl)
  with_reducible refine (HEm.out vn vr vb _ 2 2 wf HNf.out HRf.out HSf.out HIf.out (by decide)).mono ?_
  rintro e wg ⟨rfl, hb⟩
  have HXg := Lib.hid (HXf.out.below hb HXf.out.lt)
  have HVg := Lib.hid (HVf.out.now hb)
  have HBg := Lib.hid (HBf.out.trans (hb.mono HBf.out.size))
  have HNg := Lib.hid (HNf.out.now hb)
  have HRg := Lib.hid (HRf.out.now hb)
  have HSg := Lib.hid (HSf.out.now hb)
  clear HXf HVf HBf HNf HRf HSf
  clear hb HBwf HLwf hswf hlwf HIf
  go_wp2_with fail
  with_reducible refine (HCt.out _ _ HVg.out).mono ?_
  rintro e wh ⟨rfl, hb⟩
  have HBh := Lib.hid (HBg.out.trans (hb.mono HBg.out.size))
  clear hb
  go_wp2_with fail
  go_ret
  exact ⟨rfl, HBh.out⟩
end Go.Proofs.Ytihmboibpjfohaa
