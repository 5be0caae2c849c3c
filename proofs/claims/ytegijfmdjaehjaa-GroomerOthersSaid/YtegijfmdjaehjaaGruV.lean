/-
  alive of the law of chapter 45, walked.
-/
import Derived.Test.YtegijfmdjaehjaaGruS
namespace Go.Proofs.Ytegijfmdjaehjaa
open Go.RowKit

def GrX (l : List Gr) (r : Int) (w : World) (e : Ending) (w' : World) : Prop := ∃ v', e = .returned (.tuple #[v', .int .i64 r]) ∧ GrV w' w'.heap.size v' l ∧ Below w.heap.size w w'
theorem SdR.grX {r : List Gr × Int} {l : List Gr} {c : Int} {w : World} {e : Ending} {w' : World} (h : r = (l, c)) (k : SdR r w e w') : GrX l c w e w' := by
  subst h
  obtain ⟨v, rfl, h1, h2⟩ := k
  exact ⟨v, rfl, h1.strV, h2⟩
theorem gr_lit {w : World} {g n : Nat} {cs : Array Value} {t : TypeId} {l : List Gr} (h : Blk w g t cs) (hc : cs.toList = (l.map Gr.cells).flatten) (hn : l.length = n) (hs : cs.size = n * 8) (hm : n ≤ 16) : GrV w w.heap.size (.slice (some ⟨g, 0, none⟩) n n) l := by
  subst hn
  have hr : Reads w w.heap.size 8 (some ⟨g, 0, none⟩) l.length cs.toList := reads_blk h hs
  rw [hc] at hr
  exact ⟨_, _, rfl, Nat.le_refl _, by simp only [maxLen]; omega, hr⟩
set_option maxRecDepth 100000 in
set_option maxHeartbeats 8000000 in
theorem alive_any (w : World) : Calls Try.prog 11 #[] w fun e w' => e = .returned (.bool true) ∧ Below w.heap.size w w' := by
  have HW13 : Hid (∀ (vn vl vr vb : Value) (W : World), StrV Nd.cells 2 W W.heap.size vn sNd → StrV Lf.cells 8 W W.heap.size vl sLf → StrV Rn.cells 7 W W.heap.size vr sRn → Calls Try.prog 15 #[.agg #[vn, vl, vr, vb], .int .i64 1, .int .i64 3] W fun e w' => e = .returned (.tuple #[.int .i64 2000, .bool true]) ∧ Below W.heap.size W w') := fun vn vl vr vb W h1 h2 h3 => by
    have h := way_any vn vl vr vb sNd sLf sRn 1 3 W h1 h2 h3 s_wy
    rw [s_way13] at h
    exact h
  have HW14 : Hid (∀ (vn vl vr vb : Value) (W : World), StrV Nd.cells 2 W W.heap.size vn sNd → StrV Lf.cells 8 W W.heap.size vl sLf → StrV Rn.cells 7 W W.heap.size vr sRn → Calls Try.prog 15 #[.agg #[vn, vl, vr, vb], .int .i64 1, .int .i64 4] W fun e w' => e = .returned (.tuple #[.int .i64 0, .bool false]) ∧ Below W.heap.size W w') := fun vn vl vr vb W h1 h2 h3 => by
    have h := way_any vn vl vr vb sNd sLf sRn 1 4 W h1 h2 h3 s_wy
    rw [s_way14] at h
    exact h
  have HSe : Hid (∀ (vn vl vr vb v : Value) (W : World), StrV Nd.cells 2 W W.heap.size vn sNd → StrV Lf.cells 8 W W.heap.size vl sLf → StrV Rn.cells 7 W W.heap.size vr sRn → GrV W W.heap.size v aG0 → Calls Try.prog 18 #[.agg #[vn, vl, vr, vb], v, .int .i64 4, .int .i64 3, .int .i64 100] W (GrX aG1 0 W)) := fun vn vl vr vb v W h1 h2 h3 h4 => (gsend_any vn vl vr vb sNd sLf sRn v aG0 4 3 100 W h1 h2 h3 h4 s_wy aG_in.1 (by decide)).mono fun e w' h => h.grX s_send
  have HGr : Hid (∀ (vn vl vr vb v : Value) (W : World), StrV Nd.cells 2 W W.heap.size vn sNd → StrV Lf.cells 8 W W.heap.size vl sLf → StrV Rn.cells 7 W W.heap.size vr sRn → GrV W W.heap.size v aG1 → Calls Try.prog 21 #[.agg #[vn, vl, vr, vb], v, .int .i64 5, .int .i64 11, .int .i64 600, .int .i64 1000] W (GrX aG2 0 W)) := fun vn vl vr vb v W h1 h2 h3 h4 => (ggroom_any vn vl vr vb sRn v aG1 5 11 600 1000 W h3 h4 aG_in.2.1 (by decide)).mono fun e w' h => h.grX s_groom
  have HGc : Hid (∀ (vn vl vr vb v : Value) (W : World), StrV Nd.cells 2 W W.heap.size vn sNd → StrV Lf.cells 8 W W.heap.size vl sLf → StrV Rn.cells 7 W W.heap.size vr sRn → GrV W W.heap.size v aG0 → Calls Try.prog 21 #[.agg #[vn, vl, vr, vb], v, .int .i64 4, .int .i64 11, .int .i64 600, .int .i64 1000] W (GrX [] 15 W)) := fun vn vl vr vb v W h1 h2 h3 h4 => (ggroom_any vn vl vr vb sRn v aG0 4 11 600 1000 W h3 h4 aG_in.1 (by decide)).mono fun e w' h => h.grX s_conflict
  have HSs : Hid (∀ (vn vl vr vb v : Value) (W : World), StrV Nd.cells 2 W W.heap.size vn sNd → StrV Lf.cells 8 W W.heap.size vl sLf → StrV Rn.cells 7 W W.heap.size vr sRn → GrV W W.heap.size v aG1 → Calls Try.prog 18 #[.agg #[vn, vl, vr, vb], v, .int .i64 4, .int .i64 1, .int .i64 100] W (GrX [] 10 W)) := fun vn vl vr vb v W h1 h2 h3 h4 => (gsend_any vn vl vr vb sNd sLf sRn v aG1 4 1 100 W h1 h2 h3 h4 s_wy aG_in.2.1 (by decide)).mono fun e w' h => h.grX s_state
  have HTk : Hid (∀ (vn vl vr vb v : Value) (W : World), StrV Nd.cells 2 W W.heap.size vn sNd → StrV Lf.cells 8 W W.heap.size vl sLf → StrV Rn.cells 7 W W.heap.size vr sRn → GrV W W.heap.size v aG2 → Calls Try.prog 23 #[.agg #[vn, vl, vr, vb], v, .int .i64 1600] W fun e w' => ∃ v' f', e = .returned (.tuple #[v', f']) ∧ GrV w' w'.heap.size v' aG3 ∧ RowV w' w'.heap.size f' [11] ∧ Below W.heap.size W w') := fun vn vl vr vb v W h1 h2 h3 h4 => by
    refine (gtick_any vn vl vr vb sRn v aG2 1600 W h3 h4 (by decide)).mono ?_
    rintro e w' ⟨v', f', rfl, k1, k2, k3⟩
    rw [s_tick] at k1
    rw [s_done] at k2
    exact ⟨v', f', rfl, k1.strV, own_open k2, k3⟩
  have HOn : Hid (∀ (l : List Gr) (b : Bool) (v : Value) (W : World), onG l 11 = b → GrV W W.heap.size v l → Calls Try.prog 26 #[v, .int .i64 11] W fun e w' => e = .returned (.bool b) ∧ Below W.heap.size W w') := fun l b v W h h1 => by
    have k := gon_any v l 11 W h1
    rwa [h] at k
  have HO2 : Hid (onG aG2 11 = true) := hide (by decide +kernel)
  have HO3 : Hid (onG aG3 11 = false) := hide (by decide +kernel)
  have HRi : Hid (∀ (v : Value) (W : World), GrV W W.heap.size v aG2 → Calls Try.prog 12 #[v] W fun e w' => e = .returned (.int .i64 0) ∧ Below W.heap.size W w') := fun v W h => by
    refine (gright_any v aG2 W h).mono ?_
    rintro e w' ⟨rfl, hb⟩
    rw [s_right]
    exact ⟨rfl, hb⟩
  go_enter Try.func11, Try.ntmps11
  go_wp2_with fail
  with_reducible refine (small_any _).mono ?_
  rintro e w1 ⟨vn, vl, vr, vb, rfl, hn, hl, hr, hbs, hb⟩
  have HB1 := Lib.hid hb
  have HN1 := Lib.hid hn
  have HL1 := Lib.hid hl
  have HR1 := Lib.hid hr
  have hcs : #[vn, vl, vr, vb].all (·.oneCell') = true := by
    obtain ⟨_, _, _, rfl, _⟩ := hn.nam
    obtain ⟨_, _, _, rfl, _⟩ := hl.nam
    obtain ⟨_, _, _, rfl, _⟩ := hr.nam
    obtain ⟨_, _, _, rfl, _⟩ := hbs.nam
    simp [Value.oneCell']
  clear hn hl hr hbs hb
  go_upto_region 2 with (refine wpList_store_blk rfl 32 (.tmp 1) (.tmp 17) rfl w1.heap.size #[vn, vl, vr, vb] rfl rfl _ _ (Blk.new w1 32 #[.slice none 0 0, .slice none 0 0, .slice none 0 0, .slice none 0 0]) (by kernel_rfl) rfl hcs ?_
                         intro w2 hx2 hon2
                         have hb2 := hon2.below (below_new w1 (.cells #[.slice none 0 0, .slice none 0 0, .slice none 0 0, .slice none 0 0] 32)) (Nat.le_refl _)
                         have HX2 := Lib.hid hx2
                         clear hx2 hon2)
  have HB2 := Lib.hid (HB1.out.trans (hb2.mono HB1.out.size))
  have HN2 := Lib.hid (HN1.out.now hb2)
  have HL2 := Lib.hid (HL1.out.now hb2)
  have HR2 := Lib.hid (HR1.out.now hb2)
  clear HB1 HN1 HL1 HR1
  clear hb2 hcs
  go_upto_region 3 with (fail)
  have HBw3 := (Blk.new w2 51 #[.int .i64 4, .int .i64 1, .int .i64 5000, .int .i64 0, .int .i64 0, .int .i64 0, .int .i64 0, .bool false, .int .i64 5, .int .i64 2, .int .i64 5000, .int .i64 0, .int .i64 0, .int .i64 0, .int .i64 0, .bool false])
  have HLw3 := (below_new w2 (.cells #[.int .i64 4, .int .i64 1, .int .i64 5000, .int .i64 0, .int .i64 0, .int .i64 0, .int .i64 0, .bool false, .int .i64 5, .int .i64 2, .int .i64 5000, .int .i64 0, .int .i64 0, .int .i64 0, .int .i64 0, .bool false] 51))
  have hsw3 : (w2.alloc (.cells #[.int .i64 4, .int .i64 1, .int .i64 5000, .int .i64 0, .int .i64 0, .int .i64 0, .int .i64 0, .bool false, .int .i64 5, .int .i64 2, .int .i64 5000, .int .i64 0, .int .i64 0, .int .i64 0, .int .i64 0, .bool false] 51)).heap.size = w2.heap.size + 1 := by simp
  generalize w2.alloc (.cells #[.int .i64 4, .int .i64 1, .int .i64 5000, .int .i64 0, .int .i64 0, .int .i64 0, .int .i64 0, .bool false, .int .i64 5, .int .i64 2, .int .i64 5000, .int .i64 0, .int .i64 0, .int .i64 0, .int .i64 0, .bool false] 51) = w3 at HBw3 HLw3 hsw3 ⊢
  replace HBw3 := Lib.hid HBw3
  replace HLw3 := Lib.hid HLw3
  have hlw3 : w2.heap.size < w3.heap.size := by omega
  replace hsw3 := Lib.hid hsw3
  have hb3 := HLw3.out
  have HB3 := Lib.hid (HB2.out.trans (hb3.mono HB2.out.size))
  have HN3 := Lib.hid (HN2.out.now hb3)
  have HL3 := Lib.hid (HL2.out.now hb3)
  have HR3 := Lib.hid (HR2.out.now hb3)
  have HX3 := Lib.hid (HX2.out.below hb3 HX2.out.lt)
  clear HB2 HN2 HL2 HR2 HX2
  have HV03 : Hid (GrV w3 w3.heap.size (.slice (some ⟨w2.heap.size, 0, none⟩) 2 2) aG0) := hide (gr_lit HBw3.out rfl rfl rfl (by decide))
  clear hb3 HBw3 HLw3 hsw3 hlw3
  go_wp2_with (refine wpList_load_g 32 (.tmp 1) rfl rfl w1.heap.size rfl _ _ HX3.out _ Try.underlying32 rfl (by kernel_rfl) ?_)
  with_reducible refine (HW13.out vn vl vr vb _ HN3.out HL3.out HR3.out).mono ?_
  rintro e w4 ⟨rfl, hb⟩
  have HB4 := Lib.hid (HB3.out.trans (hb.mono HB3.out.size))
  have HN4 := Lib.hid (HN3.out.now hb)
  have HL4 := Lib.hid (HL3.out.now hb)
  have HR4 := Lib.hid (HR3.out.now hb)
  have HX4 := Lib.hid (HX3.out.below hb HX3.out.lt)
  have HV04 := Lib.hid (HV03.out.now hb)
  clear HB3 HN3 HL3 HR3 HX3 HV03
  clear hb
  go_wp2_with (refine wpList_load_g 32 (.tmp 1) rfl rfl w1.heap.size rfl _ _ HX4.out _ Try.underlying32 rfl (by kernel_rfl) ?_)
  with_reducible refine (HW14.out vn vl vr vb _ HN4.out HL4.out HR4.out).mono ?_
  rintro e w5 ⟨rfl, hb⟩
  have HB5 := Lib.hid (HB4.out.trans (hb.mono HB4.out.size))
  have HN5 := Lib.hid (HN4.out.now hb)
  have HL5 := Lib.hid (HL4.out.now hb)
  have HR5 := Lib.hid (HR4.out.now hb)
  have HX5 := Lib.hid (HX4.out.below hb HX4.out.lt)
  have HV05 := Lib.hid (HV04.out.now hb)
  clear HB4 HN4 HL4 HR4 HX4 HV04
  clear hb
  go_wp2_with (refine wpList_load_g 32 (.tmp 1) rfl rfl w1.heap.size rfl _ _ HX5.out _ Try.underlying32 rfl (by kernel_rfl) ?_)
  with_reducible refine (HSe.out vn vl vr vb _ _ HN5.out HL5.out HR5.out HV05.out).mono ?_
  rintro e w6 ⟨va, rfl, hva, hb⟩
  have HB6 := Lib.hid (HB5.out.trans (hb.mono HB5.out.size))
  have HN6 := Lib.hid (HN5.out.now hb)
  have HL6 := Lib.hid (HL5.out.now hb)
  have HR6 := Lib.hid (HR5.out.now hb)
  have HX6 := Lib.hid (HX5.out.below hb HX5.out.lt)
  have HV06 := Lib.hid (HV05.out.now hb)
  clear HB5 HN5 HL5 HR5 HX5 HV05
  clear hb
  have HVa6 := Lib.hid hva
  clear hva
  go_wp2_with (refine wpList_load_g 32 (.tmp 1) rfl rfl w1.heap.size rfl _ _ HX6.out _ Try.underlying32 rfl (by kernel_rfl) ?_)
  with_reducible refine (HGr.out vn vl vr vb _ _ HN6.out HL6.out HR6.out HVa6.out).mono ?_
  rintro e w7 ⟨v2, rfl, hva, hb⟩
  have HB7 := Lib.hid (HB6.out.trans (hb.mono HB6.out.size))
  have HN7 := Lib.hid (HN6.out.now hb)
  have HL7 := Lib.hid (HL6.out.now hb)
  have HR7 := Lib.hid (HR6.out.now hb)
  have HX7 := Lib.hid (HX6.out.below hb HX6.out.lt)
  have HV07 := Lib.hid (HV06.out.now hb)
  have HVa7 := Lib.hid (HVa6.out.now hb)
  clear HB6 HN6 HL6 HR6 HX6 HV06 HVa6
  clear hb
  have HVb7 := Lib.hid hva
  clear hva
  go_wp2_with (refine wpList_load_g 32 (.tmp 1) rfl rfl w1.heap.size rfl _ _ HX7.out _ Try.underlying32 rfl (by kernel_rfl) ?_)
  with_reducible refine (HTk.out vn vl vr vb _ _ HN7.out HL7.out HR7.out HVb7.out).mono ?_
  rintro e w8 ⟨v3, vi, rfl, hva, hvi, hb⟩
  have HB8 := Lib.hid (HB7.out.trans (hb.mono HB7.out.size))
  have HN8 := Lib.hid (HN7.out.now hb)
  have HL8 := Lib.hid (HL7.out.now hb)
  have HR8 := Lib.hid (HR7.out.now hb)
  have HX8 := Lib.hid (HX7.out.below hb HX7.out.lt)
  have HV08 := Lib.hid (HV07.out.now hb)
  have HVa8 := Lib.hid (HVa7.out.now hb)
  have HVb8 := Lib.hid (HVb7.out.now hb)
  clear HB7 HN7 HL7 HR7 HX7 HV07 HVa7 HVb7
  clear hb
  have HVc8 := Lib.hid hva
  have HVi8 := Lib.hid hvi
  clear hva hvi
  go_wp2_with (refine wpList_load_g 32 (.tmp 1) rfl rfl w1.heap.size rfl _ _ HX8.out _ Try.underlying32 rfl (by kernel_rfl) ?_)
  with_reducible refine (HGc.out vn vl vr vb _ _ HN8.out HL8.out HR8.out HV08.out).mono ?_
  rintro e w9 ⟨v4, rfl, _, hb⟩
  have HB9 := Lib.hid (HB8.out.trans (hb.mono HB8.out.size))
  have HN9 := Lib.hid (HN8.out.now hb)
  have HL9 := Lib.hid (HL8.out.now hb)
  have HR9 := Lib.hid (HR8.out.now hb)
  have HX9 := Lib.hid (HX8.out.below hb HX8.out.lt)
  have HV09 := Lib.hid (HV08.out.now hb)
  have HVa9 := Lib.hid (HVa8.out.now hb)
  have HVb9 := Lib.hid (HVb8.out.now hb)
  have HVc9 := Lib.hid (HVc8.out.now hb)
  have HVi9 := Lib.hid (HVi8.out.now hb)
  clear HB8 HN8 HL8 HR8 HX8 HV08 HVa8 HVb8 HVc8 HVi8
  clear hb
  clear HV09
  go_wp2_with (refine wpList_load_g 32 (.tmp 1) rfl rfl w1.heap.size rfl _ _ HX9.out _ Try.underlying32 rfl (by kernel_rfl) ?_)
  with_reducible refine (HSs.out vn vl vr vb _ _ HN9.out HL9.out HR9.out HVa9.out).mono ?_
  rintro e w10 ⟨v5, rfl, _, hb⟩
  have HB10 := Lib.hid (HB9.out.trans (hb.mono HB9.out.size))
  have HN10 := Lib.hid (HN9.out.now hb)
  have HL10 := Lib.hid (HL9.out.now hb)
  have HR10 := Lib.hid (HR9.out.now hb)
  have HX10 := Lib.hid (HX9.out.below hb HX9.out.lt)
  have HVa10 := Lib.hid (HVa9.out.now hb)
  have HVb10 := Lib.hid (HVb9.out.now hb)
  have HVc10 := Lib.hid (HVc9.out.now hb)
  have HVi10 := Lib.hid (HVi9.out.now hb)
  clear HB9 HN9 HL9 HR9 HX9 HVa9 HVb9 HVc9 HVi9
  clear hb
  clear HVa10 HN10 HL10 HR10 HX10
  go_wp2_with fail
  with_reducible refine (HOn.out _ _ _ _ HO2.out HVb10.out).mono ?_
  rintro e w11 ⟨rfl, hb⟩
  have HB11 := Lib.hid (HB10.out.trans (hb.mono HB10.out.size))
  have HVb11 := Lib.hid (HVb10.out.now hb)
  have HVc11 := Lib.hid (HVc10.out.now hb)
  have HVi11 := Lib.hid (HVi10.out.now hb)
  clear HB10 HVb10 HVc10 HVi10
  clear hb
  go_wp2_with fail
  with_reducible refine (HOn.out _ _ _ _ HO3.out HVc11.out).mono ?_
  rintro e w12 ⟨rfl, hb⟩
  have HB12 := Lib.hid (HB11.out.trans (hb.mono HB11.out.size))
  have HVb12 := Lib.hid (HVb11.out.now hb)
  have HVc12 := Lib.hid (HVc11.out.now hb)
  have HVi12 := Lib.hid (HVi11.out.now hb)
  clear HB11 HVb11 HVc11 HVi11
  clear hb
  go_wp2_with fail
  have HBw13 := (Blk.new w12 51 #[.int .i64 4, .int .i64 1, .int .i64 1000, .int .i64 1, .int .i64 3, .int .i64 0, .int .i64 767, .bool false, .int .i64 5, .int .i64 2, .int .i64 2000, .int .i64 2, .int .i64 0, .int .i64 11, .int .i64 1600, .bool false])
  have HLw13 := (below_new w12 (.cells #[.int .i64 4, .int .i64 1, .int .i64 1000, .int .i64 1, .int .i64 3, .int .i64 0, .int .i64 767, .bool false, .int .i64 5, .int .i64 2, .int .i64 2000, .int .i64 2, .int .i64 0, .int .i64 11, .int .i64 1600, .bool false] 51))
  have hsw13 : (w12.alloc (.cells #[.int .i64 4, .int .i64 1, .int .i64 1000, .int .i64 1, .int .i64 3, .int .i64 0, .int .i64 767, .bool false, .int .i64 5, .int .i64 2, .int .i64 2000, .int .i64 2, .int .i64 0, .int .i64 11, .int .i64 1600, .bool false] 51)).heap.size = w12.heap.size + 1 := by simp
  generalize w12.alloc (.cells #[.int .i64 4, .int .i64 1, .int .i64 1000, .int .i64 1, .int .i64 3, .int .i64 0, .int .i64 767, .bool false, .int .i64 5, .int .i64 2, .int .i64 2000, .int .i64 2, .int .i64 0, .int .i64 11, .int .i64 1600, .bool false] 51) = w13 at HBw13 HLw13 hsw13 ⊢
  replace HBw13 := Lib.hid HBw13
  replace HLw13 := Lib.hid HLw13
  have hlw13 : w12.heap.size < w13.heap.size := by omega
  replace hsw13 := Lib.hid hsw13
  have hb13 := HLw13.out
  have HB13 := Lib.hid (HB12.out.trans (hb13.mono HB12.out.size))
  have HVb13 := Lib.hid (HVb12.out.now hb13)
  have HVc13 := Lib.hid (HVc12.out.now hb13)
  have HVi13 := Lib.hid (HVi12.out.now hb13)
  clear HB12 HVb12 HVc12 HVi12
  have HY13 : Hid (GrV w13 w13.heap.size (.slice (some ⟨w12.heap.size, 0, none⟩) 2 2) aG2) := hide (gr_lit HBw13.out rfl rfl rfl (by decide))
  clear hb13 HBw13 HLw13 hsw13 hlw13
  with_reducible refine (rgsame_any _ _ aG2 w13 HVb13.out HY13.out).mono ?_
  rintro e w14 ⟨rfl, hb⟩
  have HB14 := Lib.hid (HB13.out.trans (hb.mono HB13.out.size))
  have HVb14 := Lib.hid (HVb13.out.now hb)
  have HVc14 := Lib.hid (HVc13.out.now hb)
  have HVi14 := Lib.hid (HVi13.out.now hb)
  have HY14 := Lib.hid (HY13.out.now hb)
  clear HB13 HVb13 HVc13 HVi13 HY13
  clear hb
  clear HY14
  go_wp2_with fail
  have HBw15 := (Blk.new w14 51 #[.int .i64 4, .int .i64 3, .int .i64 1000, .int .i64 0, .int .i64 0, .int .i64 0, .int .i64 767, .bool false, .int .i64 5, .int .i64 2, .int .i64 2000, .int .i64 0, .int .i64 0, .int .i64 0, .int .i64 1600, .bool false])
  have HLw15 := (below_new w14 (.cells #[.int .i64 4, .int .i64 3, .int .i64 1000, .int .i64 0, .int .i64 0, .int .i64 0, .int .i64 767, .bool false, .int .i64 5, .int .i64 2, .int .i64 2000, .int .i64 0, .int .i64 0, .int .i64 0, .int .i64 1600, .bool false] 51))
  have hsw15 : (w14.alloc (.cells #[.int .i64 4, .int .i64 3, .int .i64 1000, .int .i64 0, .int .i64 0, .int .i64 0, .int .i64 767, .bool false, .int .i64 5, .int .i64 2, .int .i64 2000, .int .i64 0, .int .i64 0, .int .i64 0, .int .i64 1600, .bool false] 51)).heap.size = w14.heap.size + 1 := by simp
  generalize w14.alloc (.cells #[.int .i64 4, .int .i64 3, .int .i64 1000, .int .i64 0, .int .i64 0, .int .i64 0, .int .i64 767, .bool false, .int .i64 5, .int .i64 2, .int .i64 2000, .int .i64 0, .int .i64 0, .int .i64 0, .int .i64 1600, .bool false] 51) = w15 at HBw15 HLw15 hsw15 ⊢
  replace HBw15 := Lib.hid HBw15
  replace HLw15 := Lib.hid HLw15
  have hlw15 : w14.heap.size < w15.heap.size := by omega
  replace hsw15 := Lib.hid hsw15
  have hb15 := HLw15.out
  have HB15 := Lib.hid (HB14.out.trans (hb15.mono HB14.out.size))
  have HVb15 := Lib.hid (HVb14.out.now hb15)
  have HVc15 := Lib.hid (HVc14.out.now hb15)
  have HVi15 := Lib.hid (HVi14.out.now hb15)
  clear HB14 HVb14 HVc14 HVi14
  have HY15 : Hid (GrV w15 w15.heap.size (.slice (some ⟨w14.heap.size, 0, none⟩) 2 2) aG3) := hide (gr_lit HBw15.out rfl rfl rfl (by decide))
  clear hb15 HBw15 HLw15 hsw15 hlw15
  with_reducible refine (rgsame_any _ _ aG3 w15 HVc15.out HY15.out).mono ?_
  rintro e w16 ⟨rfl, hb⟩
  have HB16 := Lib.hid (HB15.out.trans (hb.mono HB15.out.size))
  have HVb16 := Lib.hid (HVb15.out.now hb)
  have HVc16 := Lib.hid (HVc15.out.now hb)
  have HVi16 := Lib.hid (HVi15.out.now hb)
  have HY16 := Lib.hid (HY15.out.now hb)
  clear HB15 HVb15 HVc15 HVi15 HY15
  clear hb
  clear HY16
  go_wp2_with fail
  have HBw17 := (Blk.new w16 3 #[.int .i64 11])
  have HLw17 := (below_new w16 (.cells #[.int .i64 11] 3))
  have hsw17 : (w16.alloc (.cells #[.int .i64 11] 3)).heap.size = w16.heap.size + 1 := by simp
  generalize w16.alloc (.cells #[.int .i64 11] 3) = w17 at HBw17 HLw17 hsw17 ⊢
  replace HBw17 := Lib.hid HBw17
  replace HLw17 := Lib.hid HLw17
  have hlw17 : w16.heap.size < w17.heap.size := by omega
  replace hsw17 := Lib.hid hsw17
  have hb17 := HLw17.out
  have HB17 := Lib.hid (HB16.out.trans (hb17.mono HB16.out.size))
  have HVb17 := Lib.hid (HVb16.out.now hb17)
  have HVc17 := Lib.hid (HVc16.out.now hb17)
  have HVi17 := Lib.hid (HVi16.out.now hb17)
  clear HB16 HVb16 HVc16 HVi16
  have HZ17 : Hid (RowV w17 w17.heap.size (.slice (some ⟨w16.heap.size, 0, none⟩) 1 1) [11]) := hide ⟨_, _, rfl, Nat.le_refl _, by simp [maxLen], reads_blk HBw17.out rfl⟩
  clear hb17 HBw17 HLw17 hsw17 hlw17
  with_reducible refine (same_ints _ _ [11] [11] true w17 HVi17.out HZ17.out (by decide)).mono ?_
  rintro e w18 ⟨rfl, hb⟩
  have HB18 := Lib.hid (HB17.out.trans (hb.mono HB17.out.size))
  have HVb18 := Lib.hid (HVb17.out.now hb)
  have HVc18 := Lib.hid (HVc17.out.now hb)
  have HVi18 := Lib.hid (HVi17.out.now hb)
  clear HB17 HVb17 HVc17 HVi17
  clear hb
  go_wp2_with fail
  with_reducible refine (HRi.out _ _ HVb18.out).mono ?_
  rintro e w19 ⟨rfl, hb⟩
  have HB19 := Lib.hid (HB18.out.trans (hb.mono HB18.out.size))
  have HVb19 := Lib.hid (HVb18.out.now hb)
  have HVc19 := Lib.hid (HVc18.out.now hb)
  have HVi19 := Lib.hid (HVi18.out.now hb)
  clear HB18 HVb18 HVc18 HVi18
  clear hb
  go_wp2_with fail
  go_ret
  exact ⟨rfl, HB19.out⟩
end Go.Proofs.Ytegijfmdjaehjaa
