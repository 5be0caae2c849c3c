/-
  network.copied, walked.
-/
import Derived.Test.YtedeggjefnpjgaaDivA
import Derived.Test.YtedeggjefnpjgaaMatOwn
namespace Go.Proofs.Ytedeggjefnpjgaa
open Go.RowKit

set_option maxHeartbeats 400000 in
theorem clone_i (A : Option Addr) (n c B : Nat) (l : List Int) (w : World) (hr : Ints w B A n l) (hn : n ≤ 1000000) (hB : B ≤ w.heap.size) :
    Calls Try.prog 29 #[.slice A n c] w fun e w' => ∃ v, e = .returned v ∧ w'.ownsRow w.heap.size 3 1 v n (l.map (Value.int .i64)) ∧ Below w.heap.size w w' := by
  have HR := Lib.hid hr
  have HL := Lib.hid hr.ilen
  clear hr
  have q : ∀ (w : World) (a : Option Addr) (n c n' c' : Nat), (binOp .eql 24 (.slice a n c) (.slice none n' c')).run Try.prog w = .ok (.bool a.isNone) w := fun w a n c n' c' => Lib.run_eql_slice_nil w _ _ a n c n' c' Try.underlying24
  cases A with
  | none =>
    have hn0 : n = 0 := by
      rcases Nat.eq_zero_or_pos n with h | h
      · exact h
      · obtain ⟨ad, h1, _⟩ := HR.out.2 h
        cases h1
    subst hn0
    go_enter Try.func29, Try.ntmps29
    go_wp2
    go_ret
    refine ⟨_, rfl, ?_, Below.refl _ _⟩
    rw [List.eq_nil_of_length_eq_zero HL.out]
    exact World.ownsRow_nil _ _ _ _
  | some ad =>
    go_enter Try.func29, Try.ntmps29
    go_wp2_with
      (at_builtin
       refine wpList_app _ ei_ints rfl (.tmp 5) (.tmp 6) rfl w.heap.size (.slice (some ⟨w.heap.size, 0, none⟩) 0 0) 0 [] rfl (World.ownsRow_lit w #[] 0 (Nat.le_refl _) (by simp [maxLen]) rfl) B (some ad) n c (l.map (Value.int .i64)) rfl (HR.out.alloc hB _) (oneCell_ints l) (by simp only [maxLen]; omega) (by omega) (by simp) ?_
       intro v2 w2 hown2 _ hbw2 _
       have hbw : Below w.heap.size w w2 := ((Below.refl _ _).alloc (Nat.le_refl _) _).trans hbw2
       simp only [Nat.zero_add, List.nil_append] at hown2
       have HO := Lib.hid hown2
       clear hown2 hbw2)
    go_ret
    exact ⟨_, rfl, HO.out, hbw⟩



theorem grownL_alloc {w w' : World} {o : Obj} {row : Option Nat} (h : (w.alloc o).grownBy w' row) : w.grownBy w' row :=
  ⟨h.os, h.tape, h.output, by have := h.size; simp at this; omega, fun k hk hne => (h.block k (by simp; omega) hne).trans (Below.heap_alloc w o k hk)⟩
/-- a slice of letters of the call's own, with bodies of the call's own -/
def OwnLs (w : World) (base : Nat) (v : Value) (l : List Lt) : Prop :=
  ∃ zs : List Value, zs.length = l.length ∧ w.ownsRow base 58 3 v l.length (List.zipWith Lt.cells l zs).flatten ∧ ∀ (i : Nat) (b : Lt) (z : Value), l[i]? = some b → zs[i]? = some z → OwnB w base z b.bd
theorem OwnLs.of_nil {w : World} {base : Nat} {v : Value} (h : w.ownsRow base 58 3 v 0 []) : OwnLs w base v [] := ⟨[], rfl, h, fun i b z h => by cases h⟩
theorem OwnB.bytV {w : World} {base : Nat} {v : Value} {l : List UInt8} (h : OwnB w base v l) : BytV w w.heap.size v l := by
  obtain ⟨A, c, rfl, h1, h2, h3⟩ := h.open_
  exact ⟨A, c, rfl, h1, h2, h3⟩
theorem OwnLs.nam {w : World} {base : Nat} {v : Value} {l : List Lt} (h : OwnLs w base v l) : ∃ A n c, v = .slice A n c ∧ Hid (l.length = n) ∧ n ≤ c ∧ c ≤ maxLen ∧ Lts w w.heap.size A n l := by
  obtain ⟨zs, h1, h2, h3⟩ := h
  obtain ⟨A, c, rfl, k1, k2, k3⟩ := own_open h2
  exact ⟨A, _, c, rfl, hide rfl, k1, k2, zs, h1, rfl, k3, fun i b z hb hz => (h3 i b z hb hz).bytV⟩
theorem OwnLs.now {w w' : World} {base : Nat} {v : Value} {l : List Lt} (h : OwnLs w base v l) (hb : Below w.heap.size w w') : OwnLs w' base v l := by
  obtain ⟨zs, h1, h2, h3⟩ := h
  exact ⟨zs, h1, own_below h2 hb (Nat.le_refl _), fun i b z hi hz => own_below (h3 i b z hi hz) hb (Nat.le_refl _)⟩
theorem OwnLs.only {w w' : World} {base g : Nat} {v : Value} {l : List Lt} (h : OwnLs w base v l) (ho : Only g w w') (hg : g < base) : OwnLs w' base v l := by
  obtain ⟨zs, h1, h2, h3⟩ := h
  have ne : ∀ {u : Value} {e : TypeId} {s n : Nat} {xs : List Value}, w.ownsRow base e s u n xs → u.ownBlock ≠ some g := fun hu e => by
    have := (hu.lt _ e).1
    omega
  exact ⟨zs, h1, ho.own h2 (ne h2), fun i b z hb hz => ho.own (h3 i b z hb hz) (ne (h3 i b z hb hz))⟩
theorem OwnLs.mono {w : World} {base base' : Nat} {v : Value} {l : List Lt} (h : OwnLs w base v l) (hb : base' ≤ base) : OwnLs w base' v l := by
  obtain ⟨zs, h1, h2, h3⟩ := h
  exact ⟨zs, h1, own_mono h2 hb, fun i b z hi hz => OwnB.mono (h3 i b z hi hz) hb⟩
/-- what is known of a row that grows -/
theorem OwnLs.parts {w : World} {base n : Nat} {v : Value} {l : List Lt} (h : OwnLs w base v l) (hn : l.length = n) : ∃ xs, w.ownsRow base 58 3 v n xs ∧ ∀ (w' : World) (v' : Value) (t : Lt) (z : Value), w'.ownsRow base 58 3 v' (n + 1) (xs ++ t.cells z) → w.grownBy w' v.ownBlock → OwnB w base z t.bd → OwnLs w' base v' (l ++ [t]) := by
  subst hn
  obtain ⟨zs, h1, h2, h3⟩ := h
  have kp : ∀ (w' : World) (z : Value) (bd : List UInt8), w.grownBy w' v.ownBlock → OwnB w base z bd → OwnB w' base z bd := fun w' z bd hg hz => World.ownsRow.kept hz hg (own_ne hz h2 (by decide))
  refine ⟨_, h2, fun w' v' t z ho hg hz => ⟨zs ++ [z], by simp [h1], ?_, fun i b z' hb hz' => ?_⟩⟩
  · rw [zipL_snoc h1, List.length_append]
    exact ho
  · rcases Nat.lt_or_ge i l.length with hi | hi
    · rw [List.getElem?_append_left hi] at hb
      rw [List.getElem?_append_left (by omega)] at hz'
      exact kp _ _ _ hg (h3 i b z' hb hz')
    · rw [List.getElem?_append_right hi] at hb
      rw [List.getElem?_append_right (by omega), h1] at hz'
      cases hj : i - l.length with
      | zero =>
        rw [hj] at hb hz'
        simp at hb hz'
        subst hb hz'
        exact kp _ _ _ hg hz
      | succ j => rw [hj] at hb; simp at hb
def CopR (ps : List Int) (ms : List Lt) (w : World) (e : Ending) (w' : World) : Prop := ∃ vp vm, e = .returned (.agg #[vp, vm]) ∧ w'.ownsRow w.heap.size 3 1 vp 2 (ps.map (Value.int .i64)) ∧ OwnLs w' w.heap.size vm ms ∧ Below w.heap.size w w'
set_option maxRecDepth 100000 in
set_option maxHeartbeats 4000000 in
theorem ncopied_any (pA : Option Addr) (pc : Nat) (mA : Option Addr) (mn mc : Nat) (ps : List Int) (ms : List Lt) (w : World) (hp : Ints w w.heap.size pA 2 ps) (hm : Lts w w.heap.size mA mn ms) (hn : mn ≤ 256) (hbl : ∀ m ∈ ms, m.bd.length ≤ 2000) :
    Calls Try.prog 25 #[.agg #[.slice pA 2 pc, .slice mA mn mc]] w (CopR ps ms w) := by
  have HP := Lib.hid hp
  have HM := Lib.hid hm
  have HL := Lib.hid hm.len
  have HBl : Hid (∀ k, k < mn → (ms.getD k lt0).bd.length ≤ 2000) := fun k hk => hbl _ (by
    have hk' : k < ms.length := by rw [hm.len]; exact hk
    have e : ms.getD k lt0 = ms[k] := by simp [List.getElem?_eq_getElem hk']
    rw [e]
    exact List.getElem_mem hk')
  have HFin : Hid (∀ vp vm w', w'.ownsRow w.heap.size 3 1 vp 2 (ps.map (Value.int .i64)) → OwnLs w' w.heap.size vm ms → Below w.heap.size w w' → CopR ps ms w (.returned (.agg #[vp, vm])) w') := fun vp vm w' h1 h2 h3 => ⟨vp, vm, rfl, h1, h2, h3⟩
  obtain ⟨i0, hi0, hz0, hz1, hz2⟩ := info_parts (show (Try.prog.info? 58).map (fun i => (i.zero, i.size, i.bytes)) = some (some (.agg #[.int .i64 0, .int .i64 0, .slice none 0 0]), 3, 40) by kernel_rfl)
  have HI := Lib.hid (And.intro hi0 (And.intro hz0 (And.intro hz1 hz2)))
  generalize CopR ps ms w = RR at *
  clear hp hm hbl hi0 hz0 hz1 hz2
  go_enter Try.func25, Try.ntmps25
  go_upto_region 1 with (fail)
  have hwz : (w.alloc (Obj.cells #[Value.slice pA 2 pc, Value.slice mA mn mc] 27)).heap.size = w.heap.size + 1 := by simp
  obtain ⟨w0, hw0⟩ : ∃ W, w.alloc (Obj.cells #[Value.slice pA 2 pc, Value.slice mA mn mc] 27) = W := ⟨_, rfl⟩
  rw [hw0] at hwz ⊢
  have HX0 : Hid (Blk w0 w.heap.size 27 #[.slice pA 2 pc, .slice mA mn mc]) := hide (by rw [← hw0]; exact Blk.new w _ _)
  have HB0 : Hid (Below w.heap.size w w0) := hide (by rw [← hw0]; exact below_new w _)
  obtain ⟨w1, hw1⟩ : ∃ W, w0.alloc (Obj.cells #[Value.slice none 0 0, Value.slice none 0 0] 27) = W := ⟨_, rfl⟩
  rw [hw1]
  have HY1 : Hid (Blk w1 (w.heap.size + 1) 27 #[.slice none 0 0, .slice none 0 0]) := hide (by rw [← hw1, ← hwz]; exact Blk.new w0 _ _)
  have hb1 : Below w0.heap.size w0 w1 := by rw [← hw1]; exact below_new w0 _
  have HX1 := Lib.hid (HX0.out.below hb1 (by omega))
  have HB1 := Lib.hid (HB0.out.trans (hb1.mono HB0.out.size))
  have hs1 : w.heap.size + 2 ≤ w1.heap.size := by have := HY1.out.lt; omega
  have n1 : w1.cell? ⟨w.heap.size, 1, none⟩ = some (.slice mA mn mc) := HX1.out.cell 1
  clear hw0 hw1 hb1 hwz HX0 HB0
  go_upto_region 2 with
    (at_make
     refine wpList_make_own _ rfl (.const (.int .i64 0)) (.tmp 9) 25 rfl w1.heap.size 58 i0 (.agg #[.int .i64 0, .int .i64 0, .slice none 0 0]) 3 Try.underlying25 HI.out.1 HI.out.2.1 HI.out.2.2.1 .i64 .i64 ((mn : Int) + 1) (mn + 1) rfl rfl (by simp) (by rw [HI.out.2.2.2]; omega) (by simp only [maxLen]; omega) (Nat.le_refl _) ?_
     intro w2 hown2 hg2
     have hb2 : Below w1.heap.size w1 w2 := (Below.refl _ _).grown hg2 (Nat.le_refl _) (fun k hk => by cases hk)
     have HO2 : Hid (w2.ownsRow w1.heap.size 58 3 (.slice (some ⟨w1.heap.size, 0, none⟩) 0 (mn + 1)) 0 []) := hown2
     have HB2 := Lib.hid hb2
     clear hown2 hg2 hb2)
  have n2 : w2.cell? ⟨w.heap.size, 1, none⟩ = some (.slice mA mn mc) := (HB2.out.cell (p := ⟨w.heap.size, 1, none⟩) (by show w.heap.size < _; omega)).trans n1
  have HOn : Hid (OwnLs w2 w1.heap.size (.slice (some ⟨w1.heap.size, 0, none⟩) 0 (mn + 1)) []) := hide (OwnLs.of_nil HO2.out)
  clear n1 HO2
  go_wp2_with fail
  go_loopw [3, 14] (fun v i wr => ∃ k : Nat, k ≤ mn ∧ i = .int .i64 k ∧ OwnLs wr w1.heap.size v (ms.take k) ∧ Below w1.heap.size w1 wr) (fun _ i _ => mn - (intOf i).toNat)
  case atStart => exact ⟨0, by omega, rfl, HOn.out, HB2.out⟩
  case round =>
    obtain ⟨k, hk, rfl, hO, hbr⟩ := hrel
    obtain ⟨wo, rfl⟩ : ∃ wo : World, wo = wr := ⟨_, rfl⟩
    have HB := Lib.hid hbr
    have HO := Lib.hid hO
    obtain ⟨Av, nv, cv, rfl, HLv, hv1, hv2, _⟩ := hO.nam
    have hnv : nv = k := by rw [← HLv.out, List.length_take, HL.out]; omega
    subst hnv
    have hszo : w1.heap.size ≤ wo.heap.size := HB.out.size
    clear hO hbr
    by_cases hlt : nv < mn
    · obtain ⟨ad, z, rfl, hab, hcl, hz⟩ := ((HM.out.now HB1.out).now HB.out).at_ hlt
      have hbl := HBl.out nv hlt
      have HSn := Lib.hid (lt_take ms nv (by rw [HL.out]; exact hlt))
      generalize ms.getD nv lt0 = q at *
      obtain ⟨fr, t, bd⟩ := q
      obtain ⟨Ab, nb, cb, rfl, HLb, hb1, hb2, hzb⟩ := hz.nam
      have HCl2 : Hid (∀ i u, ([.int .i64 fr, .int .i64 t, .slice Ab nb cb] : List Value)[i]? = some u → wo.cell? ((ad.add (nv * 3)).add i) = some u) := hcl
      have hnb : nb ≤ 2000 := by rw [← HLb.out]; exact hbl
      have HZb := Lib.hid hzb
      clear hcl hz hzb hbl hab
      go_upto_region 5 with (refine wpList_load_at 58 (.tmp 16) rfl rfl (ad.add (nv * 3)) rfl [.int .i64 fr, .int .i64 t, .slice Ab nb cb] HCl2.out _ Try.underlying58 rfl (by kernel_rfl) ?_)
      have HBw3 := (Blk.new wo 58 #[.int .i64 fr, .int .i64 t, .slice Ab nb cb])
      have HLw3 := (below_new wo (.cells #[.int .i64 fr, .int .i64 t, .slice Ab nb cb] 58))
      have hsw3 : (wo.alloc (.cells #[.int .i64 fr, .int .i64 t, .slice Ab nb cb] 58)).heap.size = wo.heap.size + 1 := by simp
      generalize wo.alloc (.cells #[.int .i64 fr, .int .i64 t, .slice Ab nb cb] 58) = w3 at HBw3 HLw3 hsw3 ⊢
      replace HBw3 := Lib.hid HBw3
      replace HLw3 := Lib.hid HLw3
      have hlw3 : wo.heap.size < w3.heap.size := by omega
      replace hsw3 := Lib.hid hsw3
      have HX3 := HBw3
      have hx3 := hlw3
      have HB3 := HLw3
      have HC := Lib.hid (clone_b Ab nb cb w3.heap.size bd w3 ((HZb.out.below HB3.out).more HB3.out.size) (by omega) (Nat.le_refl _))
      clear HBw3 HLw3 hsw3 hlw3 HCl2 HZb
      have y0 : w3.cell? ⟨wo.heap.size, 0, none⟩ = some (.int .i64 fr) := HX3.out.cell 0
      have y1 : w3.cell? ⟨wo.heap.size, 1, none⟩ = some (.int .i64 t) := HX3.out.cell 1
      have y2 : w3.cell? ⟨wo.heap.size, 2, none⟩ = some (.slice Ab nb cb) := HX3.out.cell 2
      go_wp2_with fail
      with_reducible refine HC.out.mono ?_
      rintro e w4 ⟨vz, rfl, hoz, hb4⟩
      have HX4 := Lib.hid (HX3.out.below hb4 hx3)
      have HB4 : Hid (Below wo.heap.size wo w4) := hide (HB3.out.trans (hb4.mono HB3.out.size))
      have hone : vz.oneCell' = true := hoz.bytV.one
      have hne : vz.ownBlock ≠ some wo.heap.size := fun e => by
        have := (hoz.lt _ e).1
        omega
      have HOz := Lib.hid hoz
      obtain ⟨Az, nz, cz, rfl, HLz, hz1, hz2, _⟩ := hoz.nam
      clear y0 y1 y2 HX3 HB3 hb4 hoz HC
      go_wp2_with
        (first
         | (refine wpList_store_field 56 (.tmp 21) (.tmp 20) rfl rfl wo.heap.size 2 (.slice Az nz cz) rfl rfl 58 _ HX4.out (by kernel_rfl) (by simp) rfl rfl ?_
            intro w5 hx5 hon5
            have HX5 : Hid (Blk w5 wo.heap.size 58 #[.int .i64 fr, .int .i64 t, .slice Az nz cz]) := hide hx5
            have HB5 : Hid (Below wo.heap.size wo w5) := hide (hon5.below HB4.out (Nat.le_refl _))
            have HOz5 : Hid (OwnB w5 w1.heap.size (.slice Az nz cz) bd) := hide (OwnB.mono (hon5.own HOz.out hne) (by omega))
            have HO5 := Lib.hid (HO.out.now HB5.out)
            obtain ⟨xs, hxs, hgr⟩ := HO5.out.parts HLv.out
            have HXs := Lib.hid hxs
            have HGr := Lib.hid hgr
            have hsz5 : w1.heap.size ≤ w5.heap.size := Nat.le_trans hszo HB5.out.size
            clear hx5 hon5 hxs hgr)
         | (refine wpList_load_blk rfl 58 (.tmp 5) rfl wo.heap.size rfl _ _ HX5.out _ Try.underlying58 rfl (by kernel_rfl) ?_)
         | (at_builtin
            refine wpList_app_lit ei_lt rfl (.tmp 22) (.tmp 24) rfl w1.heap.size (.slice Av nv cv) nv xs rfl HXs.out 1 rfl rfl (by simp [Value.oneCell']) (by simp only [maxLen]; omega) (by omega) hsz5 ?_
            intro v9 w9 hown9 hb9 hg9 _
            have HO9 : Hid (OwnLs w9 w1.heap.size v9 (ms.take (nv + 1))) := hide (by rw [HSn.out]; exact HGr.out w9 v9 ⟨fr, t, bd⟩ (.slice Az nz cz) hown9 (grownL_alloc hg9) HOz5.out)
            have HB9 : Hid (Below w1.heap.size w1 w9) := hide ((HB.out.trans (HB5.out.mono hszo)).trans hb9)
            clear hown9 hb9 hg9))
      go_roundw
      case rel => exact ⟨nv + 1, by omega, by go_num, HO9.out, HB9.out⟩
      case measure => simp [intOf]; omega
    · obtain rfl : nv = mn := by omega
      have HOf : Hid (OwnLs wo w1.heap.size (.slice Av nv cv) ms) := by
        have h := HO.out
        rw [List.take_of_length_le (by rw [HL.out]; exact Nat.le_refl _)] at h
        exact hide h
      have HXo := Lib.hid (HX1.out.below HB.out (by omega))
      have HYo := Lib.hid (HY1.out.below HB.out (by omega))
      have n3 : wo.cell? ⟨w.heap.size, 0, none⟩ = some (.slice pA 2 pc) := HXo.out.cell 0
      have HBo : Hid (Below w.heap.size w wo) := hide (HB1.out.trans (HB.out.mono (by omega)))
      have HC := Lib.hid (clone_i pA 2 pc wo.heap.size ps wo (HP.out.now HBo.out) (by omega) (Nat.le_refl _))
      clear n2 HO HX1
      go_wp2_with fail
      with_reducible refine HC.out.mono ?_
      rintro e w4 ⟨vp, rfl, hop, hb4⟩
      have HOp := Lib.hid hop
      obtain ⟨Ap, cp, rfl, hp1, hp2, _⟩ := own_open hop
      have HO4 := Lib.hid (HOf.out.now hb4)
      have HY4 := Lib.hid (HYo.out.below hb4 HYo.out.lt)
      have HB4 : Hid (Below w.heap.size w w4) := hide (HBo.out.trans (hb4.mono HBo.out.size))
      have hne : (Value.slice Ap 2 cp).ownBlock ≠ some (w.heap.size + 1) := fun e => by
        have := (hop.lt _ e).1
        omega
      clear hop hb4 HC HYo HXo HOf n3
      go_wp2_with
        (refine wpList_store_blk rfl 27 (.tmp 2) (.tmp 31) rfl (w.heap.size + 1) #[.slice Ap 2 cp, .slice Av nv cv] rfl rfl _ _ HY4.out (by kernel_rfl) rfl (by simp [Value.oneCell']) ?_
         intro w5 hx5 hon5
         have HX5 := Lib.hid hx5
         have HP5 : Hid (w5.ownsRow w.heap.size 3 1 (.slice Ap 2 cp) 2 (ps.map (Value.int .i64))) := hide (own_mono (hon5.own HOp.out hne) (by omega))
         have HO5 : Hid (OwnLs w5 w.heap.size (.slice Av nv cv) ms) := hide ((HO4.out.only hon5 (by omega)).mono (by omega))
         have HB5 : Hid (Below w.heap.size w w5) := hide (hon5.below HB4.out (by omega))
         clear hx5 hon5)
      refine bodyPost_ret (results_cell_row rfl _ _ (w.heap.size + 1) 27 _ (0, 0) _ rfl HX5.out Try.underlying27 rfl (by kernel_rfl)) rfl ?_
      exact HFin.out _ _ _ HP5.out HO5.out HB5.out
end Go.Proofs.Ytedeggjefnpjgaa
