/-
  Way of the reference of chapter 45, walked.
-/
import Derived.Test.YtegijfmdjaehjaaGroH
namespace Go.Proofs.Ytegijfmdjaehjaa
open Go.RowKit

structure RwOK (nd : List Nd) (lf : List Lf) (rs : List Rn) : Prop where
  l0 : nd.length ≤ 64
  l1 : lf.length ≤ 32
  l2 : rs.length ≤ 64
  lifts : ∀ x ∈ lf, hasN nd x.fr = true ∧ hasN nd x.tt = true ∧ 0 ≤ x.ln ∧ x.ln ≤ 20000
  runs : ∀ x ∈ rs, hasN nd x.fr = true ∧ hasN nd x.tt = true ∧ 0 ≤ x.ln ∧ x.ln ≤ 20000
theorem RwOK.step {nd : List Nd} {lf : List Lf} {rs : List Rn} (h : RwOK nd lf rs) {s : Sp} (hs : s ∈ stS lf rs) : hasN nd s.a = true ∧ hasN nd s.b = true ∧ 0 ≤ s.len ∧ s.len ≤ 20000 := by
  rcases stS_mem.1 hs with ⟨x, hx, h1, h2, h3⟩ | ⟨x, hx, h1, h2, h3⟩
  · rw [← h1, ← h2, ← h3]; exact h.lifts x hx
  · rw [← h1, ← h2, ← h3]; exact h.runs x hx
theorem RwOK.len {nd : List Nd} {lf : List Lf} {rs : List Rn} (h : RwOK nd lf rs) : (stS lf rs).length ≤ 96 := by
  have h1 := h.l1
  have h2 := h.l2
  unfold stS stR stL
  simp
  omega
theorem RwOK.same {nd : List Nd} {lf : List Lf} {rs : List Rn} (h : RwOK nd lf rs) {u v : Int} (hu : hasN nd u = true) (hv : hasN nd v = true) {T : Int} (hT : valB (nd.map Nd.id) (roundsB (nd.map Nd.id) (stS lf rs) nd.length (startB (nd.map Nd.id) u)) v = T) : (T < 0 → wayO nd lf rs u v = none) ∧ (0 ≤ T → wayO nd lf rs u v = some T) := by
  refine way_same (fun x hx => ?_) (fun x hx => ?_) (fun e he => ?_) hu hv hT
  · have := h.lifts x hx; exact ⟨this.1, this.2.1, this.2.2.1⟩
  · have := h.runs x hx; exact ⟨this.1, this.2.1, this.2.2.1⟩
  · rcases lnE_mem.1 ⟨e, he, rfl, rfl, rfl⟩ with (⟨x, hx, h1, h2, h3⟩ | ⟨x, hx, h1, h2, h3⟩) | (⟨x, hx, h1, h2, h3⟩ | ⟨x, hx, h1, h2, h3⟩)
    · have := h.lifts x hx; omega
    · have := h.runs x hx; omega
    · have := h.lifts x hx; omega
    · have := h.runs x hx; omega
theorem sp_mem {l : List Sp} {k : Nat} (h : k < l.length) : l.getD k sp0 ∈ l := by simp [List.getElem?_eq_getElem h]
def fillM (n k : Nat) : List Int := List.replicate k (-1) ++ List.replicate (n - k) 0
theorem fillM_zero (n : Nat) : fillM n 0 = List.replicate n 0 := by simp [fillM]
theorem fillM_all (n : Nat) : fillM n n = List.replicate n (-1) := by simp [fillM]
theorem fillM_set {n k : Nat} (h : k < n) : (fillM n k).set k (-1) = fillM n (k + 1) := by
  unfold fillM
  apply List.ext_getElem?
  intro i
  rw [List.getElem?_set]
  by_cases hi : k = i
  · subst hi
    rw [if_pos rfl, List.getElem?_append_left (by simp), if_pos (by simp; omega)]
    simp
  · rw [if_neg hi]
    rcases Nat.lt_or_ge i k with h1 | h1
    · rw [List.getElem?_append_left (by simpa using h1), List.getElem?_append_left (by simp; omega), List.getElem?_replicate, List.getElem?_replicate, if_pos h1, if_pos (by omega)]
    · rw [List.getElem?_append_right (by simpa using h1), List.getElem?_append_right (by simp; omega)]
      simp only [List.length_replicate, List.getElem?_replicate]
      by_cases h2 : i < n
      · rw [if_pos (by omega), if_pos (by omega)]
      · rw [if_neg (by omega), if_neg (by omega)]
theorem zero_ownG {w' : World} {base g n : Nat} (h : w'.ownsRow base 3 1 (.slice (some ⟨g, 0, none⟩) n n) n (madeCells (Value.int .i64 0).cells (n * 1)).toList) : OwnG 3 w' base g n n (fillM n 0) := by
  rw [Nat.mul_one, show (Value.int .i64 0).cells = #[.int .i64 0] from rfl, toList_madeCells_one] at h
  unfold OwnG
  rw [fillM_zero, List.map_replicate]
  exact h
theorem ownG_set {te : TypeId} {w : World} {base g n cap : Nat} {l l' : List Int} {i : Nat} {v : Int} (h : w.ownsRow base te 1 (.slice (some ⟨g, 0, none⟩) n cap) n ((l.map (Value.int .i64)).set i (.int .i64 v))) (e : l.set i v = l') : OwnG te w base g n cap l' := by
  rw [← e]
  exact OwnG.set_ h
set_option maxRecDepth 100000 in
set_option maxHeartbeats 8000000 in
theorem rway_any (vn vl vr vb : Value) (nd : List Nd) (lf : List Lf) (rs : List Rn) (u v : Int) (w : World) (hm : StrV Nd.cells 2 w w.heap.size vn nd) (hl : StrV Lf.cells 8 w w.heap.size vl lf) (hr : StrV Rn.cells 7 w w.heap.size vr rs) (hok : RwOK nd lf rs) :
    Calls Try.prog 16 #[.agg #[vn, vl, vr, vb], .int .i64 u, .int .i64 v] w (WayR (wayO nd lf rs u v) w) := by
  obtain ⟨A, n, c, rfl, HL, hc1, hc2, hr0⟩ := hm.nam
  have HM := Lib.hid hm
  have HLf := Lib.hid hl
  have HRs := Lib.hid hr
  have HK := Lib.hid hok
  have hn64 : n ≤ 64 := by rw [← HL.out]; exact hok.l0
  have HLen := Lib.hid hok.len
  have HFin : Hid (∀ (o : Option Int) (w' : World), wayO nd lf rs u v = o → Below w.heap.size w w' → WayR (wayO nd lf rs u v) w (.returned (.tuple #[.int .i64 (o.getD 0), .bool o.isSome])) w') := fun o w' h1 h2 => ⟨by rw [h1], h2⟩
  have HAt : Hid (∀ (i : Int) (W : World), StrV Nd.cells 2 W W.heap.size (.slice A n c) nd → Calls Try.prog 42 #[.agg #[.slice A n c, vl, vr, vb], .int .i64 i] W fun e w' => e = .returned (.int .i64 (atZ nd i)) ∧ Below W.heap.size W w') := fun i W h => at_any _ vl vr vb nd i W h
  have HAy : Hid (∀ i, hasN nd i = true → atZ nd i = ((atN (nd.map Nd.id) i : Nat) : Int) ∧ atN (nd.map Nd.id) i < n) := fun i h => by rw [← HL.out]; exact atZ_yes h
  have HSame : Hid (hasN nd u = true → hasN nd v = true → ∀ T, (roundsB (nd.map Nd.id) (stS lf rs) n (startB (nd.map Nd.id) u)).getD (atN (nd.map Nd.id) v) 0 = T → (T < 0 → wayO nd lf rs u v = none) ∧ (0 ≤ T → wayO nd lf rs u v = some T)) := fun hu hv T hT => hok.same hu hv (by rw [HL.out]; exact hT)
  have HStB : Hid (startB (nd.map Nd.id) u = (List.replicate n (-1)).set (atN (nd.map Nd.id) u) 0) := hide (by unfold startB; rw [List.length_map, HL.out])
  have HSp : Hid (∀ s ∈ stS lf rs, hasN nd s.a = true ∧ hasN nd s.b = true ∧ 0 ≤ s.len ∧ s.len ≤ 20000) := fun s hs => hok.step hs
  obtain ⟨i0, hi0, hz0, hz1, hz2⟩ := info_parts (show (Try.prog.info? 3).map (fun i => (i.zero, i.size, i.bytes)) = some (some (.int .i64 0), 1, 8) by kernel_rfl)
  have HI := Lib.hid (And.intro hi0 (And.intro hz0 (And.intro hz1 hz2)))
  have wno : hasN nd u = false → wayO nd lf rs u v = none := fun h => wayO_no h
  have wno2 : hasN nd v = false → wayO nd lf rs u v = none := fun h => wayO_no2 h
  generalize WayR (wayO nd lf rs u v) w = RR at *
  generalize wayO nd lf rs u v = WO at *
  unfold maxLen at hc2
  clear hm hl hr hok hr0 hi0 hz0 hz1 hz2
  have HNo1 : Hid (hasN nd u = false → WO = none) := fun h => (wno h)
  have HNo2 : Hid (hasN nd v = false → WO = none) := fun h => (wno2 h)
  clear wno wno2
  go_enter Try.func16, Try.ntmps16
  go_wp2_with fail
  have HBwb := (Blk.new w 32 #[.slice A n c, vl, vr, vb])
  have HLwb := (below_new w (.cells #[.slice A n c, vl, vr, vb] 32))
  have hswb : (w.alloc (.cells #[.slice A n c, vl, vr, vb] 32)).heap.size = w.heap.size + 1 := by simp
  generalize w.alloc (.cells #[.slice A n c, vl, vr, vb] 32) = wb at HBwb HLwb hswb ⊢
  replace HBwb := Lib.hid HBwb
  replace HLwb := Lib.hid HLwb
  have hlwb : w.heap.size < wb.heap.size := by omega
  replace hswb := Lib.hid hswb
  have HWb := Lib.hid (HLwb.out)
  have hl0 : w.heap.size ≤ wb.heap.size := HWb.out.size
  have HBb : Hid (Below wb.heap.size wb wb) := hide (Below.refl _ _)
  have hszb : wb.heap.size ≤ wb.heap.size := Nat.le_refl _
  have HX0b : Hid (Blk wb w.heap.size 32 #[.slice A n c, vl, vr, vb]) := hide HBwb.out
  have hxx0 : w.heap.size < wb.heap.size := HX0b.out.lt
  clear HBwb HLwb hswb hlwb
  have HMb := Lib.hid (HM.out.now HWb.out)
  have HLfb := Lib.hid (HLf.out.now HWb.out)
  have HRsb := Lib.hid (HRs.out.now HWb.out)
  with_reducible refine (HAt.out u wb HMb.out).mono ?_
  rintro e w1 ⟨rfl, hb1⟩
  have HB1 := Lib.hid (HBb.out.trans (hb1.mono hszb))
  have HW1 := Lib.hid (HWb.out.trans (hb1.mono HWb.out.size))
  have hsz1 : wb.heap.size ≤ w1.heap.size := Nat.le_trans hszb hb1.size
  have HX01 := Lib.hid (HX0b.out.below hb1 (Nat.lt_of_lt_of_le hxx0 hszb))
  have HM1 := Lib.hid (HMb.out.now hb1)
  have HLf1 := Lib.hid (HLfb.out.now hb1)
  have HRs1 := Lib.hid (HRsb.out.now hb1)
  clear hb1
  obtain ⟨oku, hoku⟩ : ∃ b, hasN nd u = b := ⟨_, rfl⟩
  have HOku := Lib.hid hoku
  clear hoku
  cases oku with
  | false =>
    have eu := atZ_no HOku.out
    rw [eu]
    clear eu
    go_wp2_with fail
    try go_ret2
    exact HFin.out none _ (HNo1.out HOku.out) HW1.out
  | true =>
    obtain ⟨eu, hiu⟩ := HAy.out u HOku.out
    rw [eu]
    have HEu := Lib.hid eu
    clear eu
    obtain ⟨iu, hiiu⟩ : ∃ x, atN (nd.map Nd.id) u = x := ⟨_, rfl⟩
    rw [hiiu] at hiu HEu ⊢
    have HIu := Lib.hid hiiu
    clear hiiu
    go_wp2_with
      (first
       | (refine wpList_load_g 32 (.tmp 3) rfl rfl w.heap.size rfl _ _ HX01.out _ Try.underlying32 rfl (by kernel_rfl) ?_))
    with_reducible refine (HAt.out v w1 HM1.out).mono ?_
    rintro e w2 ⟨rfl, hb2⟩
    have HB2 := Lib.hid (HB1.out.trans (hb2.mono hsz1))
    have HW2 := Lib.hid (HW1.out.trans (hb2.mono HW1.out.size))
    have hsz2 : wb.heap.size ≤ w2.heap.size := Nat.le_trans hsz1 hb2.size
    have HX02 := Lib.hid (HX01.out.below hb2 (Nat.lt_of_lt_of_le hxx0 hsz1))
    have HM2 := Lib.hid (HM1.out.now hb2)
    have HLf2 := Lib.hid (HLf1.out.now hb2)
    have HRs2 := Lib.hid (HRs1.out.now hb2)
    clear hb2
    obtain ⟨okv, hokv⟩ : ∃ b, hasN nd v = b := ⟨_, rfl⟩
    have HOkv := Lib.hid hokv
    clear hokv
    cases okv with
    | false =>
      have ev := atZ_no HOkv.out
      rw [ev]
      clear ev
      go_wp2_with fail
      try go_ret2
      exact HFin.out none _ (HNo2.out HOkv.out) HW2.out
    | true =>
      obtain ⟨ev, hiv⟩ := HAy.out v HOkv.out
      rw [ev]
      have HEv := Lib.hid ev
      clear ev
      obtain ⟨iv, hiiv⟩ : ∃ x, atN (nd.map Nd.id) v = x := ⟨_, rfl⟩
      rw [hiiv] at hiv HEv ⊢
      have HIv := Lib.hid hiiv
      clear hiiv
      have m0 : w2.cell? ⟨w.heap.size, 0, none⟩ = some (.slice A n c) := HX02.out.cell 0
      have m1 : w2.cell? ⟨w.heap.size, 1, none⟩ = some (vl) := HX02.out.cell 1
      have m2 : w2.cell? ⟨w.heap.size, 2, none⟩ = some (vr) := HX02.out.cell 2
      have m3 : w2.cell? ⟨w.heap.size, 3, none⟩ = some (vb) := HX02.out.cell 3
      go_upto_region 4 with
        (at_make
         refine wpList_make_full _ rfl (.tmp 27) (.tmp 27) _ rfl wb.heap.size 3 i0 (.int .i64 0) 1 Try.underlying30 HI.out.1 HI.out.2.1 HI.out.2.2.1 .i64 .i64 _ _ n rfl rfl rfl rfl (by rw [HI.out.2.2.2]; omega) (by simp only [maxLen]; omega) hsz2 ?_
         intro w3 hown3 hg3
         have hb3 : Below w2.heap.size w2 w3 := (Below.refl _ _).grown hg3 (Nat.le_refl _) (fun k hk => by cases hk)
         have HO3 := Lib.hid (zero_ownG hown3)
         have HB3 := Lib.hid (HB2.out.trans (hb3.mono hsz2))
         have HW3 := Lib.hid (HW2.out.trans (hb3.mono HW2.out.size))
         have hsz3 : wb.heap.size ≤ w3.heap.size := Nat.le_trans hsz2 hb3.size
         have HX03 := Lib.hid (HX02.out.below hb3 (Nat.lt_of_lt_of_le hxx0 hsz2))
         have HM3 := Lib.hid (HM2.out.now hb3)
         have HLf3 := Lib.hid (HLf2.out.now hb3)
         have HRs3 := Lib.hid (HRs2.out.now hb3)
         clear hown3 hg3 hb3)
      clear m0 m1 m2 m3
      obtain ⟨gB, hgB⟩ : ∃ x, w2.heap.size = x := ⟨_, rfl⟩
      rw [hgB] at HO3 ⊢
      have hgb : wb.heap.size ≤ gB := by omega
      clear hgB
      go_wp2_with fail
      clear HB1 HW1 hsz1 HX01 HM1 HLf1 HRs1 HB2 HW2 hsz2 HX02 HM2 HLf2 HRs2
      go_loopw [9] (fun i wr => ∃ k : Nat, k ≤ n ∧ i = .int .i64 k ∧ OwnG 3 wr wb.heap.size gB n n (fillM n k) ∧ Below wb.heap.size wb wr) (fun i _ => n - (intOf i).toNat)
      case atStart => exact ⟨0, by omega, rfl, HO3.out, HB3.out⟩
      case round =>
        obtain ⟨k, hk, rfl, hO, hbr⟩ := hrel
        have HO := Lib.hid hO
        clear hO
        obtain ⟨wo, rfl⟩ : ∃ wo : World, wo = wr := ⟨_, rfl⟩
        have HBo := Lib.hid (HBb.out.trans (hbr.mono hszb))
        have HWo := Lib.hid (HWb.out.trans (hbr.mono HWb.out.size))
        have hszo : wb.heap.size ≤ wo.heap.size := Nat.le_trans hszb hbr.size
        have HX0o := Lib.hid (HX0b.out.below hbr (Nat.lt_of_lt_of_le hxx0 hszb))
        have HMo := Lib.hid (HMb.out.now hbr)
        have HLfo := Lib.hid (HLfb.out.now hbr)
        have HRso := Lib.hid (HRsb.out.now hbr)
        clear hbr
        by_cases hlt : k < n
        · have HFs := Lib.hid (fillM_set hlt)
          go_wp2_with (refine wpList_store_own 3 (.tmp 37) (.const (.int .i64 (-1))) rfl rfl HO.out k hlt (.int .i64 (-1)) rfl rfl (by kernel_rfl) rfl rfl ?_
                       intro w4 hx4 hon4
                       have HO4 := Lib.hid (ownG_set hx4 HFs.out)
                       have HB4 := Lib.hid (hon4.below HBo.out hgb)
                       clear hx4 hon4)
          go_roundw
          case rel => exact ⟨k + 1, by omega, by go_num, HO4.out, HB4.out⟩
          case measure => simp [intOf]; omega
        · obtain rfl : k = n := by omega
          have HF := Lib.hid (fillM_all k)
          rw [HF.out] at HO
          go_wp2_with (refine wpList_load_g 32 (.tmp 3) rfl rfl w.heap.size rfl _ _ HX0o.out _ Try.underlying32 rfl (by kernel_rfl) ?_)
          with_reducible refine (HAt.out u wo HMo.out).mono ?_
          rintro e w5 ⟨rfl, hb5⟩
          have HO5 := Lib.hid (own_below HO.out hb5 (Nat.le_refl _))
          have HB5 := Lib.hid (HBo.out.trans (hb5.mono hszo))
          have HW5 := Lib.hid (HWo.out.trans (hb5.mono HWo.out.size))
          have hsz5 : wb.heap.size ≤ w5.heap.size := Nat.le_trans hszo hb5.size
          have HX05 := Lib.hid (HX0o.out.below hb5 (Nat.lt_of_lt_of_le hxx0 hszo))
          have HM5 := Lib.hid (HMo.out.now hb5)
          have HLf5 := Lib.hid (HLfo.out.now hb5)
          have HRs5 := Lib.hid (HRso.out.now hb5)
          clear hb5
          rw [HEu.out]
          go_wp2_with (first
            | (refine wpList_store_own 3 (.tmp 42) (.const (.int .i64 0)) rfl rfl HO5.out iu hiu (.int .i64 0) rfl rfl (by kernel_rfl) rfl rfl ?_
               intro w6 hx6 hon6
               have HO6 : Hid (OwnG 3 w6 wb.heap.size gB k k (startB (nd.map Nd.id) u)) := hide (ownG_set hx6 (by rw [HStB.out, HIu.out]))
               have hb6 := hon6.below (Below.refl wb.heap.size w5) hgb
               have HB6 := Lib.hid (HB5.out.trans hb6)
               have HW6 : Hid (Below w.heap.size w w6) := hide (HWb.out.trans (HB6.out.mono hl0))
               have hsz6 : wb.heap.size ≤ w6.heap.size := HB6.out.size
               have HX06 := Lib.hid (HX0b.out.below HB6.out hxx0)
               have HM6 := Lib.hid (HMb.out.now HB6.out)
               have HLf6 := Lib.hid (HLfb.out.now HB6.out)
               have HRs6 := Lib.hid (HRsb.out.now HB6.out)
               clear hx6 hon6 hb6)
            | (refine wpList_load_g 32 (.tmp 3) rfl rfl w.heap.size rfl _ _ HX06.out _ Try.underlying32 rfl (by kernel_rfl) ?_))
          with_reducible refine (steps_any _ _ _ _ lf rs w6 HLf6.out HRs6.out HK.out.l1 HK.out.l2).mono ?_
          rintro e w7 ⟨vs, rfl, hst, hb7⟩
          have HO7 := Lib.hid (own_below HO6.out hb7 (Nat.le_refl _))
          have HS7 : Hid (OwnS w7 wb.heap.size vs (stS lf rs)) := hide (own_mono hst hsz6)
          have HB7 := Lib.hid (HB6.out.trans (hb7.mono hsz6))
          have HW7 := Lib.hid (HW6.out.trans (hb7.mono HW6.out.size))
          have hsz7 : wb.heap.size ≤ w7.heap.size := Nat.le_trans hsz6 hb7.size
          have HX07 := Lib.hid (HX06.out.below hb7 (Nat.lt_of_lt_of_le hxx0 hsz6))
          have HM7 := Lib.hid (HM6.out.now hb7)
          have HLf7 := Lib.hid (HLf6.out.now hb7)
          have HRs7 := Lib.hid (HRs6.out.now hb7)
          clear hb7 hst
          obtain ⟨As, ns, cs, rfl, HLs, hs1, hs2, _⟩ := HS7.out.nam
          have hns : ns ≤ 96 := by rw [← HLs.out]; exact HLen.out
          simp only [maxLen] at hs2
          have HSr7 := Lib.hid (HS7.out.row HLs.out)
          have HBn0 : Hid (BndB (startB (nd.map Nd.id) u) (200 * ((0 : Nat) : Int))) := by
            rw [HStB.out]
            refine hide (fun i hi => ?_)
            simp only [List.length_set, List.length_replicate] at hi
            rw [getD_setI (by simpa using hi)]
            split
            · simp
            · simp [List.getD_eq_getElem?_getD, hi]
          generalize hst : stS lf rs = st at *
          generalize nd.map Nd.id = ids at *
          have HL0 : Hid ((startB ids u).length = k) := hide (by rw [HStB.out]; simp)
          clear hst
          go_wp2_with fail
          clear HB3 HW3 hsz3 HX03 HM3 HLf3 HRs3 HBo HWo hszo HX0o HMo HLfo HRso HB5 HW5 hsz5 HX05 HM5 HLf5 HRs5 HB6 HW6 hsz6 HX06 HM6 HLf6 HRs6 HO HO3 HO5 HO6 HS7
          go_loopw [11] (fun i wr => ∃ q : Nat, q ≤ k ∧ i = .int .i64 q ∧ OwnG 3 wr wb.heap.size gB k k (roundsB ids st q (startB ids u)) ∧ BndB (roundsB ids st q (startB ids u)) (200 * (q : Int)) ∧ wr.ownsRow wb.heap.size 79 3 (.slice As ns cs) ns (st.map Sp.cells).flatten ∧ Below wb.heap.size wb wr) (fun i _ => k - (intOf i).toNat)
          case atStart => exact ⟨0, by omega, rfl, HO7.out, HBn0.out, HSr7.out, HB7.out⟩
          case round =>
            clear HB7 HW7 hsz7 HX07 HM7 HLf7 HRs7 HO7 HSr7
            obtain ⟨q, hq, rfl, hO, hBn, hS, hbr⟩ := hrel
            have HO := Lib.hid hO
            have HBn := Lib.hid hBn
            have HS := Lib.hid hS
            clear hO hBn hS
            obtain ⟨wo, rfl⟩ : ∃ wo : World, wo = wr := ⟨_, rfl⟩
            have HBo := Lib.hid (HBb.out.trans (hbr.mono hszb))
            have HWo := Lib.hid (HWb.out.trans (hbr.mono HWb.out.size))
            have hszo : wb.heap.size ≤ wo.heap.size := Nat.le_trans hszb hbr.size
            have HX0o := Lib.hid (HX0b.out.below hbr (Nat.lt_of_lt_of_le hxx0 hszb))
            have HMo := Lib.hid (HMb.out.now hbr)
            have HLfo := Lib.hid (HLfb.out.now hbr)
            have HRso := Lib.hid (HRsb.out.now hbr)
            clear hbr
            have m0 : wo.cell? ⟨w.heap.size, 0, none⟩ = some (.slice A k c) := HX0o.out.cell 0
            have m1 : wo.cell? ⟨w.heap.size, 1, none⟩ = some (vl) := HX0o.out.cell 1
            have m2 : wo.cell? ⟨w.heap.size, 2, none⟩ = some (vr) := HX0o.out.cell 2
            have m3 : wo.cell? ⟨w.heap.size, 3, none⟩ = some (vb) := HX0o.out.cell 3
            by_cases hlt2 : q < k
            · skip
              have HRd : Hid (roundsB ids st (q + 1) (startB ids u) = (st.take ns).foldl (fun l s => stepB l (atN ids s.a) (atN ids s.b) s.len) (roundsB ids st q (startB ids u))) := hide (by rw [roundsB_succ, List.take_of_length_le (by rw [HLs.out]; exact Nat.le_refl _)]; rfl)
              have HLq : Hid ((roundsB ids st q (startB ids u)).length = k) := hide (by rw [roundsB_len]; exact HL0.out)
              obtain ⟨L, hLe⟩ : ∃ L, roundsB ids st q (startB ids u) = L := ⟨_, rfl⟩
              rw [hLe] at HRd HLq HBn HO
              clear hLe
              go_wp2_with fail
              clear m0 m1 m2 m3
              go_loopw [12] (fun jv wr => ∃ (j : Nat) (X : List Int), j ≤ ns ∧ jv = .int .i64 j ∧ (st.take j).foldl (fun l s => stepB l (atN ids s.a) (atN ids s.b) s.len) L = X ∧ X.length = k ∧ OwnG 3 wr wb.heap.size gB k k X ∧ BndB X (200 * (q : Int) + 2 * (j : Int)) ∧ wr.ownsRow wb.heap.size 79 3 (.slice As ns cs) ns (st.map Sp.cells).flatten ∧ Below wb.heap.size wb wr) (fun jv _ => ns - (intOf jv).toNat)
              case atStart => exact ⟨0, L, by omega, rfl, rfl, HLq.out, HO.out, by have h := HBn.out; simpa using h, HS.out, HBo.out⟩
              case round =>
                clear HBo HWo hszo HX0o HMo HLfo HRso HO HS HBn
                obtain ⟨j, X, hj, rfl, hX, hXl, hO, hBn, hS, hbr⟩ := hrel
                have HX := Lib.hid hX
                have HXl := Lib.hid hXl
                have HO := Lib.hid hO
                have HBn := Lib.hid hBn
                have HS := Lib.hid hS
                clear hX hXl hO hBn hS
                obtain ⟨wo, rfl⟩ : ∃ wo : World, wo = wr := ⟨_, rfl⟩
                have HBo := Lib.hid (HBb.out.trans (hbr.mono hszb))
                have HWo := Lib.hid (HWb.out.trans (hbr.mono HWb.out.size))
                have hszo : wb.heap.size ≤ wo.heap.size := Nat.le_trans hszb hbr.size
                have HX0o := Lib.hid (HX0b.out.below hbr (Nat.lt_of_lt_of_le hxx0 hszb))
                have HMo := Lib.hid (HMb.out.now hbr)
                have HLfo := Lib.hid (HLfb.out.now hbr)
                have HRso := Lib.hid (HRsb.out.now hbr)
                clear hbr
                by_cases hlt3 : j < ns
                · skip
                  have hjl : j < st.length := by rw [HLs.out]; exact hlt3
                  have HF1 := Lib.hid (fold_stepB ids st L hjl)
                  rw [HX.out] at HF1
                  have hsp := HSp.out _ (sp_mem hjl)
                  obtain ⟨ad, hAs, hab, hcs⟩ := strs_at (show Strs Sp.cells 3 wo wo.heap.size As ns st from Reads.of_own HS.out) (fun _ => rfl) HLs.out hlt3 sp0
                  subst hAs
                  obtain ⟨⟨sa, sb, sl⟩, hq0⟩ : ∃ s, st.getD j sp0 = s := ⟨_, rfl⟩
                  rw [hq0] at HF1 hsp hcs
                  simp only at HF1 hsp
                  obtain ⟨hsa, hsb, hsl⟩ := hsp
                  obtain ⟨ea, hia⟩ := HAy.out sa hsa
                  obtain ⟨eb, hib⟩ := HAy.out sb hsb
                  have HEa := Lib.hid ea
                  have HEb := Lib.hid eb
                  obtain ⟨ia, hiae⟩ : ∃ x, atN ids sa = x := ⟨_, rfl⟩
                  obtain ⟨ib, hibe⟩ : ∃ x, atN ids sb = x := ⟨_, rfl⟩
                  rw [hiae] at hia HEa HF1
                  rw [hibe] at hib HEb HF1
                  have f0 : wo.cell? (ad.add (j * 3)) = some (.int .i64 sa) := by
                    have h := hcs 0 _ rfl
                    rwa [show (ad.add (j * 3)).add 0 = ad.add (j * 3) by unfold Addr.add; simp] at h
                  have f1 : wo.cell? ⟨(ad.add (j * 3)).block, (ad.add (j * 3)).off + 1, none⟩ = some (.int .i64 sb) := hcs 1 _ rfl
                  have f2 : wo.cell? ⟨(ad.add (j * 3)).block, (ad.add (j * 3)).off + 2, none⟩ = some (.int .i64 sl) := hcs 2 _ rfl
                  have HF2 := Lib.hid f2
                  have hadB : ad.block ≠ gB := by
                    have h1 := own_ne HO.out HS.out (by decide)
                    rcases h1 with h1 | h1
                    · simp [Value.ownBlock] at h1
                    · intro e
                      apply h1
                      rcases HS.out.2 with ⟨h2, _⟩ | ⟨g', cap', cur', h2, _⟩
                      · cases h2
                      · injection h2 with h3 _ _
                        injection h3 with h3
                        rw [h3] at e ⊢
                        simp only [Value.ownBlock]
                        rw [← e]
                  have hadB' : (Value.slice (some ad) ns cs).ownBlock ≠ some gB := fun e => hadB (Option.some.inj e)
                  clear hcs hq0 hsa hsb ea eb hiae hibe
                  have HSS : Hid (∀ W, Below wo.heap.size wo W → (fun W => Below wo.heap.size wo W ∧ W.cell? (ad.add (j * 3)) = some (.int .i64 sa) ∧ W.cell? ⟨(ad.add (j * 3)).block, (ad.add (j * 3)).off + 1, none⟩ = some (.int .i64 sb) ∧ Blk W w.heap.size 32 #[.slice A k c, vl, vr, vb]) W) := fun W hB => ⟨hB, (hB.cell (by rw [block_of_add]; exact hab)).trans f0, (hB.cell (by rw [block_of_add]; exact hab)).trans f1, HX0o.out.below hB (Nat.lt_of_lt_of_le hxx0 hszo)⟩
                  have HMd : Hid (StrV Nd.cells 2 wo.drew wo.drew.heap.size (.slice A k c) nd) := hide HMo.out
                  have HBd : Hid (Below wo.heap.size wo wo.drew) := hide (Below.refl _ _).drew
                  have h0 := HSS.out _ HBd.out
                  clear f0 f1 f2
                  go_wp2_with fail
                  go_cut [13, 14] (fun s t wx => s = .int .i64 (ia : Int) ∧ t = .int .i64 (ib : Int) ∧ Below wo.heap.size wo wx)
                  case first =>
                    refine wp_region_held_drew (S := fun W => Below wo.heap.size wo W ∧ W.cell? (ad.add (j * 3)) = some (.int .i64 sa) ∧ W.cell? ⟨(ad.add (j * 3)).block, (ad.add (j * 3)).off + 1, none⟩ = some (.int .i64 sb) ∧ Blk W w.heap.size 32 #[.slice A k c, vl, vr, vb]) (by kernel_rfl) (h0) (fun hHeld => ?_)
                    refine held_load 0 (some 58) 32 (.tmp 3) (by rfl) (by kernel_rfl) (by kernel_rfl) (by kernel_rfl) (w.heap.size) 32 #[.slice A k c, vl, vr, vb] (fun _ _ _ h => h) (by rfl) (fun _ h => h.2.2.2) _ Try.underlying32 rfl (by kernel_rfl) (by assumption) ?_
                    try simp only [Act.put, List.setIfInBounds_toArray, List.set_cons_zero, List.set_cons_succ]
                    refine held_run 1 (some 59) (.move (.tmp 10)) ?v16_1_3 (by rfl) (by kernel_rfl) (by kernel_rfl) (by kernel_rfl) (fun _ _ _ h => h) (fun o ho w hS => ?y16_1_3) (by assumption) ?r16_1_3
                    case y16_1_3 => (try dsimp only at hS); unfold execOp; simp only [ho]; go_simp; try with_reducible rfl
                    try simp only [Act.put, List.setIfInBounds_toArray, List.set_cons_zero, List.set_cons_succ]
                    refine held_run 2 (some 60) (.move (.tmp 12)) ?v16_1_4 (by rfl) (by kernel_rfl) (by kernel_rfl) (by kernel_rfl) (fun _ _ _ h => h) (fun o ho w hS => ?y16_1_4) (by assumption) ?r16_1_4
                    case y16_1_4 => (try dsimp only at hS); unfold execOp; simp only [ho]; go_simp; try with_reducible rfl
                    try simp only [Act.put, List.setIfInBounds_toArray, List.set_cons_zero, List.set_cons_succ]
                    refine held_run 3 (some 61) (.indexAddr 76 (.tmp 59) (.tmp 60)) ?v16_1_5 (by rfl) (by kernel_rfl) (by kernel_rfl) (by kernel_rfl) (fun _ _ _ h => h) (fun o ho w hS => ?y16_1_5) (by assumption) ?r16_1_5
                    case y16_1_5 => (try dsimp only at hS); unfold execOp; simp only [ho]; go_simp; try with_reducible rfl
                    try simp only [Act.put, List.setIfInBounds_toArray, List.set_cons_zero, List.set_cons_succ]
                    refine held_run 4 (some 62) (.fieldAddr 79 (.tmp 61) 0) ?v16_1_6 (by rfl) (by kernel_rfl) (by kernel_rfl) (by kernel_rfl) (fun _ _ _ h => h) (fun o ho w hS => ?y16_1_6) (by assumption) ?r16_1_6
                    case y16_1_6 => (try dsimp only at hS); unfold execOp; simp only [ho]; go_simp; try with_reducible rfl
                    try simp only [Act.put, List.setIfInBounds_toArray, List.set_cons_zero, List.set_cons_succ]
                    refine held_run 5 (some 63) (.load 3 (.tmp 62)) ?v16_1_7 (by rfl) (by kernel_rfl) (by kernel_rfl) (by kernel_rfl) (fun _ _ _ h => h) (fun o ho w hS => ?y16_1_7) (by assumption) ?r16_1_7
                    case y16_1_7 => (try dsimp only at hS); unfold execOp; simp only [ho]; go_simp; try with_reducible rfl
                    try simp only [Act.put, List.setIfInBounds_toArray, List.set_cons_zero, List.set_cons_succ]
                    refine held_load 7 (some 65) 32 (.tmp 3) (by rfl) (by kernel_rfl) (by kernel_rfl) (by kernel_rfl) (w.heap.size) 32 #[.slice A k c, vl, vr, vb] (fun _ _ _ h => h) (by rfl) (fun _ h => h.2.2.2) _ Try.underlying32 rfl (by kernel_rfl) (by assumption) ?_
                    try simp only [Act.put, List.setIfInBounds_toArray, List.set_cons_zero, List.set_cons_succ]
                    refine held_run 8 (some 66) (.move (.tmp 10)) ?v16_1_9 (by rfl) (by kernel_rfl) (by kernel_rfl) (by kernel_rfl) (fun _ _ _ h => h) (fun o ho w hS => ?y16_1_9) (by assumption) ?r16_1_9
                    case y16_1_9 => (try dsimp only at hS); unfold execOp; simp only [ho]; go_simp; try with_reducible rfl
                    try simp only [Act.put, List.setIfInBounds_toArray, List.set_cons_zero, List.set_cons_succ]
                    refine held_run 9 (some 67) (.move (.tmp 12)) ?v16_1_10 (by rfl) (by kernel_rfl) (by kernel_rfl) (by kernel_rfl) (fun _ _ _ h => h) (fun o ho w hS => ?y16_1_10) (by assumption) ?r16_1_10
                    case y16_1_10 => (try dsimp only at hS); unfold execOp; simp only [ho]; go_simp; try with_reducible rfl
                    try simp only [Act.put, List.setIfInBounds_toArray, List.set_cons_zero, List.set_cons_succ]
                    refine held_run 10 (some 68) (.indexAddr 76 (.tmp 66) (.tmp 67)) ?v16_1_11 (by rfl) (by kernel_rfl) (by kernel_rfl) (by kernel_rfl) (fun _ _ _ h => h) (fun o ho w hS => ?y16_1_11) (by assumption) ?r16_1_11
                    case y16_1_11 => (try dsimp only at hS); unfold execOp; simp only [ho]; go_simp; try with_reducible rfl
                    try simp only [Act.put, List.setIfInBounds_toArray, List.set_cons_zero, List.set_cons_succ]
                    refine held_run 11 (some 69) (.fieldAddr 79 (.tmp 68) 1) ?v16_1_12 (by rfl) (by kernel_rfl) (by kernel_rfl) (by kernel_rfl) (fun _ _ _ h => h) (fun o ho w hS => ?y16_1_12) (by assumption) ?r16_1_12
                    case y16_1_12 => (try dsimp only at hS); unfold execOp; simp only [ho]; go_simp; try with_reducible rfl
                    try simp only [Act.put, List.setIfInBounds_toArray, List.set_cons_zero, List.set_cons_succ]
                    refine held_run 12 (some 70) (.load 3 (.tmp 69)) ?v16_1_13 (by rfl) (by kernel_rfl) (by kernel_rfl) (by kernel_rfl) (fun _ _ _ h => h) (fun o ho w hS => ?y16_1_13) (by assumption) ?r16_1_13
                    case y16_1_13 => (try dsimp only at hS); unfold execOp; simp only [ho]; go_simp; try with_reducible rfl
                    try simp only [Act.put, List.setIfInBounds_toArray, List.set_cons_zero, List.set_cons_succ]
                    refine held_call 6 (some 64) 42 [(.tmp 58), (.tmp 63)] #[32, 3] #[.agg #[.slice A k c, vl, vr, vb], .int .i64 sa] (by rfl) (by rfl) (by kernel_rfl) Try.func42 (by rfl) (by rfl) ?_
                    refine (HAt.out sa _ HMd.out).mono ?_
                    rintro e wx ⟨rfl, hb⟩
                    have HBx := Lib.hid (HBd.out.trans hb)
                    have HMx := Lib.hid (HMd.out.now hb)
                    clear hb h0
                    have h0 := HSS.out _ HBx.out
                    rw [HEa.out]
                    refine ⟨_, rfl, h0, ?_⟩
                    try simp only [Act.put, List.setIfInBounds_toArray, List.set_cons_zero, List.set_cons_succ]
                    refine held_call 13 (some 71) 42 [(.tmp 65), (.tmp 70)] #[32, 3] #[.agg #[.slice A k c, vl, vr, vb], .int .i64 sb] (by rfl) (by rfl) (by kernel_rfl) Try.func42 (by rfl) (by rfl) ?_
                    refine (HAt.out sb _ HMx.out).mono ?_
                    rintro e wy ⟨rfl, hb⟩
                    have HBy := Lib.hid (HBx.out.trans (hb.mono HBx.out.size))
                    clear hb h0
                    have h0 := HSS.out _ HBy.out
                    rw [HEb.out]
                    refine ⟨_, rfl, h0, ?_⟩
                    try simp only [Act.put, List.setIfInBounds_toArray, List.set_cons_zero, List.set_cons_succ]
                    refine held_run 14 (some 13) (.assign (.tmp 64)) ?v16_1_16 (by rfl) (by kernel_rfl) (by kernel_rfl) (by kernel_rfl) (fun _ _ _ h => h) (fun o ho w hS => ?y16_1_16) (by assumption) ?r16_1_16
                    case y16_1_16 => (try dsimp only at hS); unfold execOp; simp only [ho]; go_simp; try with_reducible rfl
                    try simp only [Act.put, List.setIfInBounds_toArray, List.set_cons_zero, List.set_cons_succ]
                    refine held_run 15 (some 14) (.assign (.tmp 71)) ?v16_1_17 (by rfl) (by kernel_rfl) (by kernel_rfl) (by kernel_rfl) (fun _ _ _ h => h) (fun o ho w hS => ?y16_1_17) (by assumption) ?r16_1_17
                    case y16_1_17 => (try dsimp only at hS); unfold execOp; simp only [ho]; go_simp; try with_reducible rfl
                    try simp only [Act.put, List.setIfInBounds_toArray, List.set_cons_zero, List.set_cons_succ]
                    refine wpAnyH_done (by kernel_rfl) ?_ _
                    go_wp2_with fail
                    go_meet
                    exact ⟨rfl, rfl, HBy.out⟩
                  obtain ⟨rfl, rfl, hcut⟩ := hcut
                  obtain ⟨wk, rfl⟩ : ∃ wk : World, wk = wc := ⟨_, rfl⟩
                  have HOc : Hid (OwnG 3 wk wb.heap.size gB k k X) := hide (own_below HO.out hcut (Nat.le_refl _))
                  have HSc : Hid (wk.ownsRow wb.heap.size 79 3 (.slice (some ad) ns cs) ns (st.map Sp.cells).flatten) := hide (own_below HS.out hcut (Nat.le_refl _))
                  have HFc := Lib.hid ((hcut.cell (p := ⟨(ad.add (j * 3)).block, (ad.add (j * 3)).off + 2, none⟩) (by rw [block_of_add]; exact hab)).trans HF2.out)
                  have HBc := Lib.hid (HBo.out.trans (hcut.mono hszo))
                  have habc : ad.block < wk.heap.size := Nat.lt_of_lt_of_le hab hcut.size
                  clear h0 hcut HSS HMd HBd HBo HWo HX0o HMo HLfo HRso HO HS HF2
                  have hq64 : q ≤ 64 := by omega
                  have hj96 : j ≤ 96 := by omega
                  go_wp2_with fail
                  have ht1 := HBn.out ib (by rw [HXl.out]; exact hib)
                  have hs1_ := HBn.out ia (by rw [HXl.out]; exact hia)
                  have cT1 := OwnG.cell HOc.out hib
                  have cS1 := OwnG.cell HOc.out hia
                  obtain ⟨ov1, hov1⟩ : ∃ x, X.getD ib 0 = x := ⟨_, rfl⟩
                  obtain ⟨pv1, hpv1⟩ : ∃ x, X.getD ia 0 = x := ⟨_, rfl⟩
                  rw [hov1] at cT1 ht1
                  rw [hpv1] at cS1 hs1_
                  have HOv1 := Lib.hid hov1
                  have HPv1 := Lib.hid hpv1
                  clear hov1 hpv1
                  have hovb1 : -1 ≤ ov1 ∧ ov1 ≤ 1000000000 := by omega
                  have hpvb1 : -1 ≤ pv1 ∧ pv1 ≤ 1000000000 := by omega
                  have HOd1 : Hid (OwnG 3 wk.drew wb.heap.size gB k k X) := hide (own_below HOc.out (Below.refl _ _).drew (Nat.le_refl _))
                  have HNX1 : Hid (X.set ib (nearN ov1 pv1 sl) = X.set ib (nearN (X.getD ib 0) (X.getD ia 0) sl)) := by show _ = _; rw [← HOv1.out, ← HPv1.out]
                  have cL1 := HFc.out
                  go_cut [87] (fun s wx => OwnG 3 wx wb.heap.size gB k k (X.set ib (nearN (X.getD ib 0) (X.getD ia 0) sl)) ∧ Only gB wk.drew wx)
                  case first =>
                    have h0 : (fun W => W.cell? ⟨(ad.add (j * 3)).block, (ad.add (j * 3)).off + 2, none⟩ = some (.int .i64 sl)) wk.drew := cL1
                    refine wp_region_held_drew (S := fun W => W.cell? ⟨(ad.add (j * 3)).block, (ad.add (j * 3)).off + 2, none⟩ = some (.int .i64 sl)) (by kernel_rfl) (h0) (fun hHeld => ?_)
                    refine held_run 0 (some 72) (.move (.tmp 8)) ?v17_18_19 (by rfl) (by kernel_rfl) (by kernel_rfl) (by kernel_rfl) (fun _ _ _ h => h) (fun o ho w hS => ?y17_18_19) (by assumption) ?r17_18_19
                    case y17_18_19 => (try dsimp only at hS); unfold execOp; simp only [ho]; go_simp; try with_reducible rfl
                    try simp only [Act.put, List.setIfInBounds_toArray, List.set_cons_zero, List.set_cons_succ]
                    refine held_run 1 (some 73) (.move (.tmp 14)) ?v17_18_20 (by rfl) (by kernel_rfl) (by kernel_rfl) (by kernel_rfl) (fun _ _ _ h => h) (fun o ho w hS => ?y17_18_20) (by assumption) ?r17_18_20
                    case y17_18_20 => (try dsimp only at hS); unfold execOp; simp only [ho]; go_simp; try with_reducible rfl
                    try simp only [Act.put, List.setIfInBounds_toArray, List.set_cons_zero, List.set_cons_succ]
                    refine held_run 2 (some 74) (.move (.tmp 8)) ?v17_18_21 (by rfl) (by kernel_rfl) (by kernel_rfl) (by kernel_rfl) (fun _ _ _ h => h) (fun o ho w hS => ?y17_18_21) (by assumption) ?r17_18_21
                    case y17_18_21 => (try dsimp only at hS); unfold execOp; simp only [ho]; go_simp; try with_reducible rfl
                    try simp only [Act.put, List.setIfInBounds_toArray, List.set_cons_zero, List.set_cons_succ]
                    refine held_run 3 (some 75) (.move (.tmp 14)) ?v17_18_22 (by rfl) (by kernel_rfl) (by kernel_rfl) (by kernel_rfl) (fun _ _ _ h => h) (fun o ho w hS => ?y17_18_22) (by assumption) ?r17_18_22
                    case y17_18_22 => (try dsimp only at hS); unfold execOp; simp only [ho]; go_simp; try with_reducible rfl
                    try simp only [Act.put, List.setIfInBounds_toArray, List.set_cons_zero, List.set_cons_succ]
                    refine held_run 4 (some 76) (.indexAddr 30 (.tmp 74) (.tmp 75)) ?v17_18_23 (by rfl) (by kernel_rfl) (by kernel_rfl) (by kernel_rfl) (fun _ _ _ h => h) (fun o ho w hS => ?y17_18_23) (by assumption) ?r17_18_23
                    case y17_18_23 => (try dsimp only at hS); unfold execOp; simp only [ho]; go_simp; try with_reducible rfl
                    try simp only [Act.put, List.setIfInBounds_toArray, List.set_cons_zero, List.set_cons_succ]
                    refine held_run 6 (some 78) (.move (.tmp 8)) ?v17_18_24 (by rfl) (by kernel_rfl) (by kernel_rfl) (by kernel_rfl) (fun _ _ _ h => h) (fun o ho w hS => ?y17_18_24) (by assumption) ?r17_18_24
                    case y17_18_24 => (try dsimp only at hS); unfold execOp; simp only [ho]; go_simp; try with_reducible rfl
                    try simp only [Act.put, List.setIfInBounds_toArray, List.set_cons_zero, List.set_cons_succ]
                    refine held_run 7 (some 79) (.move (.tmp 13)) ?v17_18_25 (by rfl) (by kernel_rfl) (by kernel_rfl) (by kernel_rfl) (fun _ _ _ h => h) (fun o ho w hS => ?y17_18_25) (by assumption) ?r17_18_25
                    case y17_18_25 => (try dsimp only at hS); unfold execOp; simp only [ho]; go_simp; try with_reducible rfl
                    try simp only [Act.put, List.setIfInBounds_toArray, List.set_cons_zero, List.set_cons_succ]
                    refine held_run 8 (some 80) (.indexAddr 30 (.tmp 78) (.tmp 79)) ?v17_18_26 (by rfl) (by kernel_rfl) (by kernel_rfl) (by kernel_rfl) (fun _ _ _ h => h) (fun o ho w hS => ?y17_18_26) (by assumption) ?r17_18_26
                    case y17_18_26 => (try dsimp only at hS); unfold execOp; simp only [ho]; go_simp; try with_reducible rfl
                    try simp only [Act.put, List.setIfInBounds_toArray, List.set_cons_zero, List.set_cons_succ]
                    refine held_run 10 (some 82) (.move (.tmp 10)) ?v17_18_27 (by rfl) (by kernel_rfl) (by kernel_rfl) (by kernel_rfl) (fun _ _ _ h => h) (fun o ho w hS => ?y17_18_27) (by assumption) ?r17_18_27
                    case y17_18_27 => (try dsimp only at hS); unfold execOp; simp only [ho]; go_simp; try with_reducible rfl
                    try simp only [Act.put, List.setIfInBounds_toArray, List.set_cons_zero, List.set_cons_succ]
                    refine held_run 11 (some 83) (.move (.tmp 12)) ?v17_18_28 (by rfl) (by kernel_rfl) (by kernel_rfl) (by kernel_rfl) (fun _ _ _ h => h) (fun o ho w hS => ?y17_18_28) (by assumption) ?r17_18_28
                    case y17_18_28 => (try dsimp only at hS); unfold execOp; simp only [ho]; go_simp; try with_reducible rfl
                    try simp only [Act.put, List.setIfInBounds_toArray, List.set_cons_zero, List.set_cons_succ]
                    refine held_run 12 (some 84) (.indexAddr 76 (.tmp 82) (.tmp 83)) ?v17_18_29 (by rfl) (by kernel_rfl) (by kernel_rfl) (by kernel_rfl) (fun _ _ _ h => h) (fun o ho w hS => ?y17_18_29) (by assumption) ?r17_18_29
                    case y17_18_29 => (try dsimp only at hS); unfold execOp; simp only [ho]; go_simp; try with_reducible rfl
                    try simp only [Act.put, List.setIfInBounds_toArray, List.set_cons_zero, List.set_cons_succ]
                    refine held_run 13 (some 85) (.fieldAddr 79 (.tmp 84) 2) ?v17_18_30 (by rfl) (by kernel_rfl) (by kernel_rfl) (by kernel_rfl) (fun _ _ _ h => h) (fun o ho w hS => ?y17_18_30) (by assumption) ?r17_18_30
                    case y17_18_30 => (try dsimp only at hS); unfold execOp; simp only [ho]; go_simp; try with_reducible rfl
                    try simp only [Act.put, List.setIfInBounds_toArray, List.set_cons_zero, List.set_cons_succ]
                    refine held_run 14 (some 86) (.load 3 (.tmp 85)) ?v17_18_31 (by rfl) (by kernel_rfl) (by kernel_rfl) (by kernel_rfl) (fun _ _ _ h => h) (fun o ho w hS => ?y17_18_31) (by assumption) ?r17_18_31
                    case y17_18_31 => (try dsimp only at hS); unfold execOp; simp only [ho]; go_simp; try with_reducible rfl
                    try simp only [Act.put, List.setIfInBounds_toArray, List.set_cons_zero, List.set_cons_succ]
                    refine held_two 5 9 (by kernel_rfl) ?_ ?_
                    · refine op_yield 5 (some 77) (.load 3 (.tmp 76)) ?v17_18_32 (by rfl) (fun o ho => ?y17_18_32) ?r17_18_32
                      case y17_18_32 => unfold execOp; simp only [ho]; go_simp; try with_reducible rfl
                      refine ⟨by assumption, ?_⟩
                      try simp only [Act.put, List.setIfInBounds_toArray, List.set_cons_zero, List.set_cons_succ]
                      refine held_one 9 (by kernel_rfl) ?_
                      refine op_yield 9 (some 81) (.load 3 (.tmp 80)) ?v17_18_33 (by rfl) (fun o ho => ?y17_18_33) ?r17_18_33
                      case y17_18_33 => unfold execOp; simp only [ho]; go_simp; try with_reducible rfl
                      refine ⟨by assumption, ?_⟩
                      try simp only [Act.put, List.setIfInBounds_toArray, List.set_cons_zero, List.set_cons_succ]
                      refine held_call 15 (some 87) 44 [(.tmp 77), (.tmp 81), (.tmp 86)] #[3, 3, 3] #[.int .i64 ov1, .int .i64 pv1, .int .i64 sl] (by rfl) (by rfl) (by kernel_rfl) Try.func44 (by rfl) (by rfl) ?_
                      refine (nearer_any ov1 pv1 sl _ hovb1 hpvb1 hsl).mono ?_
                      rintro e w' ⟨rfl, rfl⟩
                      refine ⟨_, rfl, h0, ?_⟩
                      try simp only [Act.put, List.setIfInBounds_toArray, List.set_cons_zero, List.set_cons_succ]
                      refine held_run 16 (some 88) (.indexAddr 30 (.tmp 72) (.tmp 73)) ?v17_18_35 (by rfl) (by kernel_rfl) (by kernel_rfl) (by kernel_rfl) (fun _ _ _ h => h) (fun o ho w hS => ?y17_18_35) (by assumption) ?r17_18_35
                      case y17_18_35 => (try dsimp only at hS); unfold execOp; simp only [ho]; go_simp; try with_reducible rfl
                      try simp only [Act.put, List.setIfInBounds_toArray, List.set_cons_zero, List.set_cons_succ]
                      refine held_one 17 (by kernel_rfl) ?_
                      refine op_store_own 17 3 (.tmp 88) (.tmp 87) (by rfl) (HOd1.out) (ib) (hib) (.int .i64 (nearN ov1 pv1 sl)) (by rfl) (by rfl) (by kernel_rfl) (rfl) (rfl) ?_
                      intro wf hx hon
                      have HOf := Lib.hid (ownG_set hx HNX1.out)
                      have HOn := Lib.hid hon
                      have h1 : (fun W => W.cell? ⟨(ad.add (j * 3)).block, (ad.add (j * 3)).off + 2, none⟩ = some (.int .i64 sl)) wf := (hon.cell (p := ⟨(ad.add (j * 3)).block, (ad.add (j * 3)).off + 2, none⟩) (by rw [block_of_add]; exact hadB)).trans h0
                      clear hx hon
                      refine ⟨h1, ?_⟩
                      try simp only [Act.put]
                      refine wpAnyH_done (by kernel_rfl) ?_ _
                      go_wp2_with fail
                      go_meet
                      exact ⟨HOf.out, HOn.out⟩
                    · refine op_yield 9 (some 81) (.load 3 (.tmp 80)) ?v17_18_37 (by rfl) (fun o ho => ?y17_18_37) ?r17_18_37
                      case y17_18_37 => unfold execOp; simp only [ho]; go_simp; try with_reducible rfl
                      refine ⟨by assumption, ?_⟩
                      try simp only [Act.put, List.setIfInBounds_toArray, List.set_cons_zero, List.set_cons_succ]
                      refine held_one 5 (by kernel_rfl) ?_
                      refine op_yield 5 (some 77) (.load 3 (.tmp 76)) ?v17_18_38 (by rfl) (fun o ho => ?y17_18_38) ?r17_18_38
                      case y17_18_38 => unfold execOp; simp only [ho]; go_simp; try with_reducible rfl
                      refine ⟨by assumption, ?_⟩
                      try simp only [Act.put, List.setIfInBounds_toArray, List.set_cons_zero, List.set_cons_succ]
                      refine held_call 15 (some 87) 44 [(.tmp 77), (.tmp 81), (.tmp 86)] #[3, 3, 3] #[.int .i64 ov1, .int .i64 pv1, .int .i64 sl] (by rfl) (by rfl) (by kernel_rfl) Try.func44 (by rfl) (by rfl) ?_
                      refine (nearer_any ov1 pv1 sl _ hovb1 hpvb1 hsl).mono ?_
                      rintro e w' ⟨rfl, rfl⟩
                      refine ⟨_, rfl, h0, ?_⟩
                      try simp only [Act.put, List.setIfInBounds_toArray, List.set_cons_zero, List.set_cons_succ]
                      refine held_run 16 (some 88) (.indexAddr 30 (.tmp 72) (.tmp 73)) ?v17_18_40 (by rfl) (by kernel_rfl) (by kernel_rfl) (by kernel_rfl) (fun _ _ _ h => h) (fun o ho w hS => ?y17_18_40) (by assumption) ?r17_18_40
                      case y17_18_40 => (try dsimp only at hS); unfold execOp; simp only [ho]; go_simp; try with_reducible rfl
                      try simp only [Act.put, List.setIfInBounds_toArray, List.set_cons_zero, List.set_cons_succ]
                      refine held_one 17 (by kernel_rfl) ?_
                      refine op_store_own 17 3 (.tmp 88) (.tmp 87) (by rfl) (HOd1.out) (ib) (hib) (.int .i64 (nearN ov1 pv1 sl)) (by rfl) (by rfl) (by kernel_rfl) (rfl) (rfl) ?_
                      intro wf hx hon
                      have HOf := Lib.hid (ownG_set hx HNX1.out)
                      have HOn := Lib.hid hon
                      have h1 : (fun W => W.cell? ⟨(ad.add (j * 3)).block, (ad.add (j * 3)).off + 2, none⟩ = some (.int .i64 sl)) wf := (hon.cell (p := ⟨(ad.add (j * 3)).block, (ad.add (j * 3)).off + 2, none⟩) (by rw [block_of_add]; exact hadB)).trans h0
                      clear hx hon
                      refine ⟨h1, ?_⟩
                      try simp only [Act.put]
                      refine wpAnyH_done (by kernel_rfl) ?_ _
                      go_wp2_with fail
                      go_meet
                      exact ⟨HOf.out, HOn.out⟩
                  obtain ⟨ho1, hon1⟩ := hcut
                  obtain ⟨wm, rfl⟩ : ∃ wm : World, wm = wc := ⟨_, rfl⟩
                  skip
                  have HO_1 := Lib.hid ho1
                  have HS_1 : Hid (wm.ownsRow wb.heap.size 79 3 (.slice (some ad) ns cs) ns (st.map Sp.cells).flatten) := hide (hon1.own (own_below HSc.out (Below.refl _ _).drew (Nat.le_refl _)) (fun e => hadB' e))
                  have HF_1 : Hid (wm.cell? ⟨(ad.add (j * 3)).block, (ad.add (j * 3)).off + 2, none⟩ = some (.int .i64 sl)) := hide ((hon1.cell (p := ⟨(ad.add (j * 3)).block, (ad.add (j * 3)).off + 2, none⟩) (by rw [block_of_add]; exact hadB)).trans HFc.out)
                  have HB_1 : Hid (Below wb.heap.size wb wm) := hide (hon1.below (HBc.out.drew) hgb)
                  have HBn1 := Lib.hid (HBn.out.set_ (a := ia) (b := ib) (by rw [HXl.out]; exact hia) (by rw [HXl.out]; exact hib) hsl (by omega))
                  have HXl1 : Hid ((X.set ib (nearN (X.getD ib 0) (X.getD ia 0) sl)).length = k) := hide (by rw [List.length_set]; exact HXl.out)
                  obtain ⟨Y, hY⟩ : ∃ Y, X.set ib (nearN (X.getD ib 0) (X.getD ia 0) sl) = Y := ⟨_, rfl⟩
                  rw [hY] at HO_1 HBn1 HXl1
                  have HY := Lib.hid hY
                  clear hY ho1 hon1 cL1 cT1 cS1 HOd1 HNX1 HOv1 HPv1 HOc HSc HFc HBc ht1 hs1_ hovb1 hpvb1 habc
                  go_wp2_with fail
                  have HBn2 := Lib.hid (HBn1.out.set_ (a := ib) (b := ia) (by rw [HXl1.out]; exact hib) (by rw [HXl1.out]; exact hia) hsl (by omega))
                  have HF3 : Hid ((st.take (j + 1)).foldl (fun l s => stepB l (atN ids s.a) (atN ids s.b) s.len) L = Y.set ia (nearN (Y.getD ia 0) (Y.getD ib 0) sl)) := by show _ = _; rw [HF1.out, ← HY.out]; rfl
                  have HXl2 : Hid ((Y.set ia (nearN (Y.getD ia 0) (Y.getD ib 0) sl)).length = k) := hide (by rw [List.length_set]; exact HXl1.out)
                  have ht2 := HBn1.out ia (by rw [HXl1.out]; exact hia)
                  have hs2_ := HBn1.out ib (by rw [HXl1.out]; exact hib)
                  have cT2 := OwnG.cell HO_1.out hia
                  have cS2 := OwnG.cell HO_1.out hib
                  obtain ⟨ov2, hov2⟩ : ∃ x, Y.getD ia 0 = x := ⟨_, rfl⟩
                  obtain ⟨pv2, hpv2⟩ : ∃ x, Y.getD ib 0 = x := ⟨_, rfl⟩
                  rw [hov2] at cT2 ht2
                  rw [hpv2] at cS2 hs2_
                  have HOv2 := Lib.hid hov2
                  have HPv2 := Lib.hid hpv2
                  clear hov2 hpv2
                  have hovb2 : -1 ≤ ov2 ∧ ov2 ≤ 1000000000 := by omega
                  have hpvb2 : -1 ≤ pv2 ∧ pv2 ≤ 1000000000 := by omega
                  have HOd2 : Hid (OwnG 3 wm.drew wb.heap.size gB k k Y) := hide (own_below HO_1.out (Below.refl _ _).drew (Nat.le_refl _))
                  have HNX2 : Hid (Y.set ia (nearN ov2 pv2 sl) = Y.set ia (nearN (Y.getD ia 0) (Y.getD ib 0) sl)) := by show _ = _; rw [← HOv2.out, ← HPv2.out]
                  have cL2 := HF_1.out
                  have h0 : (fun W => W.cell? ⟨(ad.add (j * 3)).block, (ad.add (j * 3)).off + 2, none⟩ = some (.int .i64 sl)) wm.drew := cL2
                  refine wp_region_held_drew (S := fun W => W.cell? ⟨(ad.add (j * 3)).block, (ad.add (j * 3)).off + 2, none⟩ = some (.int .i64 sl)) (by kernel_rfl) (h0) (fun hHeld => ?_)
                  refine held_run 0 (some 89) (.move (.tmp 8)) ?v18_42_43 (by rfl) (by kernel_rfl) (by kernel_rfl) (by kernel_rfl) (fun _ _ _ h => h) (fun o ho w hS => ?y18_42_43) (by assumption) ?r18_42_43
                  case y18_42_43 => (try dsimp only at hS); unfold execOp; simp only [ho]; go_simp; try with_reducible rfl
                  try simp only [Act.put, List.setIfInBounds_toArray, List.set_cons_zero, List.set_cons_succ]
                  refine held_run 1 (some 90) (.move (.tmp 13)) ?v18_42_44 (by rfl) (by kernel_rfl) (by kernel_rfl) (by kernel_rfl) (fun _ _ _ h => h) (fun o ho w hS => ?y18_42_44) (by assumption) ?r18_42_44
                  case y18_42_44 => (try dsimp only at hS); unfold execOp; simp only [ho]; go_simp; try with_reducible rfl
                  try simp only [Act.put, List.setIfInBounds_toArray, List.set_cons_zero, List.set_cons_succ]
                  refine held_run 2 (some 91) (.move (.tmp 8)) ?v18_42_45 (by rfl) (by kernel_rfl) (by kernel_rfl) (by kernel_rfl) (fun _ _ _ h => h) (fun o ho w hS => ?y18_42_45) (by assumption) ?r18_42_45
                  case y18_42_45 => (try dsimp only at hS); unfold execOp; simp only [ho]; go_simp; try with_reducible rfl
                  try simp only [Act.put, List.setIfInBounds_toArray, List.set_cons_zero, List.set_cons_succ]
                  refine held_run 3 (some 92) (.move (.tmp 13)) ?v18_42_46 (by rfl) (by kernel_rfl) (by kernel_rfl) (by kernel_rfl) (fun _ _ _ h => h) (fun o ho w hS => ?y18_42_46) (by assumption) ?r18_42_46
                  case y18_42_46 => (try dsimp only at hS); unfold execOp; simp only [ho]; go_simp; try with_reducible rfl
                  try simp only [Act.put, List.setIfInBounds_toArray, List.set_cons_zero, List.set_cons_succ]
                  refine held_run 4 (some 93) (.indexAddr 30 (.tmp 91) (.tmp 92)) ?v18_42_47 (by rfl) (by kernel_rfl) (by kernel_rfl) (by kernel_rfl) (fun _ _ _ h => h) (fun o ho w hS => ?y18_42_47) (by assumption) ?r18_42_47
                  case y18_42_47 => (try dsimp only at hS); unfold execOp; simp only [ho]; go_simp; try with_reducible rfl
                  try simp only [Act.put, List.setIfInBounds_toArray, List.set_cons_zero, List.set_cons_succ]
                  refine held_run 6 (some 95) (.move (.tmp 8)) ?v18_42_48 (by rfl) (by kernel_rfl) (by kernel_rfl) (by kernel_rfl) (fun _ _ _ h => h) (fun o ho w hS => ?y18_42_48) (by assumption) ?r18_42_48
                  case y18_42_48 => (try dsimp only at hS); unfold execOp; simp only [ho]; go_simp; try with_reducible rfl
                  try simp only [Act.put, List.setIfInBounds_toArray, List.set_cons_zero, List.set_cons_succ]
                  refine held_run 7 (some 96) (.move (.tmp 14)) ?v18_42_49 (by rfl) (by kernel_rfl) (by kernel_rfl) (by kernel_rfl) (fun _ _ _ h => h) (fun o ho w hS => ?y18_42_49) (by assumption) ?r18_42_49
                  case y18_42_49 => (try dsimp only at hS); unfold execOp; simp only [ho]; go_simp; try with_reducible rfl
                  try simp only [Act.put, List.setIfInBounds_toArray, List.set_cons_zero, List.set_cons_succ]
                  refine held_run 8 (some 97) (.indexAddr 30 (.tmp 95) (.tmp 96)) ?v18_42_50 (by rfl) (by kernel_rfl) (by kernel_rfl) (by kernel_rfl) (fun _ _ _ h => h) (fun o ho w hS => ?y18_42_50) (by assumption) ?r18_42_50
                  case y18_42_50 => (try dsimp only at hS); unfold execOp; simp only [ho]; go_simp; try with_reducible rfl
                  try simp only [Act.put, List.setIfInBounds_toArray, List.set_cons_zero, List.set_cons_succ]
                  refine held_run 10 (some 99) (.move (.tmp 10)) ?v18_42_51 (by rfl) (by kernel_rfl) (by kernel_rfl) (by kernel_rfl) (fun _ _ _ h => h) (fun o ho w hS => ?y18_42_51) (by assumption) ?r18_42_51
                  case y18_42_51 => (try dsimp only at hS); unfold execOp; simp only [ho]; go_simp; try with_reducible rfl
                  try simp only [Act.put, List.setIfInBounds_toArray, List.set_cons_zero, List.set_cons_succ]
                  refine held_run 11 (some 100) (.move (.tmp 12)) ?v18_42_52 (by rfl) (by kernel_rfl) (by kernel_rfl) (by kernel_rfl) (fun _ _ _ h => h) (fun o ho w hS => ?y18_42_52) (by assumption) ?r18_42_52
                  case y18_42_52 => (try dsimp only at hS); unfold execOp; simp only [ho]; go_simp; try with_reducible rfl
                  try simp only [Act.put, List.setIfInBounds_toArray, List.set_cons_zero, List.set_cons_succ]
                  refine held_run 12 (some 101) (.indexAddr 76 (.tmp 99) (.tmp 100)) ?v18_42_53 (by rfl) (by kernel_rfl) (by kernel_rfl) (by kernel_rfl) (fun _ _ _ h => h) (fun o ho w hS => ?y18_42_53) (by assumption) ?r18_42_53
                  case y18_42_53 => (try dsimp only at hS); unfold execOp; simp only [ho]; go_simp; try with_reducible rfl
                  try simp only [Act.put, List.setIfInBounds_toArray, List.set_cons_zero, List.set_cons_succ]
                  refine held_run 13 (some 102) (.fieldAddr 79 (.tmp 101) 2) ?v18_42_54 (by rfl) (by kernel_rfl) (by kernel_rfl) (by kernel_rfl) (fun _ _ _ h => h) (fun o ho w hS => ?y18_42_54) (by assumption) ?r18_42_54
                  case y18_42_54 => (try dsimp only at hS); unfold execOp; simp only [ho]; go_simp; try with_reducible rfl
                  try simp only [Act.put, List.setIfInBounds_toArray, List.set_cons_zero, List.set_cons_succ]
                  refine held_run 14 (some 103) (.load 3 (.tmp 102)) ?v18_42_55 (by rfl) (by kernel_rfl) (by kernel_rfl) (by kernel_rfl) (fun _ _ _ h => h) (fun o ho w hS => ?y18_42_55) (by assumption) ?r18_42_55
                  case y18_42_55 => (try dsimp only at hS); unfold execOp; simp only [ho]; go_simp; try with_reducible rfl
                  try simp only [Act.put, List.setIfInBounds_toArray, List.set_cons_zero, List.set_cons_succ]
                  refine held_two 5 9 (by kernel_rfl) ?_ ?_
                  · refine op_yield 5 (some 94) (.load 3 (.tmp 93)) ?v18_42_56 (by rfl) (fun o ho => ?y18_42_56) ?r18_42_56
                    case y18_42_56 => unfold execOp; simp only [ho]; go_simp; try with_reducible rfl
                    refine ⟨by assumption, ?_⟩
                    try simp only [Act.put, List.setIfInBounds_toArray, List.set_cons_zero, List.set_cons_succ]
                    refine held_one 9 (by kernel_rfl) ?_
                    refine op_yield 9 (some 98) (.load 3 (.tmp 97)) ?v18_42_57 (by rfl) (fun o ho => ?y18_42_57) ?r18_42_57
                    case y18_42_57 => unfold execOp; simp only [ho]; go_simp; try with_reducible rfl
                    refine ⟨by assumption, ?_⟩
                    try simp only [Act.put, List.setIfInBounds_toArray, List.set_cons_zero, List.set_cons_succ]
                    refine held_call 15 (some 104) 44 [(.tmp 94), (.tmp 98), (.tmp 103)] #[3, 3, 3] #[.int .i64 ov2, .int .i64 pv2, .int .i64 sl] (by rfl) (by rfl) (by kernel_rfl) Try.func44 (by rfl) (by rfl) ?_
                    refine (nearer_any ov2 pv2 sl _ hovb2 hpvb2 hsl).mono ?_
                    rintro e w' ⟨rfl, rfl⟩
                    refine ⟨_, rfl, h0, ?_⟩
                    try simp only [Act.put, List.setIfInBounds_toArray, List.set_cons_zero, List.set_cons_succ]
                    refine held_run 16 (some 105) (.indexAddr 30 (.tmp 89) (.tmp 90)) ?v18_42_59 (by rfl) (by kernel_rfl) (by kernel_rfl) (by kernel_rfl) (fun _ _ _ h => h) (fun o ho w hS => ?y18_42_59) (by assumption) ?r18_42_59
                    case y18_42_59 => (try dsimp only at hS); unfold execOp; simp only [ho]; go_simp; try with_reducible rfl
                    try simp only [Act.put, List.setIfInBounds_toArray, List.set_cons_zero, List.set_cons_succ]
                    refine held_one 17 (by kernel_rfl) ?_
                    refine op_store_own 17 3 (.tmp 105) (.tmp 104) (by rfl) (HOd2.out) (ia) (hia) (.int .i64 (nearN ov2 pv2 sl)) (by rfl) (by rfl) (by kernel_rfl) (rfl) (rfl) ?_
                    intro wf hx hon
                    have HOf := Lib.hid (ownG_set hx HNX2.out)
                    have HOn := Lib.hid hon
                    have h1 : (fun W => W.cell? ⟨(ad.add (j * 3)).block, (ad.add (j * 3)).off + 2, none⟩ = some (.int .i64 sl)) wf := (hon.cell (p := ⟨(ad.add (j * 3)).block, (ad.add (j * 3)).off + 2, none⟩) (by rw [block_of_add]; exact hadB)).trans h0
                    clear hx hon
                    refine ⟨h1, ?_⟩
                    try simp only [Act.put]
                    refine wpAnyH_done (by kernel_rfl) ?_ _
                    have HS_2 : Hid (wf.ownsRow wb.heap.size 79 3 (.slice (some ad) ns cs) ns (st.map Sp.cells).flatten) := hide (HOn.out.own (own_below HS_1.out (Below.refl _ _).drew (Nat.le_refl _)) (fun e => hadB' e))
                    have HB_2 : Hid (Below wb.heap.size wb wf) := hide (HOn.out.below (HB_1.out.drew) hgb)
                    clear h1 cL2 cT2 cS2
                    go_wp2_with fail
                    go_roundw
                    case rel => exact ⟨j + 1, _, by omega, by go_num, HF3.out, HXl2.out, HOf.out, HBn2.out.mono (by omega), HS_2.out, HB_2.out⟩
                    case measure => simp [intOf]; omega
                  · refine op_yield 9 (some 98) (.load 3 (.tmp 97)) ?v18_42_61 (by rfl) (fun o ho => ?y18_42_61) ?r18_42_61
                    case y18_42_61 => unfold execOp; simp only [ho]; go_simp; try with_reducible rfl
                    refine ⟨by assumption, ?_⟩
                    try simp only [Act.put, List.setIfInBounds_toArray, List.set_cons_zero, List.set_cons_succ]
                    refine held_one 5 (by kernel_rfl) ?_
                    refine op_yield 5 (some 94) (.load 3 (.tmp 93)) ?v18_42_62 (by rfl) (fun o ho => ?y18_42_62) ?r18_42_62
                    case y18_42_62 => unfold execOp; simp only [ho]; go_simp; try with_reducible rfl
                    refine ⟨by assumption, ?_⟩
                    try simp only [Act.put, List.setIfInBounds_toArray, List.set_cons_zero, List.set_cons_succ]
                    refine held_call 15 (some 104) 44 [(.tmp 94), (.tmp 98), (.tmp 103)] #[3, 3, 3] #[.int .i64 ov2, .int .i64 pv2, .int .i64 sl] (by rfl) (by rfl) (by kernel_rfl) Try.func44 (by rfl) (by rfl) ?_
                    refine (nearer_any ov2 pv2 sl _ hovb2 hpvb2 hsl).mono ?_
                    rintro e w' ⟨rfl, rfl⟩
                    refine ⟨_, rfl, h0, ?_⟩
                    try simp only [Act.put, List.setIfInBounds_toArray, List.set_cons_zero, List.set_cons_succ]
                    refine held_run 16 (some 105) (.indexAddr 30 (.tmp 89) (.tmp 90)) ?v18_42_64 (by rfl) (by kernel_rfl) (by kernel_rfl) (by kernel_rfl) (fun _ _ _ h => h) (fun o ho w hS => ?y18_42_64) (by assumption) ?r18_42_64
                    case y18_42_64 => (try dsimp only at hS); unfold execOp; simp only [ho]; go_simp; try with_reducible rfl
                    try simp only [Act.put, List.setIfInBounds_toArray, List.set_cons_zero, List.set_cons_succ]
                    refine held_one 17 (by kernel_rfl) ?_
                    refine op_store_own 17 3 (.tmp 105) (.tmp 104) (by rfl) (HOd2.out) (ia) (hia) (.int .i64 (nearN ov2 pv2 sl)) (by rfl) (by rfl) (by kernel_rfl) (rfl) (rfl) ?_
                    intro wf hx hon
                    have HOf := Lib.hid (ownG_set hx HNX2.out)
                    have HOn := Lib.hid hon
                    have h1 : (fun W => W.cell? ⟨(ad.add (j * 3)).block, (ad.add (j * 3)).off + 2, none⟩ = some (.int .i64 sl)) wf := (hon.cell (p := ⟨(ad.add (j * 3)).block, (ad.add (j * 3)).off + 2, none⟩) (by rw [block_of_add]; exact hadB)).trans h0
                    clear hx hon
                    refine ⟨h1, ?_⟩
                    try simp only [Act.put]
                    refine wpAnyH_done (by kernel_rfl) ?_ _
                    have HS_2 : Hid (wf.ownsRow wb.heap.size 79 3 (.slice (some ad) ns cs) ns (st.map Sp.cells).flatten) := hide (HOn.out.own (own_below HS_1.out (Below.refl _ _).drew (Nat.le_refl _)) (fun e => hadB' e))
                    have HB_2 : Hid (Below wb.heap.size wb wf) := hide (HOn.out.below (HB_1.out.drew) hgb)
                    clear h1 cL2 cT2 cS2
                    go_wp2_with fail
                    go_roundw
                    case rel => exact ⟨j + 1, _, by omega, by go_num, HF3.out, HXl2.out, HOf.out, HBn2.out.mono (by omega), HS_2.out, HB_2.out⟩
                    case measure => simp [intOf]; omega
                · obtain rfl : j = ns := by omega
                  have HXq : Hid (roundsB ids st (q + 1) (startB ids u) = X) := hide (HRd.out.trans HX.out)
                  go_wp2_with fail
                  go_roundw
                  case rel => exact ⟨q + 1, by omega, by go_num, by rw [HXq.out]; exact HO.out, by rw [HXq.out]; exact HBn.out.mono (by omega), HS.out, HBo.out⟩
                  case measure => simp [intOf]; omega
            · obtain rfl : q = k := by omega
              obtain ⟨T, hT⟩ : ∃ T, (roundsB ids st q (startB ids u)).getD iv 0 = T := ⟨_, rfl⟩
              have HSm := Lib.hid (HSame.out HOku.out HOkv.out T (by rw [HIv.out]; exact hT))
              have HT := Lib.hid hT
              clear hT
              go_wp2_with
                (first
                 | (refine wpList_load_g 32 (.tmp 3) rfl rfl w.heap.size rfl _ _ HX0o.out _ Try.underlying32 rfl (by kernel_rfl) ?_))
              with_reducible refine (HAt.out v wo HMo.out).mono ?_
              rintro e w8 ⟨rfl, hb8⟩
              have HO8 : Hid (OwnG 3 w8 wb.heap.size gB q q (roundsB ids st q (startB ids u))) := hide (own_below HO.out hb8 (Nat.le_refl _))
              have HB8 := Lib.hid (HBo.out.trans (hb8.mono hszo))
              have HW8 := Lib.hid (HWo.out.trans (hb8.mono HWo.out.size))
              have hsz8 : wb.heap.size ≤ w8.heap.size := Nat.le_trans hszo hb8.size
              have HX08 := Lib.hid (HX0o.out.below hb8 (Nat.lt_of_lt_of_le hxx0 hszo))
              have HM8 := Lib.hid (HMo.out.now hb8)
              have HLf8 := Lib.hid (HLfo.out.now hb8)
              have HRs8 := Lib.hid (HRso.out.now hb8)
              clear hb8
              rw [HEv.out]
              have c8 := OwnG.cell HO8.out hiv
              rw [HT.out] at c8
              by_cases hT0 : T < 0
              · have dT : decide (T < 0) = true := decide_eq_true hT0
                go_wp2_with fail
                try go_ret2
                exact HFin.out none _ (HSm.out.1 hT0) HW8.out
              · have dT : decide (T < 0) = false := decide_eq_false hT0
                go_wp2_with
                  (first
                   | (refine wpList_load_g 32 (.tmp 3) rfl rfl w.heap.size rfl _ _ HX08.out _ Try.underlying32 rfl (by kernel_rfl) ?_))
                with_reducible refine (HAt.out v w8 HM8.out).mono ?_
                rintro e w9 ⟨rfl, hb9⟩
                have HO9 : Hid (OwnG 3 w9 wb.heap.size gB q q (roundsB ids st q (startB ids u))) := hide (own_below HO8.out hb9 (Nat.le_refl _))
                clear c8
                have HB9 := Lib.hid (HB8.out.trans (hb9.mono hsz8))
                have HW9 := Lib.hid (HW8.out.trans (hb9.mono HW8.out.size))
                have hsz9 : wb.heap.size ≤ w9.heap.size := Nat.le_trans hsz8 hb9.size
                have HX09 := Lib.hid (HX08.out.below hb9 (Nat.lt_of_lt_of_le hxx0 hsz8))
                have HM9 := Lib.hid (HM8.out.now hb9)
                have HLf9 := Lib.hid (HLf8.out.now hb9)
                have HRs9 := Lib.hid (HRs8.out.now hb9)
                clear hb9
                rw [HEv.out]
                have c9 := OwnG.cell HO9.out hiv
                rw [HT.out] at c9
                go_wp2_with fail
                try go_ret2
                exact HFin.out (some T) _ (HSm.out.2 (by omega)) HW9.out
end Go.Proofs.Ytegijfmdjaehjaa
