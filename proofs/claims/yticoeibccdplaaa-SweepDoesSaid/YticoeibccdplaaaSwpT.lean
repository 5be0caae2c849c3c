/-
  All of chapter 56, and the reference's, walked.
-/
import Derived.Test.YticoeibccdplaaaSwpS
namespace Go.Proofs.Yticoeibccdplaaa
open Go.RowKit

/-- what All returns -/
def AllR (bef : Int → Int → Bool) (out : Int → Bool) (runs people : List Int) (w : World) (e : Ending) (w' : World) : Prop :=
  Below w.heap.size w w' ∧ ((formB runs people = false ∧ e = .returned (.tuple #[.int .i64 0, .int .i64 0, .int .i64 3])) ∨
    (formB runs people = true ∧ e = .returned (.tuple #[.int .i64 (allGo bef out runs (ordN bef runs) people 0).2, .int .i64 (allGo bef out runs (ordN bef runs) people 0).1.sum, .int .i64 0])))
theorem allR_form {bef out runs people w w'} (h : formB runs people = false) (hb : Below w.heap.size w w') : AllR bef out runs people w (.returned (.tuple #[.int .i64 0, .int .i64 0, .int .i64 3])) w' := ⟨hb, .inl ⟨h, rfl⟩⟩
theorem allR_ok {bef out runs people w w'} {P : List Int} {L s : Int} (h : formB runs people = true) (hg : allGo bef out runs (ordN bef runs) people 0 = (P, L)) (hs : s = P.sum) (hb : Below w.heap.size w w') : AllR bef out runs people w (.returned (.tuple #[.int .i64 L, .int .i64 s, .int .i64 0])) w' := ⟨hb, .inr ⟨h, by rw [hg, hs]⟩⟩
theorem all_step {bef out} {runs order : List Int} {k : Nat} {P : List Int} {L : Int} {j : Nat} (hk : k < order.length) (hj : indI runs (order.getD k 0) = (j : Int)) : allGo bef out runs (order.drop k) P L = allGo bef out runs (order.drop (k + 1)) (pushN bef out runs P j).1 (L + (pushN bef out runs P j).2) := by
  rw [drop_at order k hk, allGo, hj]
  rfl
theorem sum_take (l : List Int) (k : Nat) (h : k < l.length) : (l.take (k + 1)).sum = (l.take k).sum + l.getD k 0 := by
  rw [take_at l k h, List.sum_append]
  simp
theorem sum_take_bd {l : List Int} (h : ∀ z ∈ l, 0 ≤ z) (k : Nat) : 0 ≤ (l.take k).sum ∧ (l.take k).sum ≤ l.sum := by
  have h1 := nn_sum (l := l.take k) fun z hz => h z (List.mem_of_mem_take hz)
  have h2 := nn_sum (l := l.drop k) fun z hz => h z (List.mem_of_mem_drop hz)
  have h3 : l.sum = (l.take k).sum + (l.drop k).sum := by rw [← List.sum_append, List.take_append_drop]
  omega

set_option maxRecDepth 100000 in
set_option maxHeartbeats 4000000 in
theorem all_any (vn vl vr vb v1 v2 vp : Value) (bg : Int) (rs : List Rn) (bs runs people : List Int) (sw : List Sw) (w : World) (hm : StrV Rn.cells 7 w w.heap.size vr rs) (hb : RowV w w.heap.size vb bs) (hr1 : RowV w w.heap.size v1 runs) (hp : RowV w w.heap.size vp people) (hlim : runs.length ≤ 1000) :
    Calls Try.prog 30 #[.agg #[vn, vl, vr, vb], .agg #[v1, v2, .int .i64 bg], vp] w (AllR (befP rs) (outP rs bs) runs people w) := by
  obtain ⟨A1, n1, c1, rfl, HL1, h11, h12, hr1'⟩ := hr1.nam
  obtain ⟨Ap, np, cp, rfl, HLp, h3, h4, hp'⟩ := hp.nam
  have hn1 : n1 ≤ maxLen := Nat.le_trans h11 h12
  have HRv := Lib.hid hr1
  have HR := Lib.hid hr1'
  have HBv := Lib.hid hb
  have HM := Lib.hid hm
  have HPv := Lib.hid hp
  have HPp := Lib.hid hp'
  have hlim' : n1 ≤ 1000 := by rw [← HL1.out]; exact hlim
  obtain ⟨fb, hfb⟩ : ∃ b, formB runs people = b := ⟨_, rfl⟩
  have HFb := Lib.hid hfb
  have HCf : Hid (∀ (W : World), RowV W W.heap.size (.slice A1 n1 c1) runs → RowV W W.heap.size (.slice Ap np cp) people → Calls Try.prog 53 #[.agg #[.slice A1 n1 c1, v2, .int .i64 bg], .slice Ap np cp] W fun e w' => e = .returned (.bool fb) ∧ Below W.heap.size W w') := fun W q1 q2 => formed_any _ v2 bg runs people _ fb W q1 q2 hfb
  have HCo : Hid (∀ (W : World), StrV Rn.cells 7 W W.heap.size vr rs → RowV W W.heap.size (.slice A1 n1 c1) runs → Calls Try.prog 17 #[.agg #[vn, vl, vr, vb], .agg #[.slice A1 n1 c1, v2, .int .i64 bg]] W fun e w' => ∃ v, e = .returned v ∧ OwnI w' W.heap.size v (ordN (befP rs) runs) ∧ Below W.heap.size W w') := fun W q1 q2 => order_any vn vl vr vb _ v2 bg rs runs sw W q1 q2 hlim
  have HCi : Hid (∀ (x : Int) (j : Nat) (W : World), Ints W W.heap.size A1 n1 runs → indI runs x = (j : Int) → Calls Try.prog 54 #[.slice A1 n1 c1, .int .i64 x] W fun e w' => e = .returned (.int .i64 (j : Int)) ∧ W = w') := fun x j W q1 q2 => by
    have h := index_any _ n1 c1 _ runs x W q1 hn1
    rwa [q2] at h
  clear hm hb hr1 hr1' hp hp' hfb h11 h12 h3 h4 hlim
  go_enter Try.func30, Try.ntmps30
  go_wp2_with fail
  have HBwz0 := (Blk.new w 27 #[vn, vl, vr, vb])
  have HLwz0 := (below_new w (.cells #[vn, vl, vr, vb] 27))
  have hswz0 : (w.alloc (.cells #[vn, vl, vr, vb] 27)).heap.size = w.heap.size + 1 := by simp
  generalize w.alloc (.cells #[vn, vl, vr, vb] 27) = wz0 at HBwz0 HLwz0 hswz0 ⊢
  replace HBwz0 := Lib.hid HBwz0
  replace HLwz0 := Lib.hid HLwz0
  have hlwz0 : w.heap.size < wz0.heap.size := by omega
  replace hswz0 := Lib.hid hswz0
  have HBwb := (Blk.new wz0 30 #[.slice A1 n1 c1, v2, .int .i64 bg])
  have HLwb := (below_new wz0 (.cells #[.slice A1 n1 c1, v2, .int .i64 bg] 30))
  have hswb : (wz0.alloc (.cells #[.slice A1 n1 c1, v2, .int .i64 bg] 30)).heap.size = wz0.heap.size + 1 := by simp
  generalize wz0.alloc (.cells #[.slice A1 n1 c1, v2, .int .i64 bg] 30) = wb at HBwb HLwb hswb ⊢
  replace HBwb := Lib.hid HBwb
  replace HLwb := Lib.hid HLwb
  have hlwb : wz0.heap.size < wb.heap.size := by omega
  replace hswb := Lib.hid hswb
  have HQ1 := Lib.hid (HLwz0.out.trans (HLwb.out.mono HLwz0.out.size))
  have HWb := Lib.hid (HQ1.out)
  have hl0 : w.heap.size ≤ wb.heap.size := HWb.out.size
  have HBb : Hid (Below wb.heap.size wb wb) := hide (Below.refl _ _)
  have hszb : wb.heap.size ≤ wb.heap.size := Nat.le_refl _
  have HZ0_1 := Lib.hid (HBwz0.out.below HLwb.out hlwz0)
  have hz0_1 : w.heap.size < wb.heap.size := HZ0_1.out.lt
  have HX0b : Hid (Blk wb w.heap.size 27 #[vn, vl, vr, vb]) := hide HZ0_1.out
  have hxx0 : w.heap.size < wb.heap.size := HX0b.out.lt
  have HX1b : Hid (Blk wb (w.heap.size + 1) 30 #[.slice A1 n1 c1, v2, .int .i64 bg]) := hide (by have h := HBwb.out; rw [show wz0.heap.size = w.heap.size + 1 from by have := hswz0.out; omega] at h; exact h)
  have hxx1 : (w.heap.size + 1) < wb.heap.size := HX1b.out.lt
  clear HBwz0 HLwz0 hswz0 hlwz0
  clear HBwb HLwb hswb hlwb
  have HMb := Lib.hid (HM.out.now HWb.out)
  have HRb := Lib.hid (HR.out.now HWb.out)
  have HBvb := Lib.hid (HBv.out.now HWb.out)
  have HRvb := Lib.hid (HRv.out.now HWb.out)
  have HPvb := Lib.hid (HPv.out.now HWb.out)
  have HPpb := Lib.hid (HPp.out.now HWb.out)
  go_wp2_with
    (first
     | (refine wpList_load_g 30 (.tmp 4) rfl rfl (w.heap.size + 1) rfl _ _ HX1b.out _ Try.underlying30 rfl (by kernel_rfl) ?_))
  with_reducible refine (HCf.out _ HRvb.out HPvb.out).mono ?_
  rintro e w1 ⟨rfl, hb1⟩
  have HB1 := Lib.hid (HBb.out.trans (hb1.mono hszb))
  have HW1 := Lib.hid (HWb.out.trans (hb1.mono HWb.out.size))
  have hsz1 : wb.heap.size ≤ w1.heap.size := Nat.le_trans hszb hb1.size
  have HX01 := Lib.hid (HX0b.out.below hb1 (Nat.lt_of_lt_of_le hxx0 hszb))
  have HX11 := Lib.hid (HX1b.out.below hb1 (Nat.lt_of_lt_of_le hxx1 hszb))
  have HM1 := Lib.hid (HMb.out.now hb1)
  have HR1 := Lib.hid (HRb.out.now hb1)
  have HBv1 := Lib.hid (HBvb.out.now hb1)
  have HRv1 := Lib.hid (HRvb.out.now hb1)
  have HPv1 := Lib.hid (HPvb.out.now hb1)
  have HPp1 := Lib.hid (HPpb.out.now hb1)
  clear hb1
  cases fb with
  | false =>
    go_wp2_with fail
    go_ret3
    exact allR_form HFb.out HW1.out
  | true =>
    obtain ⟨hpl, hp0, hp1⟩ := form_of HFb.out
    have hnp : np = n1 := by rw [← HLp.out, ← HL1.out]; exact hpl
    subst hnp
    have htot : people.sum ≤ 1000000000 := by
      have h := sum_le hp1
      have h2 : (people.length : Int) ≤ 1000 := by rw [HLp.out]; omega
      omega
    have htot0 : 0 ≤ people.sum := nn_sum hp0
    have HP0 := Lib.hid hp0
    clear hpl hp0 hp1
    obtain ⟨total, htt⟩ : ∃ x, people.sum = x := ⟨_, rfl⟩
    rw [htt] at htot htot0
    have HTt := Lib.hid htt
    clear htt
    go_wp2_with fail
    with_reducible refine (clone_i _ _ _ _ people _ HPp1.out (by omega) (Nat.le_refl _)).mono ?_
    rintro e w2 ⟨vc, rfl, hoc, hb2⟩
    obtain ⟨Ar, cr, rfl, hc1', hc2', _⟩ := own_open (OwnI.row hoc HLp.out)
    have HOc : Hid (OwnI w2 wb.heap.size (.slice Ar np cr) people) := hide (hoc.mono hsz1)
    have hs12 := hb2.size
    have HB2 := Lib.hid (HB1.out.trans (hb2.mono hsz1))
    have HW2 := Lib.hid (HW1.out.trans (hb2.mono HW1.out.size))
    have hsz2 : wb.heap.size ≤ w2.heap.size := Nat.le_trans hsz1 hb2.size
    have HX02 := Lib.hid (HX01.out.below hb2 (Nat.lt_of_lt_of_le hxx0 hsz1))
    have HX12 := Lib.hid (HX11.out.below hb2 (Nat.lt_of_lt_of_le hxx1 hsz1))
    have HM2 := Lib.hid (HM1.out.now hb2)
    have HR2 := Lib.hid (HR1.out.now hb2)
    have HBv2 := Lib.hid (HBv1.out.now hb2)
    have HRv2 := Lib.hid (HRv1.out.now hb2)
    have HPv2 := Lib.hid (HPv1.out.now hb2)
    have HPp2 := Lib.hid (HPp1.out.now hb2)
    clear hb2
    have HOl : Hid (∀ g, (Value.slice Ar np cr).ownBlock = some g → g < w2.heap.size) := fun g hg => (World.ownsRow.lt hoc g hg).2
    clear hoc
    go_wp2_with
      (first
       | (refine wpList_load_g 27 (.tmp 3) rfl rfl w.heap.size rfl _ _ HX02.out _ Try.underlying27 rfl (by kernel_rfl) ?_)
       | (refine wpList_load_g 30 (.tmp 4) rfl rfl (w.heap.size + 1) rfl _ _ HX12.out _ Try.underlying30 rfl (by kernel_rfl) ?_))
    with_reducible refine (HCo.out _ HM2.out HRv2.out).mono ?_
    rintro e w3 ⟨vo, rfl, hoo, hb3⟩
    obtain ⟨Ao, no, co, rfl, HLo, ho1, ho2, _⟩ := hoo.nam
    have HOo := Lib.hid hoo
    have HO3 : Hid (OwnI w3 wb.heap.size (.slice Ar np cr) people) := hide (own_below HOc.out hb3 (Nat.le_refl _))
    have HB3 := Lib.hid (HB2.out.trans (hb3.mono hsz2))
    have HW3 := Lib.hid (HW2.out.trans (hb3.mono HW2.out.size))
    have hsz3 : wb.heap.size ≤ w3.heap.size := Nat.le_trans hsz2 hb3.size
    have HX03 := Lib.hid (HX02.out.below hb3 (Nat.lt_of_lt_of_le hxx0 hsz2))
    have HX13 := Lib.hid (HX12.out.below hb3 (Nat.lt_of_lt_of_le hxx1 hsz2))
    have HM3 := Lib.hid (HM2.out.now hb3)
    have HR3 := Lib.hid (HR2.out.now hb3)
    have HBv3 := Lib.hid (HBv2.out.now hb3)
    have HRv3 := Lib.hid (HRv2.out.now hb3)
    have HPv3 := Lib.hid (HPv2.out.now hb3)
    have HPp3 := Lib.hid (HPp2.out.now hb3)
    clear hb3 hoo
    have HSub : Hid (∀ y ∈ ordN (befP rs) runs, y ∈ runs) := hide ord_sub
    obtain ⟨order, hord⟩ : ∃ x, ordN (befP rs) runs = x := ⟨_, rfl⟩
    have HOrd := Lib.hid hord
    rw [hord] at HLo HOo HSub
    clear hord
    have hno : no ≤ maxLen := Nat.le_trans ho1 ho2
    unfold maxLen at hno
    obtain ⟨⟨PR, LR⟩, hR⟩ : ∃ x, allGo (befP rs) (outP rs bs) runs order people 0 = x := ⟨_, rfl⟩
    have HR0 := Lib.hid hR
    have HR00 := Lib.hid hR
    clear hR
    go_wp2_with fail
    go_loopw [10, 26] (fun vl vi wr => ∃ (k : Nat) (P : List Int) (L : Int), k ≤ no ∧ vi = .int .i64 k ∧ vl = .int .i64 L ∧ OwnI wr wb.heap.size (.slice Ar np cr) P ∧ OwnI wr w2.heap.size (.slice Ao no co) order ∧ P.length = runs.length ∧ (∀ z ∈ P, 0 ≤ z) ∧ 0 ≤ L ∧ P.sum + L = total ∧ allGo (befP rs) (outP rs bs) runs (order.drop k) P L = (PR, LR) ∧ Below wb.heap.size wb wr) (fun _ vi _ => no - (intOf vi).toNat)
    case atStart => exact ⟨0, people, 0, by omega, rfl, rfl, HO3.out, HOo.out, by rw [HLp.out, HL1.out], HP0.out, Int.le_refl _, by rw [HTt.out]; simp, HR0.out, HB3.out⟩
    case round =>
      obtain ⟨k, P, L, hk, rfl, rfl, hO, hOr, hPl, hP0, hL0, hPs, hgo, hbr⟩ := hrel
      clear HM1 HM2 HM3 HB1 HB2 HB3 HW1 HW2 HW3 HX01 HX11 HX02 HX12 HX03 HX13 HR1 HR2 HR3 HBv1 HBv2 HBv3 HRv1 HRv2 HRv3 HPv1 HPv2 HPv3 HPp1 HPp2 HPp3 HO3 HOo HOc HR0 hsz1 hsz3
      have HOw := Lib.hid hO
      have HOr := Lib.hid hOr
      have HPl := Lib.hid hPl
      have HP := Lib.hid hP0
      have HGo := Lib.hid hgo
      have hL1 : L ≤ total := by have := nn_sum hP0; omega
      clear hO hOr hPl hP0 hgo
      obtain ⟨wo, rfl⟩ : ∃ wo : World, wo = wr := ⟨_, rfl⟩
      have HBo := Lib.hid (HBb.out.trans (hbr.mono hszb))
      have HWo := Lib.hid (HWb.out.trans (hbr.mono HWb.out.size))
      have hszo : wb.heap.size ≤ wo.heap.size := Nat.le_trans hszb hbr.size
      have HX0o := Lib.hid (HX0b.out.below hbr (Nat.lt_of_lt_of_le hxx0 hszb))
      have HX1o := Lib.hid (HX1b.out.below hbr (Nat.lt_of_lt_of_le hxx1 hszb))
      have HMo := Lib.hid (HMb.out.now hbr)
      have HRo := Lib.hid (HRb.out.now hbr)
      have HBvo := Lib.hid (HBvb.out.now hbr)
      have HRvo := Lib.hid (HRvb.out.now hbr)
      have HPvo := Lib.hid (HPvb.out.now hbr)
      have HPpo := Lib.hid (HPpb.out.now hbr)
      clear hbr
      by_cases hlt : k < no
      · skip
        obtain ⟨ad, rfl, hab, hc⟩ := (show Ints wo wo.heap.size Ao no order from by obtain ⟨A', n', c', he, _, _, _, h⟩ := HOr.out.rowV.nam; injection he with e1 e2 e3; subst e1 e2; exact h).int hlt
        have hmem : order.getD k 0 ∈ runs := HSub.out _ (by rw [show order.getD k 0 = order[k]'(by rw [HLo.out]; exact hlt) by simp [List.getElem?_eq_getElem (show k < order.length by rw [HLo.out]; exact hlt)]]; exact List.getElem_mem _)
        obtain ⟨j, hj, hjl, hjx⟩ := ind_of hmem
        have HStep := Lib.hid ((all_step (bef := (befP rs)) (out := (outP rs bs)) (P := P) (L := L) (show k < order.length by rw [HLo.out]; exact hlt) hj).symm.trans HGo.out)
        generalize order.getD k 0 = x at *
        have HJ := Lib.hid hj
        have HJx := Lib.hid hjx
        have hjn : j < np := by rw [← HL1.out]; exact hjl
        obtain ⟨q1, q2, q3, q4⟩ := push_keep (bef := (befP rs)) (out := (outP rs bs)) HPl.out hjl HP.out
        have HBd : Hid (∀ z ∈ P, 0 ≤ z ∧ z ≤ 100000000000) := fun z hz => ⟨HP.out z hz, by have h := le_sum HP.out z hz; omega⟩
        have hrn : runs.length ≤ 1000 := by rw [HL1.out]; exact hlim'
        clear hj hjx hjl
        clear hmem
        obtain ⟨g, cap, hv, hgb, hgl, _, _⟩ := own_form (OwnI.row HOw.out (show P.length = np by rw [HPl.out, HL1.out])) (show 0 < np by omega)
        injection hv with hv1 _ hv3
        subst hv1 hv3
        have hgw : g < w2.heap.size := HOl.out g rfl
        have HCp : Hid (∀ W : World, StrV Rn.cells 7 W wb.heap.size vr rs → RowV W wb.heap.size vb bs → RowV W wb.heap.size (.slice A1 np c1) runs → OwnG 3 W wb.heap.size g np cr P → wb.heap.size ≤ W.heap.size → Calls Try.prog 55 #[.agg #[vn, vl, vr, vb], .agg #[.slice A1 np c1, v2, .int .i64 bg], .slice (some ⟨g, 0, none⟩) np cr, .int .i64 (j : Int)] W fun e w' => e = .returned (.int .i64 (pushN (befP rs) (outP rs bs) runs P j).2) ∧ OwnG 3 w' wb.heap.size g np cr (pushN (befP rs) (outP rs bs) runs P j).1 ∧ W.grownBy w' (some g)) := fun W a1 a2 a3 a4 a5 => push_any vn vl vr vb _ v2 bg rs bs runs P g np cr wb.heap.size j W a1 a2 a3 a4 HL1.out hjn a5 hlim' HBd.out
        generalize pushN (befP rs) (outP rs bs) runs P j = q at *
        obtain ⟨P', l'⟩ := q
        simp only at q1 q2 q3 q4 HStep HCp
        have HOg : Hid (OwnG 3 wo wb.heap.size g np cr P) := hide (OwnI.row HOw.out (show P.length = np by rw [HPl.out, HL1.out]))
        have HP's := nn_sum q2
        have hwr : IntKind.i64.wrap (L + l') = L + l' := IntWalk.i64_in _ (by omega)
        have HQ1 := Lib.hid q1
        have HQ2 := Lib.hid q2
        clear q1 q2
        have HS : Hid (∀ W, Below wb.heap.size wb W → (fun W => Below wb.heap.size wb W ∧ Blk W w.heap.size 27 #[vn, vl, vr, vb] ∧ Blk W (w.heap.size + 1) 30 #[.slice A1 np c1, v2, .int .i64 bg] ∧ W.cell? ⟨w.heap.size + 1, 0, none⟩ = some (.slice A1 np c1)) W) := fun W hB => ⟨hB, HX0b.out.below hB hxx0, HX1b.out.below hB hxx1, (HX1b.out.below hB hxx1).cell 0⟩
        have h0 := HS.out _ HBo.out.drew
        have HRod : Hid (Ints wo.drew wo.drew.heap.size A1 np runs) := hide HRo.out
        have HMod : Hid (StrV Rn.cells 7 wo.drew wb.heap.size vr rs) := hide (HMb.out.below HBo.out.drew)
        have HBod : Hid (RowV wo.drew wb.heap.size vb bs) := hide (HBvb.out.below HBo.out.drew)
        have HRvod : Hid (RowV wo.drew wb.heap.size (.slice A1 np c1) runs) := hide (HRvb.out.below HBo.out.drew)
        have HOgd : Hid (OwnG 3 wo.drew wb.heap.size g np cr P) := hide (own_below HOg.out ((Below.refl wo.heap.size wo).drew) (Nat.le_refl _))
        have HOrd2 : Hid (OwnI wo.drew w2.heap.size (.slice (some ad) no co) order) := hide (own_below HOr.out ((Below.refl wo.heap.size wo).drew) (Nat.le_refl _))
        go_wp2_with fail
        refine wp_region_held_drew (S := fun W => Below wb.heap.size wb W ∧ Blk W w.heap.size 27 #[vn, vl, vr, vb] ∧ Blk W (w.heap.size + 1) 30 #[.slice A1 np c1, v2, .int .i64 bg] ∧ W.cell? ⟨w.heap.size + 1, 0, none⟩ = some (.slice A1 np c1)) (by kernel_rfl) (h0) (fun hHeld => ?_)
        refine held_run 0 (some 30) (.move (.tmp 10)) ?v8_1_2 (by rfl) (by kernel_rfl) (by kernel_rfl) (by kernel_rfl) (fun _ _ _ h => h) (fun o ho w hS => ?y8_1_2) (by assumption) ?r8_1_2
        case y8_1_2 => (try dsimp only at hS); unfold execOp; simp only [ho]; go_simp; try with_reducible rfl
        try simp only [Act.put, List.setIfInBounds_toArray, List.set_cons_zero, List.set_cons_succ]
        refine held_load 1 (some 31) 27 (.tmp 3) (by rfl) (by kernel_rfl) (by kernel_rfl) (by kernel_rfl) (w.heap.size) 27 #[vn, vl, vr, vb] (fun _ _ _ h => h) (by rfl) (fun _ h => h.2.1) _ Try.underlying27 rfl (by kernel_rfl) (by assumption) ?_
        try simp only [Act.put, List.setIfInBounds_toArray, List.set_cons_zero, List.set_cons_succ]
        refine held_load 2 (some 32) 30 (.tmp 4) (by rfl) (by kernel_rfl) (by kernel_rfl) (by kernel_rfl) (w.heap.size + 1) 30 #[.slice A1 np c1, v2, .int .i64 bg] (fun _ _ _ h => h) (by rfl) (fun _ h => h.2.2.1) _ Try.underlying30 rfl (by kernel_rfl) (by assumption) ?_
        try simp only [Act.put, List.setIfInBounds_toArray, List.set_cons_zero, List.set_cons_succ]
        refine held_run 3 (some 33) (.move (.tmp 9)) ?v8_1_5 (by rfl) (by kernel_rfl) (by kernel_rfl) (by kernel_rfl) (fun _ _ _ h => h) (fun o ho w hS => ?y8_1_5) (by assumption) ?r8_1_5
        case y8_1_5 => (try dsimp only at hS); unfold execOp; simp only [ho]; go_simp; try with_reducible rfl
        try simp only [Act.put, List.setIfInBounds_toArray, List.set_cons_zero, List.set_cons_succ]
        refine held_run 4 (some 34) (.fieldAddr 30 (.tmp 4) 0) ?v8_1_6 (by rfl) (by kernel_rfl) (by kernel_rfl) (by kernel_rfl) (fun _ _ _ h => h) (fun o ho w hS => ?y8_1_6) (by assumption) ?r8_1_6
        case y8_1_6 => (try dsimp only at hS); unfold execOp; simp only [ho]; go_simp; try with_reducible rfl
        try simp only [Act.put, List.setIfInBounds_toArray, List.set_cons_zero, List.set_cons_succ]
        refine held_run 5 (some 35) (.load 25 (.tmp 34)) ?v8_1_7 (by rfl) (by kernel_rfl) (by kernel_rfl) (by kernel_rfl) (fun _ _ _ h => h) (fun o ho w hS => ?y8_1_7) (by assumption) ?r8_1_7
        case y8_1_7 => (try dsimp only at hS); unfold execOp; simp only [ho]; go_simp; try with_reducible rfl
        try simp only [Act.put, List.setIfInBounds_toArray, List.set_cons_zero, List.set_cons_succ]
        refine held_run 6 (some 36) (.move (.tmp 12)) ?v8_1_8 (by rfl) (by kernel_rfl) (by kernel_rfl) (by kernel_rfl) (fun _ _ _ h => h) (fun o ho w hS => ?y8_1_8) (by assumption) ?r8_1_8
        case y8_1_8 => (try dsimp only at hS); unfold execOp; simp only [ho]; go_simp; try with_reducible rfl
        try simp only [Act.put, List.setIfInBounds_toArray, List.set_cons_zero, List.set_cons_succ]
        refine held_call 7 (some 37) 54 [(.tmp 35), (.tmp 36)] #[25, 3] #[.slice A1 np c1, .int .i64 x] (by rfl) (by rfl) (by kernel_rfl) Try.func54 (by rfl) (by rfl) ?_
        refine (HCi.out x j _ HRod.out HJ.out).mono ?_
        rintro e w' ⟨rfl, rfl⟩
        refine ⟨_, rfl, h0, ?_⟩
        try simp only [Act.put, List.setIfInBounds_toArray, List.set_cons_zero, List.set_cons_succ]
        refine held_call 8 (some 38) 55 [(.tmp 31), (.tmp 32), (.tmp 33), (.tmp 37)] #[27, 30, 25, 3] #[.agg #[vn, vl, vr, vb], .agg #[.slice A1 np c1, v2, .int .i64 bg], .slice (some ⟨g, 0, none⟩) np cr, .int .i64 (j : Int)] (by rfl) (by rfl) (by kernel_rfl) Try.func55 (by rfl) (by rfl) ?_
        refine (HCp.out _ HMod.out HBod.out HRvod.out HOgd.out hszo).mono ?_
        rintro e w5 ⟨rfl, ho5, hg5⟩
        have HO5 := Lib.hid ho5
        have HB5 : Hid (Below wb.heap.size wb w5) := hide (HBo.out.drew.trans (below_grown hg5 hszo hgb))
        have HOr5 : Hid (OwnI w5 w2.heap.size (.slice (some ad) no co) order) := hide (HOrd2.out.kept hg5 (.inr (fun e => by have h := (World.ownsRow.lt HOrd2.out g e).1; omega)))
        clear h0 ho5 hg5
        have h0 := HS.out _ HB5.out
        refine ⟨_, rfl, h0, ?_⟩
        try simp only [Act.put, List.setIfInBounds_toArray, List.set_cons_zero, List.set_cons_succ]
        refine held_run 9 (some 39) (.binOp .add 3 (.tmp 30) (.tmp 38) 3) ?v8_1_11 (by rfl) (by kernel_rfl) (by kernel_rfl) (by kernel_rfl) (fun _ _ _ h => h) (fun o ho w hS => ?y8_1_11) (by assumption) ?r8_1_11
        case y8_1_11 => (try dsimp only at hS); unfold execOp; simp only [ho]; go_simp; try with_reducible rfl
        try simp only [Act.put, List.setIfInBounds_toArray, List.set_cons_zero, List.set_cons_succ]
        refine held_run 10 (some 10) (.assign (.tmp 39)) ?v8_1_12 (by rfl) (by kernel_rfl) (by kernel_rfl) (by kernel_rfl) (fun _ _ _ h => h) (fun o ho w hS => ?y8_1_12) (by assumption) ?r8_1_12
        case y8_1_12 => (try dsimp only at hS); unfold execOp; simp only [ho]; go_simp; try with_reducible rfl
        try simp only [Act.put, List.setIfInBounds_toArray, List.set_cons_zero, List.set_cons_succ]
        refine wpAnyH_done (by kernel_rfl) ?_ _
        clear hwr h0
        go_wp2_with fail
        go_roundw
        case rel => exact ⟨k + 1, P', L + l', by omega, by go_num, rfl, own_i (Nat.le_refl _) HO5.out (by rw [HQ1.out, HL1.out]) rfl, HOr5.out, HQ1.out, HQ2.out, by omega, by omega, HStep.out, HB5.out⟩
        case measure => simp [intOf]; omega
      · obtain rfl : k = no := by omega
        have HRs : Hid (Ints wo wo.heap.size Ar np P) := by obtain ⟨A', n', c', he, _, _, _, h⟩ := HOw.out.rowV.nam; injection he with e1 e2 e3; subst e1 e2; exact hide h
        have hnn : np ≤ 1000 := hlim'
        have HLL : Hid (P.length = np) := hide (by have h := HRs.out.ilen; exact h)
        have HF : Hid (allGo (befP rs) (outP rs bs) runs (ordN (befP rs) runs) people 0 = (P, L) → AllR (befP rs) (outP rs bs) runs people w (.returned (.tuple #[.int .i64 L, .int .i64 P.sum, .int .i64 0])) wo) := fun h => allR_ok HFb.out h rfl HWo.out
        have HZ : Hid (PR = P ∧ LR = L) := by
          have h := HGo.out
          rw [List.drop_of_length_le (by rw [HLo.out]; exact Nat.le_refl _), allGo] at h
          injection h with h1 h2
          exact hide ⟨h1.symm, h2.symm⟩
        have hsb := fun k => sum_take_bd HP.out k
        have HSb : Hid (∀ k, 0 ≤ (P.take k).sum ∧ (P.take k).sum ≤ P.sum) := hide hsb
        have hPt : P.sum ≤ total := by omega
        clear hsb
        go_wp2_with fail
        go_loopw [13, 43] (fun vs vi wr => ∃ m : Nat, m ≤ np ∧ vi = .int .i64 m ∧ vs = .int .i64 (P.take m).sum ∧ wo = wr) (fun _ vi _ => np - (intOf vi).toNat)
        case atStart => exact ⟨0, by omega, rfl, rfl, rfl⟩
        case round =>
          obtain ⟨m, hm, rfl, rfl, rfl⟩ := hrel
          by_cases hlt2 : m < np
          · obtain ⟨ad2, rfl, _, hc2⟩ := HRs.out.int hlt2
            have HS2 := Lib.hid (sum_take P m (by rw [HLL.out]; exact hlt2))
            have b1 := HSb.out m
            have b2 := HSb.out (m + 1)
            rw [HS2.out] at b2
            generalize P.getD m 0 = y at *
            generalize (P.take m).sum = s at *
            go_wp2_with fail
            go_roundw
            case rel => exact ⟨m + 1, by omega, by go_num, by rw [HS2.out], by first | rfl | trivial⟩
            case measure => simp [intOf]; omega
          · obtain rfl : m = np := by omega
            rw [List.take_of_length_le (by rw [HLL.out]; exact Nat.le_refl _)]
            go_wp2_with fail
            go_ret3
            exact HF.out (by rw [HOrd.out, HR00.out, HZ.out.1, HZ.out.2])

set_option maxRecDepth 100000 in
set_option maxHeartbeats 4000000 in
theorem rall_any (vn vl vr vb v1 v2 vp : Value) (bg : Int) (rs : List Rn) (bs runs people : List Int) (_sw : List Sw) (w : World) (hm : StrV Rn.cells 7 w w.heap.size vr rs) (hb : RowV w w.heap.size vb bs) (hr1 : RowV w w.heap.size v1 runs) (hp : RowV w w.heap.size vp people) (hlim : runs.length ≤ 1000) (hlow : ∀ x ∈ runs, outR rs bs x = false → 0 ≤ lowI (befR rs) runs x) :
    Calls Try.prog 31 #[.agg #[vn, vl, vr, vb], .agg #[v1, v2, .int .i64 bg], vp] w (AllR (befR rs) (outR rs bs) runs people w) := by
  obtain ⟨A1, n1, c1, rfl, HL1, h11, h12, hr1'⟩ := hr1.nam
  obtain ⟨Ap, np, cp, rfl, HLp, h3, h4, hp'⟩ := hp.nam
  have hn1 : n1 ≤ maxLen := Nat.le_trans h11 h12
  have HRv := Lib.hid hr1
  have HR := Lib.hid hr1'
  have HBv := Lib.hid hb
  have HM := Lib.hid hm
  have HPv := Lib.hid hp
  have HPp := Lib.hid hp'
  have hlim' : n1 ≤ 1000 := by rw [← HL1.out]; exact hlim
  obtain ⟨fb, hfb⟩ : ∃ b, formB runs people = b := ⟨_, rfl⟩
  have HFb := Lib.hid hfb
  have HCf : Hid (∀ (W : World), RowV W W.heap.size (.slice A1 n1 c1) runs → RowV W W.heap.size (.slice Ap np cp) people → Calls Try.prog 56 #[.agg #[.slice A1 n1 c1, v2, .int .i64 bg], .slice Ap np cp] W fun e w' => e = .returned (.bool fb) ∧ Below W.heap.size W w') := fun W q1 q2 => counted_any _ v2 bg runs people _ fb W q1 q2 hfb
  have HCo : Hid (∀ (W : World), StrV Rn.cells 7 W W.heap.size vr rs → RowV W W.heap.size (.slice A1 n1 c1) runs → Calls Try.prog 18 #[.agg #[vn, vl, vr, vb], .agg #[.slice A1 n1 c1, v2, .int .i64 bg]] W fun e w' => ∃ v, e = .returned v ∧ OwnI w' W.heap.size v (ordN (befR rs) runs) ∧ Below W.heap.size W w') := fun W q1 q2 => rorder_any vn vl vr vb _ v2 bg rs runs W q1 q2 hlim
  have HCi : Hid (∀ (x : Int) (j : Nat) (W : World), Ints W W.heap.size A1 n1 runs → indI runs x = (j : Int) → Calls Try.prog 57 #[.slice A1 n1 c1, .int .i64 x] W fun e w' => e = .returned (.int .i64 (j : Int)) ∧ W = w') := fun x j W q1 q2 => by
    have h := rindex_any _ n1 c1 _ runs x W q1 hn1
    rwa [q2] at h
  clear hm hb hr1 hr1' hp hp' hfb h11 h12 h3 h4 hlim
  go_enter Try.func31, Try.ntmps31
  go_wp2_with fail
  have HBwz0 := (Blk.new w 27 #[vn, vl, vr, vb])
  have HLwz0 := (below_new w (.cells #[vn, vl, vr, vb] 27))
  have hswz0 : (w.alloc (.cells #[vn, vl, vr, vb] 27)).heap.size = w.heap.size + 1 := by simp
  generalize w.alloc (.cells #[vn, vl, vr, vb] 27) = wz0 at HBwz0 HLwz0 hswz0 ⊢
  replace HBwz0 := Lib.hid HBwz0
  replace HLwz0 := Lib.hid HLwz0
  have hlwz0 : w.heap.size < wz0.heap.size := by omega
  replace hswz0 := Lib.hid hswz0
  have HBwb := (Blk.new wz0 30 #[.slice A1 n1 c1, v2, .int .i64 bg])
  have HLwb := (below_new wz0 (.cells #[.slice A1 n1 c1, v2, .int .i64 bg] 30))
  have hswb : (wz0.alloc (.cells #[.slice A1 n1 c1, v2, .int .i64 bg] 30)).heap.size = wz0.heap.size + 1 := by simp
  generalize wz0.alloc (.cells #[.slice A1 n1 c1, v2, .int .i64 bg] 30) = wb at HBwb HLwb hswb ⊢
  replace HBwb := Lib.hid HBwb
  replace HLwb := Lib.hid HLwb
  have hlwb : wz0.heap.size < wb.heap.size := by omega
  replace hswb := Lib.hid hswb
  have HQ1 := Lib.hid (HLwz0.out.trans (HLwb.out.mono HLwz0.out.size))
  have HWb := Lib.hid (HQ1.out)
  have hl0 : w.heap.size ≤ wb.heap.size := HWb.out.size
  have HBb : Hid (Below wb.heap.size wb wb) := hide (Below.refl _ _)
  have hszb : wb.heap.size ≤ wb.heap.size := Nat.le_refl _
  have HZ0_1 := Lib.hid (HBwz0.out.below HLwb.out hlwz0)
  have hz0_1 : w.heap.size < wb.heap.size := HZ0_1.out.lt
  have HX0b : Hid (Blk wb w.heap.size 27 #[vn, vl, vr, vb]) := hide HZ0_1.out
  have hxx0 : w.heap.size < wb.heap.size := HX0b.out.lt
  have HX1b : Hid (Blk wb (w.heap.size + 1) 30 #[.slice A1 n1 c1, v2, .int .i64 bg]) := hide (by have h := HBwb.out; rw [show wz0.heap.size = w.heap.size + 1 from by have := hswz0.out; omega] at h; exact h)
  have hxx1 : (w.heap.size + 1) < wb.heap.size := HX1b.out.lt
  clear HBwz0 HLwz0 hswz0 hlwz0
  clear HBwb HLwb hswb hlwb
  have HMb := Lib.hid (HM.out.now HWb.out)
  have HRb := Lib.hid (HR.out.now HWb.out)
  have HBvb := Lib.hid (HBv.out.now HWb.out)
  have HRvb := Lib.hid (HRv.out.now HWb.out)
  have HPvb := Lib.hid (HPv.out.now HWb.out)
  have HPpb := Lib.hid (HPp.out.now HWb.out)
  go_wp2_with
    (first
     | (refine wpList_load_g 30 (.tmp 4) rfl rfl (w.heap.size + 1) rfl _ _ HX1b.out _ Try.underlying30 rfl (by kernel_rfl) ?_))
  with_reducible refine (HCf.out _ HRvb.out HPvb.out).mono ?_
  rintro e w1 ⟨rfl, hb1⟩
  have HB1 := Lib.hid (HBb.out.trans (hb1.mono hszb))
  have HW1 := Lib.hid (HWb.out.trans (hb1.mono HWb.out.size))
  have hsz1 : wb.heap.size ≤ w1.heap.size := Nat.le_trans hszb hb1.size
  have HX01 := Lib.hid (HX0b.out.below hb1 (Nat.lt_of_lt_of_le hxx0 hszb))
  have HX11 := Lib.hid (HX1b.out.below hb1 (Nat.lt_of_lt_of_le hxx1 hszb))
  have HM1 := Lib.hid (HMb.out.now hb1)
  have HR1 := Lib.hid (HRb.out.now hb1)
  have HBv1 := Lib.hid (HBvb.out.now hb1)
  have HRv1 := Lib.hid (HRvb.out.now hb1)
  have HPv1 := Lib.hid (HPvb.out.now hb1)
  have HPp1 := Lib.hid (HPpb.out.now hb1)
  clear hb1
  cases fb with
  | false =>
    go_wp2_with fail
    go_ret3
    exact allR_form HFb.out HW1.out
  | true =>
    obtain ⟨hpl, hp0, hp1⟩ := form_of HFb.out
    have hnp : np = n1 := by rw [← HLp.out, ← HL1.out]; exact hpl
    subst hnp
    have htot : people.sum ≤ 1000000000 := by
      have h := sum_le hp1
      have h2 : (people.length : Int) ≤ 1000 := by rw [HLp.out]; omega
      omega
    have htot0 : 0 ≤ people.sum := nn_sum hp0
    have HP0 := Lib.hid hp0
    clear hpl hp0 hp1
    obtain ⟨total, htt⟩ : ∃ x, people.sum = x := ⟨_, rfl⟩
    rw [htt] at htot htot0
    have HTt := Lib.hid htt
    clear htt
    go_wp2_with
      (first
       | (refine wpList_load_g 27 (.tmp 3) rfl rfl w.heap.size rfl _ _ HX01.out _ Try.underlying27 rfl (by kernel_rfl) ?_)
       | (refine wpList_load_g 30 (.tmp 4) rfl rfl (w.heap.size + 1) rfl _ _ HX11.out _ Try.underlying30 rfl (by kernel_rfl) ?_))
    with_reducible refine (HCo.out _ HM1.out HRv1.out).mono ?_
    rintro e w3 ⟨vo, rfl, hoo, hb3⟩
    obtain ⟨Ao, no, co, rfl, HLo, ho1, ho2, _⟩ := hoo.nam
    have HOo := Lib.hid hoo.rowV
    have HB3 := Lib.hid (HB1.out.trans (hb3.mono hsz1))
    have HW3 := Lib.hid (HW1.out.trans (hb3.mono HW1.out.size))
    have hsz3 : wb.heap.size ≤ w3.heap.size := Nat.le_trans hsz1 hb3.size
    have HX03 := Lib.hid (HX01.out.below hb3 (Nat.lt_of_lt_of_le hxx0 hsz1))
    have HX13 := Lib.hid (HX11.out.below hb3 (Nat.lt_of_lt_of_le hxx1 hsz1))
    have HM3 := Lib.hid (HM1.out.now hb3)
    have HR3 := Lib.hid (HR1.out.now hb3)
    have HBv3 := Lib.hid (HBv1.out.now hb3)
    have HRv3 := Lib.hid (HRv1.out.now hb3)
    have HPv3 := Lib.hid (HPv1.out.now hb3)
    have HPp3 := Lib.hid (HPp1.out.now hb3)
    clear hb3 hoo
    have HSub : Hid (∀ y ∈ ordN (befR rs) runs, y ∈ runs) := hide ord_sub
    obtain ⟨order, hord⟩ : ∃ x, ordN (befR rs) runs = x := ⟨_, rfl⟩
    have HOrd := Lib.hid hord
    rw [hord] at HLo HOo HSub
    clear hord
    have hno : no ≤ maxLen := Nat.le_trans ho1 ho2
    unfold maxLen at hno
    obtain ⟨⟨PR, LR⟩, hR⟩ : ∃ x, allGo (befR rs) (outR rs bs) runs order people 0 = x := ⟨_, rfl⟩
    have HR0 := Lib.hid hR
    have HR00 := Lib.hid hR
    clear hR
    go_wp2_with fail
    go_loopw [9, 10, 13] (fun vp vl vi wr => ∃ (k : Nat) (P : List Int) (L : Int), k ≤ no ∧ vi = .int .i64 k ∧ vl = .int .i64 L ∧ RowV wr wr.heap.size vp P ∧ RowV wr wr.heap.size (.slice Ao no co) order ∧ P.length = runs.length ∧ (∀ z ∈ P, 0 ≤ z) ∧ 0 ≤ L ∧ P.sum + L = total ∧ allGo (befR rs) (outR rs bs) runs (order.drop k) P L = (PR, LR) ∧ Below wb.heap.size wb wr) (fun _ _ vi _ => no - (intOf vi).toNat)
    case atStart => exact ⟨0, people, 0, by omega, rfl, rfl, HPv3.out, HOo.out, by rw [HLp.out, HL1.out], HP0.out, Int.le_refl _, by rw [HTt.out]; simp, HR0.out, HB3.out⟩
    case round =>
      obtain ⟨k, P, L, hk, rfl, rfl, hO, hOr, hPl, hP0, hL0, hPs, hgo, hbr⟩ := hrel
      obtain ⟨Av, nv, cv, rfl, HLv, hv1, hv2, hvr⟩ := hO.nam
      have HVr := Lib.hid hvr
      clear HM1 HM3 HB1 HB3 HW1 HW3 HX01 HX11 HX03 HX13 HR1 HR3 HBv1 HBv3 HRv1 HRv3 HPv1 HPv3 HPp1 HPp3 HOo HR0 hsz1 hsz3 hvr
      have HOw := Lib.hid hO
      have HOr := Lib.hid hOr
      have HPl := Lib.hid hPl
      have HP := Lib.hid hP0
      have HGo := Lib.hid hgo
      have hL1 : L ≤ total := by have := nn_sum hP0; omega
      clear hO hOr hPl hP0 hgo
      obtain ⟨wo, rfl⟩ : ∃ wo : World, wo = wr := ⟨_, rfl⟩
      have HBo := Lib.hid (HBb.out.trans (hbr.mono hszb))
      have HWo := Lib.hid (HWb.out.trans (hbr.mono HWb.out.size))
      have hszo : wb.heap.size ≤ wo.heap.size := Nat.le_trans hszb hbr.size
      have HX0o := Lib.hid (HX0b.out.below hbr (Nat.lt_of_lt_of_le hxx0 hszb))
      have HX1o := Lib.hid (HX1b.out.below hbr (Nat.lt_of_lt_of_le hxx1 hszb))
      have HMo := Lib.hid (HMb.out.now hbr)
      have HRo := Lib.hid (HRb.out.now hbr)
      have HBvo := Lib.hid (HBvb.out.now hbr)
      have HRvo := Lib.hid (HRvb.out.now hbr)
      have HPvo := Lib.hid (HPvb.out.now hbr)
      have HPpo := Lib.hid (HPpb.out.now hbr)
      clear hbr
      by_cases hlt : k < no
      · skip
        obtain ⟨ad, rfl, hab, hc⟩ := (show Ints wo wo.heap.size Ao no order from by obtain ⟨A', n', c', he, _, _, _, h⟩ := HOr.out.nam; injection he with e1 e2 e3; subst e1 e2; exact h).int hlt
        have hmem : order.getD k 0 ∈ runs := HSub.out _ (by rw [show order.getD k 0 = order[k]'(by rw [HLo.out]; exact hlt) by simp [List.getElem?_eq_getElem (show k < order.length by rw [HLo.out]; exact hlt)]]; exact List.getElem_mem _)
        obtain ⟨j, hj, hjl, hjx⟩ := ind_of hmem
        have HStep := Lib.hid ((all_step (bef := (befR rs)) (out := (outR rs bs)) (P := P) (L := L) (show k < order.length by rw [HLo.out]; exact hlt) hj).symm.trans HGo.out)
        generalize order.getD k 0 = x at *
        have HJ := Lib.hid hj
        have HJx := Lib.hid hjx
        have hjn : j < np := by rw [← HL1.out]; exact hjl
        obtain ⟨q1, q2, q3, q4⟩ := push_keep (bef := (befR rs)) (out := (outR rs bs)) HPl.out hjl HP.out
        have HBd : Hid (∀ z ∈ P, 0 ≤ z ∧ z ≤ 100000000000) := fun z hz => ⟨HP.out z hz, by have h := le_sum HP.out z hz; omega⟩
        have hrn : runs.length ≤ 1000 := by rw [HL1.out]; exact hlim'
        clear hj hjx hjl
        have hlw := hlow x hmem
        clear hmem
        have HCp : Hid (∀ W : World, StrV Rn.cells 7 W W.heap.size vr rs → RowV W W.heap.size vb bs → RowV W W.heap.size (.slice A1 np c1) runs → RowV W W.heap.size (.slice Av nv cv) P → Calls Try.prog 58 #[.agg #[vn, vl, vr, vb], .agg #[.slice A1 np c1, v2, .int .i64 bg], .slice Av nv cv, .int .i64 (j : Int)] W fun e w' => ∃ v, e = .returned (.tuple #[v, .int .i64 (pushN (befR rs) (outR rs bs) runs P j).2]) ∧ OwnI w' W.heap.size v (pushN (befR rs) (outR rs bs) runs P j).1 ∧ Below W.heap.size W w') := fun W a1 a2 a3 a4 => pushed_any vn vl vr vb _ v2 _ bg rs bs runs P j W a1 a2 a3 a4 HPl.out (by rw [HL1.out]; exact hjn) hrn HBd.out (by rw [HJx.out]; exact hlw)
        generalize pushN (befR rs) (outR rs bs) runs P j = q at *
        obtain ⟨P', l'⟩ := q
        simp only at q1 q2 q3 q4 HStep HCp
        have HP's := nn_sum q2
        have HLs : Hid (P'.sum + (L + l') = total) := hide (by omega)
        have hwr : IntKind.i64.wrap (L + l') = L + l' := IntWalk.i64_in _ (by omega)
        have HQ1 := Lib.hid q1
        have HQ2 := Lib.hid q2
        clear q1 q2
        have HS : Hid (∀ W, Below wo.heap.size wo W → (fun W => Below wo.heap.size wo W ∧ W.cell? (ad.add k) = some (.int .i64 x) ∧ Blk W w.heap.size 27 #[vn, vl, vr, vb] ∧ Blk W (w.heap.size + 1) 30 #[.slice A1 np c1, v2, .int .i64 bg] ∧ W.cell? ⟨w.heap.size + 1, 0, none⟩ = some (.slice A1 np c1)) W) := fun W hB => ⟨hB, (hB.cell (by rw [block_of_add]; exact hab)).trans hc, HX0o.out.below hB (Nat.lt_of_lt_of_le hxx0 hszo), HX1o.out.below hB (Nat.lt_of_lt_of_le hxx1 hszo), (HX1o.out.below hB (Nat.lt_of_lt_of_le hxx1 hszo)).cell 0⟩
        have h0 := HS.out _ ((Below.refl wo.heap.size wo).drew)
        have HRod : Hid (Ints wo.drew wo.drew.heap.size A1 np runs) := hide HRo.out
        have HMod : Hid (StrV Rn.cells 7 wo.drew wo.drew.heap.size vr rs) := hide HMo.out
        have HBod : Hid (RowV wo.drew wo.drew.heap.size vb bs) := hide HBvo.out
        have HRvod : Hid (RowV wo.drew wo.drew.heap.size (.slice A1 np c1) runs) := hide HRvo.out
        have HOwd : Hid (RowV wo.drew wo.drew.heap.size (.slice Av nv cv) P) := hide HOw.out
        go_wp2_with fail
        refine wp_region_held_drew (S := fun W => Below wo.heap.size wo W ∧ W.cell? (ad.add k) = some (.int .i64 x) ∧ Blk W w.heap.size 27 #[vn, vl, vr, vb] ∧ Blk W (w.heap.size + 1) 30 #[.slice A1 np c1, v2, .int .i64 bg] ∧ W.cell? ⟨w.heap.size + 1, 0, none⟩ = some (.slice A1 np c1)) (by kernel_rfl) (h0) (fun hHeld => ?_)
        refine held_load 0 (some 32) 27 (.tmp 3) (by rfl) (by kernel_rfl) (by kernel_rfl) (by kernel_rfl) (w.heap.size) 27 #[vn, vl, vr, vb] (fun _ _ _ h => h) (by rfl) (fun _ h => h.2.2.1) _ Try.underlying27 rfl (by kernel_rfl) (by assumption) ?_
        try simp only [Act.put, List.setIfInBounds_toArray, List.set_cons_zero, List.set_cons_succ]
        refine held_load 1 (some 33) 30 (.tmp 4) (by rfl) (by kernel_rfl) (by kernel_rfl) (by kernel_rfl) (w.heap.size + 1) 30 #[.slice A1 np c1, v2, .int .i64 bg] (fun _ _ _ h => h) (by rfl) (fun _ h => h.2.2.2.1) _ Try.underlying30 rfl (by kernel_rfl) (by assumption) ?_
        try simp only [Act.put, List.setIfInBounds_toArray, List.set_cons_zero, List.set_cons_succ]
        refine held_run 2 (some 34) (.move (.tmp 9)) ?v9_13_16 (by rfl) (by kernel_rfl) (by kernel_rfl) (by kernel_rfl) (fun _ _ _ h => h) (fun o ho w hS => ?y9_13_16) (by assumption) ?r9_13_16
        case y9_13_16 => (try dsimp only at hS); unfold execOp; simp only [ho]; go_simp; try with_reducible rfl
        try simp only [Act.put, List.setIfInBounds_toArray, List.set_cons_zero, List.set_cons_succ]
        refine held_run 3 (some 35) (.fieldAddr 30 (.tmp 4) 0) ?v9_13_17 (by rfl) (by kernel_rfl) (by kernel_rfl) (by kernel_rfl) (fun _ _ _ h => h) (fun o ho w hS => ?y9_13_17) (by assumption) ?r9_13_17
        case y9_13_17 => (try dsimp only at hS); unfold execOp; simp only [ho]; go_simp; try with_reducible rfl
        try simp only [Act.put, List.setIfInBounds_toArray, List.set_cons_zero, List.set_cons_succ]
        refine held_run 4 (some 36) (.load 25 (.tmp 35)) ?v9_13_18 (by rfl) (by kernel_rfl) (by kernel_rfl) (by kernel_rfl) (fun _ _ _ h => h) (fun o ho w hS => ?y9_13_18) (by assumption) ?r9_13_18
        case y9_13_18 => (try dsimp only at hS); unfold execOp; simp only [ho]; go_simp; try with_reducible rfl
        try simp only [Act.put, List.setIfInBounds_toArray, List.set_cons_zero, List.set_cons_succ]
        refine held_run 5 (some 37) (.move (.tmp 12)) ?v9_13_19 (by rfl) (by kernel_rfl) (by kernel_rfl) (by kernel_rfl) (fun _ _ _ h => h) (fun o ho w hS => ?y9_13_19) (by assumption) ?r9_13_19
        case y9_13_19 => (try dsimp only at hS); unfold execOp; simp only [ho]; go_simp; try with_reducible rfl
        try simp only [Act.put, List.setIfInBounds_toArray, List.set_cons_zero, List.set_cons_succ]
        refine held_run 6 (some 38) (.move (.tmp 13)) ?v9_13_20 (by rfl) (by kernel_rfl) (by kernel_rfl) (by kernel_rfl) (fun _ _ _ h => h) (fun o ho w hS => ?y9_13_20) (by assumption) ?r9_13_20
        case y9_13_20 => (try dsimp only at hS); unfold execOp; simp only [ho]; go_simp; try with_reducible rfl
        try simp only [Act.put, List.setIfInBounds_toArray, List.set_cons_zero, List.set_cons_succ]
        refine held_run 7 (some 39) (.indexAddr 25 (.tmp 37) (.tmp 38)) ?v9_13_21 (by rfl) (by kernel_rfl) (by kernel_rfl) (by kernel_rfl) (fun _ _ _ h => h) (fun o ho w hS => ?y9_13_21) (by assumption) ?r9_13_21
        case y9_13_21 => (try dsimp only at hS); unfold execOp; simp only [ho]; go_simp; try with_reducible rfl
        try simp only [Act.put, List.setIfInBounds_toArray, List.set_cons_zero, List.set_cons_succ]
        refine held_run 8 (some 40) (.load 3 (.tmp 39)) ?v9_13_22 (by rfl) (by kernel_rfl) (by kernel_rfl) (by kernel_rfl) (fun _ _ _ h => h) (fun o ho w hS => ?y9_13_22) (by assumption) ?r9_13_22
        case y9_13_22 => (try dsimp only at hS); unfold execOp; simp only [ho]; go_simp; try with_reducible rfl
        try simp only [Act.put, List.setIfInBounds_toArray, List.set_cons_zero, List.set_cons_succ]
        refine held_call 9 (some 41) 57 [(.tmp 36), (.tmp 40)] #[25, 3] #[.slice A1 np c1, .int .i64 x] (by rfl) (by rfl) (by kernel_rfl) Try.func57 (by rfl) (by rfl) ?_
        refine (HCi.out x j _ HRod.out HJ.out).mono ?_
        rintro e w' ⟨rfl, rfl⟩
        refine ⟨_, rfl, h0, ?_⟩
        try simp only [Act.put, List.setIfInBounds_toArray, List.set_cons_zero, List.set_cons_succ]
        refine held_call 10 (some 42) 58 [(.tmp 32), (.tmp 33), (.tmp 34), (.tmp 41)] #[27, 30, 25, 3] #[.agg #[vn, vl, vr, vb], .agg #[.slice A1 np c1, v2, .int .i64 bg], .slice Av nv cv, .int .i64 (j : Int)] (by rfl) (by rfl) (by kernel_rfl) Try.func58 (by rfl) (by rfl) ?_
        refine (HCp.out _ HMod.out HBod.out HRvod.out HOwd.out).mono ?_
        rintro e w5 ⟨v5, rfl, ho5, hb5⟩
        have hbb5 : Below wo.heap.size wo w5 := (Below.refl wo.heap.size wo).drew.trans hb5
        have HO5 := Lib.hid ho5.rowV
        have HB5 : Hid (Below wb.heap.size wb w5) := hide (HBo.out.trans (hbb5.mono hszo))
        have HOr5 := Lib.hid (HOr.out.now hbb5)
        clear h0
        have h0 := HS.out _ hbb5
        refine ⟨_, rfl, h0, ?_⟩
        clear ho5 hb5 hbb5
        try simp only [Act.put, List.setIfInBounds_toArray, List.set_cons_zero, List.set_cons_succ]
        refine held_run 11 (some 31) (.move (.tmp 42)) ?v9_13_25 (by rfl) (by kernel_rfl) (by kernel_rfl) (by kernel_rfl) (fun _ _ _ h => h) (fun o ho w hS => ?y9_13_25) (by assumption) ?r9_13_25
        case y9_13_25 => (try dsimp only at hS); unfold execOp; simp only [ho]; go_simp; try with_reducible rfl
        try simp only [Act.put, List.setIfInBounds_toArray, List.set_cons_zero, List.set_cons_succ]
        refine held_run 12 (some 43) (.extract (.tmp 31) 0) ?v9_13_26 (by rfl) (by kernel_rfl) (by kernel_rfl) (by kernel_rfl) (fun _ _ _ h => h) (fun o ho w hS => ?y9_13_26) (by assumption) ?r9_13_26
        case y9_13_26 => (try dsimp only at hS); unfold execOp; simp only [ho]; go_simp; try with_reducible rfl
        try simp only [Act.put, List.setIfInBounds_toArray, List.set_cons_zero, List.set_cons_succ]
        refine held_run 13 (some 44) (.extract (.tmp 31) 1) ?v9_13_27 (by rfl) (by kernel_rfl) (by kernel_rfl) (by kernel_rfl) (fun _ _ _ h => h) (fun o ho w hS => ?y9_13_27) (by assumption) ?r9_13_27
        case y9_13_27 => (try dsimp only at hS); unfold execOp; simp only [ho]; go_simp; try with_reducible rfl
        try simp only [Act.put, List.setIfInBounds_toArray, List.set_cons_zero, List.set_cons_succ]
        refine held_run 14 (some 14) (.assign (.tmp 43)) ?v9_13_28 (by rfl) (by kernel_rfl) (by kernel_rfl) (by kernel_rfl) (fun _ _ _ h => h) (fun o ho w hS => ?y9_13_28) (by assumption) ?r9_13_28
        case y9_13_28 => (try dsimp only at hS); unfold execOp; simp only [ho]; go_simp; try with_reducible rfl
        try simp only [Act.put, List.setIfInBounds_toArray, List.set_cons_zero, List.set_cons_succ]
        refine held_run 15 (some 15) (.assign (.tmp 44)) ?v9_13_29 (by rfl) (by kernel_rfl) (by kernel_rfl) (by kernel_rfl) (fun _ _ _ h => h) (fun o ho w hS => ?y9_13_29) (by assumption) ?r9_13_29
        case y9_13_29 => (try dsimp only at hS); unfold execOp; simp only [ho]; go_simp; try with_reducible rfl
        try simp only [Act.put, List.setIfInBounds_toArray, List.set_cons_zero, List.set_cons_succ]
        refine wpAnyH_done (by kernel_rfl) ?_ _
        clear h0
        go_wp2_with fail
        clear hwr
        go_roundw
        case rel => exact ⟨k + 1, P', L + l', by omega, by go_num, rfl, HO5.out, HOr5.out, HQ1.out, HQ2.out, by omega, HLs.out, HStep.out, HB5.out⟩
        case measure => simp [intOf]; omega
      · obtain rfl : k = no := by omega
        have HRs : Hid (Ints wo wo.heap.size Av nv P) := hide (HVr.out)
        have hnn : nv ≤ 1000 := by rw [← HLv.out, HPl.out, HL1.out]; exact hlim'
        have HLL : Hid (P.length = nv) := hide (by have h := HRs.out.ilen; exact h)
        have HF : Hid (allGo (befR rs) (outR rs bs) runs (ordN (befR rs) runs) people 0 = (P, L) → AllR (befR rs) (outR rs bs) runs people w (.returned (.tuple #[.int .i64 L, .int .i64 P.sum, .int .i64 0])) wo) := fun h => allR_ok HFb.out h rfl HWo.out
        have HZ : Hid (PR = P ∧ LR = L) := by
          have h := HGo.out
          rw [List.drop_of_length_le (by rw [HLo.out]; exact Nat.le_refl _), allGo] at h
          injection h with h1 h2
          exact hide ⟨h1.symm, h2.symm⟩
        have hsb := fun k => sum_take_bd HP.out k
        have HSb : Hid (∀ k, 0 ≤ (P.take k).sum ∧ (P.take k).sum ≤ P.sum) := hide hsb
        have hPt : P.sum ≤ total := by omega
        clear hsb
        go_wp2_with fail
        go_loopw [11, 16] (fun vs vi wr => ∃ m : Nat, m ≤ nv ∧ vi = .int .i64 m ∧ vs = .int .i64 (P.take m).sum ∧ wo = wr) (fun _ vi _ => nv - (intOf vi).toNat)
        case atStart => exact ⟨0, by omega, rfl, rfl, rfl⟩
        case round =>
          obtain ⟨m, hm, rfl, rfl, rfl⟩ := hrel
          by_cases hlt2 : m < nv
          · obtain ⟨ad2, rfl, _, hc2⟩ := HRs.out.int hlt2
            have HS2 := Lib.hid (sum_take P m (by rw [HLL.out]; exact hlt2))
            have b1 := HSb.out m
            have b2 := HSb.out (m + 1)
            rw [HS2.out] at b2
            generalize P.getD m 0 = y at *
            generalize (P.take m).sum = s at *
            go_wp2_with fail
            go_roundw
            case rel => exact ⟨m + 1, by omega, by go_num, by rw [HS2.out], by first | rfl | trivial⟩
            case measure => simp [intOf]; omega
          · obtain rfl : m = nv := by omega
            rw [List.take_of_length_le (by rw [HLL.out]; exact Nat.le_refl _)]
            go_wp2_with fail
            go_ret3
            exact HF.out (by rw [HOrd.out, HR00.out, HZ.out.1, HZ.out.2])
end Go.Proofs.Yticoeibccdplaaa
