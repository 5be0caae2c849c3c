/-
  Way of groomer, walked.
-/
import Derived.Test.YtegijfmdjaehjaaGroE
import Derived.Test.YtegijfmdjaehjaaTerA
namespace Go.Proofs.Ytegijfmdjaehjaa
open Go.RowKit

structure WyOK (nd : List Nd) (lf : List Lf) (rs : List Rn) : Prop where
  l1 : lf.length ≤ 32
  l2 : rs.length ≤ 64
  lifts : ∀ x ∈ lf, (0 ≤ x.fr ∧ x.fr ≤ 9999) ∧ (0 ≤ x.tt ∧ x.tt ≤ 9999) ∧ 0 ≤ x.ln ∧ x.ln ≤ 20000
  runs : ∀ x ∈ rs, (0 ≤ x.fr ∧ x.fr ≤ 9999) ∧ (0 ≤ x.tt ∧ x.tt ≤ 9999) ∧ 0 ≤ x.ln ∧ x.ln ≤ 20000
  nodes : ∀ i, hasN nd i = true → 0 ≤ i ∧ i ≤ 9999
theorem WyOK.edges {nd : List Nd} {lf : List Lf} {rs : List Rn} (h : WyOK nd lf rs) : ∀ e ∈ lnE lf rs, (0 ≤ e.fr ∧ e.fr ≤ 1000000) ∧ (0 ≤ e.tt ∧ e.tt ≤ 1000000) ∧ 0 ≤ e.cst ∧ e.cst ≤ 1000000 := fun e he => by
  rcases lnE_mem.1 ⟨e, he, rfl, rfl, rfl⟩ with (⟨x, hx, h1, h2, h3⟩ | ⟨x, hx, h1, h2, h3⟩) | (⟨x, hx, h1, h2, h3⟩ | ⟨x, hx, h1, h2, h3⟩)
  · have := h.lifts x hx; omega
  · have := h.runs x hx; omega
  · have := h.lifts x hx; omega
  · have := h.runs x hx; omega
theorem wayO_no {nd : List Nd} {lf : List Lf} {rs : List Rn} {u v : Int} (h : hasN nd u = false) : wayO nd lf rs u v = none := by unfold wayO; rw [if_neg (by rw [h]; simp)]
theorem wayO_no2 {nd : List Nd} {lf : List Lf} {rs : List Rn} {u v : Int} (h : hasN nd v = false) : wayO nd lf rs u v = none := by unfold wayO; rw [if_neg (by rw [h]; simp)]
theorem wayO_yes {nd : List Nd} {lf : List Lf} {rs : List Rn} {u v : Int} (h : hasN nd u = true) (k : hasN nd v = true) : wayO nd lf rs u v = (lengthsD (lnE lf rs) v u).map Prod.fst := by unfold wayO; rw [if_pos ⟨h, k⟩]
def WayR (o : Option Int) (w : World) (e : Ending) (w' : World) : Prop := e = .returned (.tuple #[.int .i64 (o.getD 0), .bool o.isSome]) ∧ Below w.heap.size w w'
set_option maxRecDepth 100000 in
set_option maxHeartbeats 4000000 in
theorem way_any (vn vl vr vb : Value) (nd : List Nd) (lf : List Lf) (rs : List Rn) (u v : Int) (w : World) (hm : StrV Nd.cells 2 w w.heap.size vn nd) (hl : StrV Lf.cells 8 w w.heap.size vl lf) (hr : StrV Rn.cells 7 w w.heap.size vr rs) (hok : WyOK nd lf rs) :
    Calls Try.prog 15 #[.agg #[vn, vl, vr, vb], .int .i64 u, .int .i64 v] w (WayR (wayO nd lf rs u v) w) := by
  have HM := Lib.hid hm
  have HLf := Lib.hid hl
  have HRs := Lib.hid hr
  have HK := Lib.hid hok
  have HFin : Hid (∀ (o : Option Int) (w' : World), wayO nd lf rs u v = o → Below w.heap.size w w' → WayR (wayO nd lf rs u v) w (.returned (.tuple #[.int .i64 (o.getD 0), .bool o.isSome])) w') := fun o w' h1 h2 => ⟨by rw [h1], h2⟩
  generalize WayR (wayO nd lf rs u v) w = RR at *
  clear hm hl hr hok
  go_enter Try.func15, Try.ntmps15
  go_wp2_with fail
  have HBwb := (Blk.new w 32 #[vn, vl, vr, vb])
  have HLwb := (below_new w (.cells #[vn, vl, vr, vb] 32))
  have hswb : (w.alloc (.cells #[vn, vl, vr, vb] 32)).heap.size = w.heap.size + 1 := by simp
  generalize w.alloc (.cells #[vn, vl, vr, vb] 32) = wb at HBwb HLwb hswb ⊢
  replace HBwb := Lib.hid HBwb
  replace HLwb := Lib.hid HLwb
  have hlwb : w.heap.size < wb.heap.size := by omega
  replace hswb := Lib.hid hswb
  have HWb := Lib.hid (HLwb.out)
  have hl0 : w.heap.size ≤ wb.heap.size := HWb.out.size
  have HBb : Hid (Below wb.heap.size wb wb) := hide (Below.refl _ _)
  have hszb : wb.heap.size ≤ wb.heap.size := Nat.le_refl _
  have HX0b : Hid (Blk wb w.heap.size 32 #[vn, vl, vr, vb]) := hide HBwb.out
  have hxx0 : w.heap.size < wb.heap.size := HX0b.out.lt
  clear HBwb HLwb hswb hlwb
  have HMb := Lib.hid (HM.out.now HWb.out)
  have HLfb := Lib.hid (HLf.out.now HWb.out)
  have HRsb := Lib.hid (HRs.out.now HWb.out)
  skip
  with_reducible refine (pnode_any _ _ _ _ nd u wb HMb.out).mono ?_
  rintro e w1 ⟨rfl, hb1⟩
  have HB1 := Lib.hid (HBb.out.trans (hb1.mono hszb))
  have HW1 := Lib.hid (HWb.out.trans (hb1.mono HWb.out.size))
  have hsz1 : wb.heap.size ≤ w1.heap.size := Nat.le_trans hszb hb1.size
  have HX01 := Lib.hid (HX0b.out.below hb1 (Nat.lt_of_lt_of_le hxx0 hszb))
  have HM1 := Lib.hid (HMb.out.now hb1)
  have HLf1 := Lib.hid (HLfb.out.now hb1)
  have HRs1 := Lib.hid (HRsb.out.now hb1)
  clear hb1
  obtain ⟨⟨qiu, qau⟩, hq⟩ : ∃ q, ndOf nd u = q := ⟨_, rfl⟩
  rw [hq]
  obtain ⟨oku, hoku⟩ : ∃ b, hasN nd u = b := ⟨_, rfl⟩
  rw [hoku]
  have HOku := Lib.hid hoku
  clear hq hoku
  go_upto_region 2 with (fail)
  have HBw2 := (Blk.new w1 68 #[.int .i64 qiu, .int .i64 qau])
  have HLw2 := (below_new w1 (.cells #[.int .i64 qiu, .int .i64 qau] 68))
  have hsw2 : (w1.alloc (.cells #[.int .i64 qiu, .int .i64 qau] 68)).heap.size = w1.heap.size + 1 := by simp
  generalize w1.alloc (.cells #[.int .i64 qiu, .int .i64 qau] 68) = w2 at HBw2 HLw2 hsw2 ⊢
  replace HBw2 := Lib.hid HBw2
  replace HLw2 := Lib.hid HLw2
  have hlw2 : w1.heap.size < w2.heap.size := by omega
  replace hsw2 := Lib.hid hsw2
  have hb2 := HLw2.out
  clear HBw2 HLw2 hsw2 hlw2
  have HB2 := Lib.hid (HB1.out.trans (hb2.mono hsz1))
  have HW2 := Lib.hid (HW1.out.trans (hb2.mono HW1.out.size))
  have hsz2 : wb.heap.size ≤ w2.heap.size := Nat.le_trans hsz1 hb2.size
  have HX02 := Lib.hid (HX01.out.below hb2 (Nat.lt_of_lt_of_le hxx0 hsz1))
  have HM2 := Lib.hid (HM1.out.now hb2)
  have HLf2 := Lib.hid (HLf1.out.now hb2)
  have HRs2 := Lib.hid (HRs1.out.now hb2)
  clear hb2
  cases oku with
  | false =>
    go_wp2_with fail
    try go_ret2
    exact HFin.out none _ (wayO_no HOku.out) HW2.out
  | true =>
    go_wp2_with
      (first
       | (refine wpList_load_g 32 (.tmp 3) rfl rfl w.heap.size rfl _ _ HX02.out _ Try.underlying32 rfl (by kernel_rfl) ?_))
    with_reducible refine (pnode_any _ _ _ _ nd v w2 HM2.out).mono ?_
    rintro e w3 ⟨rfl, hb3⟩
    have HB3 := Lib.hid (HB2.out.trans (hb3.mono hsz2))
    have HW3 := Lib.hid (HW2.out.trans (hb3.mono HW2.out.size))
    have hsz3 : wb.heap.size ≤ w3.heap.size := Nat.le_trans hsz2 hb3.size
    have HX03 := Lib.hid (HX02.out.below hb3 (Nat.lt_of_lt_of_le hxx0 hsz2))
    have HM3 := Lib.hid (HM2.out.now hb3)
    have HLf3 := Lib.hid (HLf2.out.now hb3)
    have HRs3 := Lib.hid (HRs2.out.now hb3)
    clear hb3
    obtain ⟨⟨qiv, qav⟩, hq⟩ : ∃ q, ndOf nd v = q := ⟨_, rfl⟩
    rw [hq]
    obtain ⟨okv, hokv⟩ : ∃ b, hasN nd v = b := ⟨_, rfl⟩
    rw [hokv]
    have HOkv := Lib.hid hokv
    clear hq hokv
    go_upto_region 5 with (fail)
    have HBw4 := (Blk.new w3 68 #[.int .i64 qiv, .int .i64 qav])
    have HLw4 := (below_new w3 (.cells #[.int .i64 qiv, .int .i64 qav] 68))
    have hsw4 : (w3.alloc (.cells #[.int .i64 qiv, .int .i64 qav] 68)).heap.size = w3.heap.size + 1 := by simp
    generalize w3.alloc (.cells #[.int .i64 qiv, .int .i64 qav] 68) = w4 at HBw4 HLw4 hsw4 ⊢
    replace HBw4 := Lib.hid HBw4
    replace HLw4 := Lib.hid HLw4
    have hlw4 : w3.heap.size < w4.heap.size := by omega
    replace hsw4 := Lib.hid hsw4
    have hb4 := HLw4.out
    clear HBw4 HLw4 hsw4 hlw4
    have HB4 := Lib.hid (HB3.out.trans (hb4.mono hsz3))
    have HW4 := Lib.hid (HW3.out.trans (hb4.mono HW3.out.size))
    have hsz4 : wb.heap.size ≤ w4.heap.size := Nat.le_trans hsz3 hb4.size
    have HX04 := Lib.hid (HX03.out.below hb4 (Nat.lt_of_lt_of_le hxx0 hsz3))
    have HM4 := Lib.hid (HM3.out.now hb4)
    have HLf4 := Lib.hid (HLf3.out.now hb4)
    have HRs4 := Lib.hid (HRs3.out.now hb4)
    clear hb4
    cases okv with
    | false =>
      go_wp2_with fail
      try go_ret2
      exact HFin.out none _ (wayO_no2 HOkv.out) HW4.out
    | true =>
      have HWy := Lib.hid (wayO_yes (lf := lf) (rs := rs) HOku.out HOkv.out)
      have hub := HK.out.nodes u HOku.out
      have hvb := HK.out.nodes v HOkv.out
      go_wp2_with
        (first
         | (refine wpList_load_g 32 (.tmp 3) rfl rfl w.heap.size rfl _ _ HX04.out _ Try.underlying32 rfl (by kernel_rfl) ?_))
      with_reducible refine (lines_any _ _ _ _ lf rs w4 HLf4.out HRs4.out HK.out.l1 HK.out.l2).mono ?_
      rintro e w5 ⟨ve, rfl, hve, hb5⟩
      obtain ⟨Ae, ne, ce, rfl, HLe, he1, he2, hse⟩ := hve.nam
      have HSe := Lib.hid hse
      have hne : ne ≤ 400 := by have h1 := lnE_len lf rs; have h2 := HLe.out; have h3 := HK.out.l1; have h4 := HK.out.l2; omega
      have HB5 := Lib.hid (HB4.out.trans (hb5.mono hsz4))
      have HW5 := Lib.hid (HW4.out.trans (hb5.mono HW4.out.size))
      have hsz5 : wb.heap.size ≤ w5.heap.size := Nat.le_trans hsz4 hb5.size
      have HX05 := Lib.hid (HX04.out.below hb5 (Nat.lt_of_lt_of_le hxx0 hsz4))
      have HM5 := Lib.hid (HM4.out.now hb5)
      have HLf5 := Lib.hid (HLf4.out.now hb5)
      have HRs5 := Lib.hid (HRs4.out.now hb5)
      clear hb5 hve hse
      go_wp2_with fail
      with_reducible refine (shortest_any Ae ne ce (lnE lf rs) u v w5 HSe.out HLe.out he1 he2 hne (by omega) (by omega) HK.out.edges).mono ?_
      rintro e w6 ⟨vx, rfl, hb6⟩
      have HB6 := Lib.hid (HB5.out.trans (hb6.mono hsz5))
      have HW6 := Lib.hid (HW5.out.trans (hb6.mono HW5.out.size))
      have hsz6 : wb.heap.size ≤ w6.heap.size := Nat.le_trans hsz5 hb6.size
      have HX06 := Lib.hid (HX05.out.below hb6 (Nat.lt_of_lt_of_le hxx0 hsz5))
      have HM6 := Lib.hid (HM5.out.now hb6)
      have HLf6 := Lib.hid (HLf5.out.now hb6)
      have HRs6 := Lib.hid (HRs5.out.now hb6)
      clear hb6
      obtain ⟨o, ho⟩ : ∃ o, lengthsD (lnE lf rs) v u = o := ⟨_, rfl⟩
      rw [ho] at HWy ⊢
      clear ho
      cases o with
      | none =>
        go_wp2_with fail
        try go_ret2
        exact HFin.out none _ HWy.out HW6.out
      | some a =>
        obtain ⟨a1, a2⟩ := a
        go_wp2_with fail
        try go_ret2
        exact HFin.out (some a1) _ HWy.out HW6.out
end Go.Proofs.Ytegijfmdjaehjaa
