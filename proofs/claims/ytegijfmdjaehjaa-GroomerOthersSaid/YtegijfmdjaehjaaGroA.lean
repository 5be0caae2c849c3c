/-
  less and lengths of graph, walked.
-/
import Derived.Test.YtegijfmdjaehjaaChecked
import Derived.Test.YtegijfmdjaehjaaEdgM
import Derived.Test.YtegijfmdjaehjaaGroN
import Derived.Test.YtegijfmdjaehjaaMapI
import Derived.BigQuiet
import Derived.Deep.Light
import Derived.IntWalk
namespace Go.Proofs.Ytegijfmdjaehjaa
open Go.RowKit

theorem wf_small {x : Int} (h : 0 ≤ x ∧ x ≤ 1000000) : (Lit.int .i64 x).wf = true := by
  simp [Lit.wf, IntKind.min, IntKind.max, IntKind.signed, IntKind.bits]
  omega
theorem keyed_int : Maps.Keyed Try.prog 3 := Maps.int_keyed Try.underlying3
def enL (a : Int × Int) : Value := .agg #[.int .i64 a.1, .int .i64 a.2]
theorem enL_inj (x y : Int × Int) (h : enL x = enL y) : x = y := by
  obtain ⟨a, b⟩ := x
  obtain ⟨c, d⟩ := y
  unfold enL at h
  simp only [Value.agg.injEq, Array.mk.injEq, List.cons.injEq, Value.int.injEq, and_true, true_and] at h
  obtain ⟨rfl, rfl⟩ := h
  rfl
theorem zero_len (w : World) : (zeroValue 92).run Try.prog w = .ok (enL (0, 0)) w := by
  obtain ⟨i, hi, h0, _, _⟩ := info_parts (show (Try.prog.info? 92).map (fun i => (i.zero, i.size, i.bytes)) = some (some (.agg #[.int .i64 0, .int .i64 0]), 2, 16) by kernel_rfl)
  simp [zeroValue, typeInfo, hi, h0]
  rfl
theorem below_alloc2 (w : World) (o o' : Obj) : Below w.heap.size w ((w.alloc o).alloc o') := (below_new w o).trans ((below_new (w.alloc o) o').mono (by simp))
theorem ret_bg {a b : Bool} (h : a = b) : Ending.returned (.bool a) = .returned (.bool b) := by rw [h]

set_option maxRecDepth 100000 in
theorem less_any (a b c d : Int) (r : Bool) (w : World) (hr : lessL (a, b) (c, d) = r) :
    Calls Try.prog 62 #[.agg #[.int .i64 a, .int .i64 b], .agg #[.int .i64 c, .int .i64 d]] w fun e w' => e = .returned (.bool r) ∧ Below w.heap.size w w' := by
  have HR : Hid (r = (decide (a < c) || (decide (a = c) && decide (b < d)))) := hide (by rw [← hr]; rfl)
  clear hr
  go_enter Try.func62, Try.ntmps62
  by_cases h1 : a < c
  · have d1 : decide (a < c) = true := decide_eq_true h1
    go_wp2_with fail
    go_ret
    exact ⟨ret_bg (by rw [HR.out]; simp [h1]), below_alloc2 _ _ _⟩
  · have d1 : decide (a < c) = false := decide_eq_false h1
    by_cases h2 : a = c
    · have d2 : (a == c) = true := beq_iff_eq.2 h2
      have HR2 : Hid (r = decide (b < d)) := hide (by rw [HR.out]; simp [h2])
      clear h1 h2
      go_wp2_with fail
      go_ret
      exact ⟨ret_bg HR2.out.symm, below_alloc2 _ _ _⟩
    · have d2 : (a == c) = false := beq_eq_false_iff_ne.2 h2
      go_wp2_with fail
      go_ret
      exact ⟨ret_bg (by rw [HR.out]; simp [h1, h2]), below_alloc2 _ _ _⟩
def LenR (es : List Ed) (t : Int) (w : World) (e : Ending) (w' : World) : Prop :=
  ∃ b nm : Nat, e = .returned (.map (some b)) ∧ MapV Try.prog 3 enL w' b nm (lengthsD es t) ∧ w.heap.size ≤ b ∧ Below w.heap.size w w'
theorem below_grownAt {w w1 w2 : World} {base b : Nat} (h : Below base w w1) (hg : w1.grownBy w2 (some b)) (hb : base ≤ b) (hs : base ≤ w1.heap.size) : Below base w w2 := h.grown hg hs (fun k hk => by injection hk with hk; omega)

set_option maxRecDepth 100000 in
set_option maxHeartbeats 4000000 in
theorem lengths_any (A : Option Addr) (n c : Nat) (es : List Ed) (t : Int) (w : World) (hr : Strs Ed.cells 4 w w.heap.size A n es) (hl : es.length = n) (hc : n ≤ c) (_ : c ≤ maxLen) (hn : n ≤ 1000) (ht : 0 ≤ t ∧ t ≤ 1000000)
    (he : ∀ e ∈ es, (0 ≤ e.fr ∧ e.fr ≤ 1000000) ∧ (0 ≤ e.tt ∧ e.tt ≤ 1000000) ∧ 0 ≤ e.cst ∧ e.cst ≤ 1000000) :
    Calls Try.prog 56 #[.slice A n c, .int .i64 t] w (LenR es t w) := by
  have hmk : ∀ (w : World), (Instr.makeMap 89 none).run Try.prog w = .ok (.map (some w.heap.size)) (w.alloc (.map #[] 0)) := fun _ => rfl
  have HR := Lib.hid hr
  have HL := Lib.hid hl
  have HE := Lib.hid he
  have HT := Lib.hid (wf_small ht)
  have HF0 : Hid (lenF es (n - 0) (startD t) = lengthsD es t) := hide (by rw [← hl]; rfl)
  have HLs : Hid (∀ (a b c d : Int) (r : Bool) (W : World), lessL (a, b) (c, d) = r → Calls Try.prog 62 #[.agg #[.int .i64 a, .int .i64 b], .agg #[.int .i64 c, .int .i64 d]] W fun e w' => e = .returned (.bool r) ∧ Below W.heap.size W w') := fun a b c d r W h => less_any a b c d r W h
  have HFin : Hid (∀ (b nm : Nat) (w' : World), MapV Try.prog 3 enL w' b nm (lengthsD es t) → w.heap.size ≤ b → Below w.heap.size w w' → LenR es t w (.returned (.map (some b))) w') := fun b nm w' h1 h2 h3 => ⟨b, nm, rfl, h1, h2, h3⟩
  generalize LenR es t w = RR at *
  clear hr hl he ht
  go_enter Try.func56, Try.ntmps56
  go_upto_region 2 with (refine wpList_mput enL_inj (MapV.made w _ _ _) rfl (.tmp 13) (.tmp 14) (.tmp 15) 89 (.inr rfl) keyed_int Try.underlying89 Try.underlying3 (by simp [maxLen]) HT.out (0, 0) rfl rfl rfl ?_
                         intro w3 hm3 hg3
                         have HM3 : Hid (MapV Try.prog 3 enL w3 w.heap.size 1 (startD t)) := hm3
                         have HB3 : Hid (Below w.heap.size w w3) := hide (below_grownAt (below_new w (.map #[] 0)) hg3 (Nat.le_refl _) (by simp))
                         clear hm3 hg3)
  clear hmk
  obtain ⟨b, hb⟩ : ∃ x, w.heap.size = x := ⟨_, rfl⟩
  rw [hb] at HM3
  have hbb : w.heap.size ≤ b := by omega
  rw [hb]
  clear hb
  go_wp2_with fail
  go_loopw [19] (fun i wr => ∃ (k nm : Nat) (f : DM), k ≤ n ∧ i = .int .i64 k ∧ MapV Try.prog 3 enL wr b nm f ∧ lenF es (n - k) f = lengthsD es t ∧ BndD f (1000 * (k : Int)) ∧ nm ≤ 1 + 1000 * k ∧ Below w.heap.size w wr) (fun i _ => n - (intOf i).toNat)
  case atStart => exact ⟨0, 1, startD t, by omega, rfl, HM3.out, HF0.out, BndD.start t, by omega, HB3.out⟩
  case round =>
    obtain ⟨k, nm, f, hk, rfl, hM, hF, hD, hnm, hbr⟩ := hrel
    obtain ⟨wo, rfl⟩ : ∃ wo : World, wo = wr := ⟨_, rfl⟩
    have HM := Lib.hid hM
    have HF := Lib.hid hF
    have HD := Lib.hid hD
    have HB := Lib.hid hbr
    clear hM hF hD hbr
    by_cases hlt : k < n
    · go_wp2_with fail
      go_loopw [6, 23] (fun ch jv wi => ∃ (j nm2 : Nat) (f2 : DM) (c2 : Bool), j ≤ n ∧ jv = .int .i64 j ∧ ch = .bool c2 ∧ (es.take j).foldl relax (f, false) = (f2, c2) ∧ MapV Try.prog 3 enL wi b nm2 f2 ∧ BndD f2 (1000 * (k : Int) + (j : Int)) ∧ nm2 ≤ 1 + 1000 * k + j ∧ Below w.heap.size w wi) (fun _ jv _ => n - (intOf jv).toNat)
      case atStart => exact ⟨0, nm, f, false, by omega, rfl, rfl, rfl, HM.out, by have h := HD.out; simpa using h, by omega, HB.out⟩
      case round =>
        obtain ⟨j, nm2, f2, c2, hj, rfl, rfl, hfold, hM2, hD2, hnm2, hb2⟩ := hrel
        obtain ⟨wi, rfl⟩ : ∃ wi : World, wi = wr := ⟨_, rfl⟩
        have HMi := Lib.hid hM2
        have HFo := Lib.hid hfold
        have HDi := Lib.hid hD2
        have HBi := Lib.hid hb2
        have hbi : b < wi.heap.size := hM2.lt
        clear hM2 hfold hD2 hb2
        by_cases hlt2 : j < n
        · obtain ⟨ad, rfl, hab, hcl⟩ := strs_at (HR.out.below HBi.out) (fun _ => rfl) HL.out hlt2 ed0
          have hem := HE.out _ (ed_mem (es := es) (k := j) (by rw [HL.out]; exact hlt2))
          have HF1 := Lib.hid ((fold_snoc (es := es) (k := j) (by rw [HL.out]; exact hlt2) (f, false)).trans (congrArg (fun s => relax s (es.getD j edZ)) HFo.out))
          obtain ⟨⟨ei, fr, tt, cst⟩, hq⟩ : ∃ q, es.getD j ed0 = q := ⟨_, rfl⟩
          have hq' : es.getD j edZ = ⟨ei, fr, tt, cst⟩ := hq
          rw [hq] at hcl
          rw [hq'] at hem HF1
          simp only at hem
          have HWf := Lib.hid (wf_small hem.1)
          have HWt := Lib.hid (wf_small hem.2.1)
          have hcst := hem.2.2
          have HCl : Hid (∀ i u, ([.int .i64 ei, .int .i64 fr, .int .i64 tt, .int .i64 cst] : List Value)[i]? = some u → wi.cell? ((ad.add (j * 4)).add i) = some u) := hcl
          clear hcl hq hq' hem
          go_upto_region 8 with (refine wpList_load_at 96 (.tmp 25) rfl rfl (ad.add (j * 4)) rfl [.int .i64 ei, .int .i64 fr, .int .i64 tt, .int .i64 cst] HCl.out _ Try.underlying96 rfl (by kernel_rfl) ?_)
          have HBw1 := (Blk.new wi 96 #[.int .i64 ei, .int .i64 fr, .int .i64 tt, .int .i64 cst])
          have HLw1 := (below_new wi (.cells #[.int .i64 ei, .int .i64 fr, .int .i64 tt, .int .i64 cst] 96))
          have hsw1 : (wi.alloc (.cells #[.int .i64 ei, .int .i64 fr, .int .i64 tt, .int .i64 cst] 96)).heap.size = wi.heap.size + 1 := by simp
          generalize wi.alloc (.cells #[.int .i64 ei, .int .i64 fr, .int .i64 tt, .int .i64 cst] 96) = w1 at HBw1 HLw1 hsw1 ⊢
          replace HBw1 := Lib.hid HBw1
          replace HLw1 := Lib.hid HLw1
          have hlw1 : wi.heap.size < w1.heap.size := by omega
          replace hsw1 := Lib.hid hsw1
          have HM1 := Lib.hid (HMi.out.below HLw1.out hbi)
          have HB1 : Hid (Below w.heap.size w w1) := hide (HBi.out.trans (HLw1.out.mono HBi.out.size))
          have HX1 := HBw1
          have hx1 : wi.heap.size < w1.heap.size := hlw1
          clear HBw1 HLw1 hsw1 hlw1
          obtain ⟨⟨a1, a2⟩, hav⟩ : ∃ q, (f2 tt).getD (0, 0) = q := ⟨_, rfl⟩
          obtain ⟨is, his⟩ : ∃ q, (f2 tt).isSome = q := ⟨_, rfl⟩
          have hlook : (Instr.lookup 89 (.map (some b)) (.int .i64 tt) true).run Try.prog w1 = .ok (.tuple #[.agg #[.int .i64 a1, .int .i64 a2], .bool is]) w1 := by
            have h := HM1.out.look enL_inj keyed_int Try.underlying89 (zero_len w1) Try.underlying3 HWt.out
            rw [hav, his] at h
            exact h
          have HAv := Lib.hid hav
          have HIs := Lib.hid his
          have e0 : w1.cell? ⟨wi.heap.size, 0, none⟩ = some (.int .i64 ei) := HX1.out.cell 0
          have e1 : w1.cell? ⟨wi.heap.size, 1, none⟩ = some (.int .i64 fr) := HX1.out.cell 1
          have e2 : w1.cell? ⟨wi.heap.size, 2, none⟩ = some (.int .i64 tt) := HX1.out.cell 2
          have e3 : w1.cell? ⟨wi.heap.size, 3, none⟩ = some (.int .i64 cst) := HX1.out.cell 3
          clear hav his
          go_upto_region 9 with (fail)
          clear hlook e0 e1 e2 e3
          have HBw2 := (Blk.new w1 92 #[.int .i64 a1, .int .i64 a2])
          have HLw2 := (below_new w1 (.cells #[.int .i64 a1, .int .i64 a2] 92))
          have hsw2 : (w1.alloc (.cells #[.int .i64 a1, .int .i64 a2] 92)).heap.size = w1.heap.size + 1 := by simp
          generalize w1.alloc (.cells #[.int .i64 a1, .int .i64 a2] 92) = w2 at HBw2 HLw2 hsw2 ⊢
          replace HBw2 := Lib.hid HBw2
          replace HLw2 := Lib.hid HLw2
          have hlw2 : w1.heap.size < w2.heap.size := by omega
          replace hsw2 := Lib.hid hsw2
          have HM2 := Lib.hid (HM1.out.below HLw2.out HM1.out.lt)
          have HB2 : Hid (Below w.heap.size w w2) := hide (HB1.out.trans (HLw2.out.mono HB1.out.size))
          have HX2 := Lib.hid (HX1.out.below HLw2.out hx1)
          have HY2 := HBw2
          have hy2 : w1.heap.size < w2.heap.size := hlw2
          clear HBw2 HLw2 hsw2 hlw2 HM1 HB1 HX1
          cases is with
          | false =>
            have HNo : Hid (f2 tt = none) := by
              show _ = _
              cases h : f2 tt with
              | none => rfl
              | some _ => have := HIs.out; rw [h] at this; cases this
            have HF2 : Hid ((es.take (j + 1)).foldl relax (f, false) = (f2, c2)) := hide (HF1.out.trans (relax_none HNo.out))
            go_wp2_with fail
            go_roundw
            case rel => exact ⟨j + 1, nm2, f2, c2, by omega, by go_num, rfl, HF2.out, HM2.out, HDi.out.mono (by omega), by omega, HB2.out⟩
            case measure => simp [intOf]; omega
          | true =>
            have HSo : Hid (f2 tt = some (a1, a2)) := by
              show _ = _
              cases h : f2 tt with
              | none => have := HIs.out; rw [h] at this; cases this
              | some q => have := HAv.out; rw [h] at this; exact congrArg some this
            have hbd := HDi.out _ _ HSo.out
            simp only at hbd
            have HUp := Lib.hid (HDi.out.upd (x := fr) HSo.out hcst)
            simp only at HUp
            have e0 : w2.cell? ⟨wi.heap.size, 0, none⟩ = some (.int .i64 ei) := HX2.out.cell 0
            have e1 : w2.cell? ⟨wi.heap.size, 1, none⟩ = some (.int .i64 fr) := HX2.out.cell 1
            have e2 : w2.cell? ⟨wi.heap.size, 2, none⟩ = some (.int .i64 tt) := HX2.out.cell 2
            have e3 : w2.cell? ⟨wi.heap.size, 3, none⟩ = some (.int .i64 cst) := HX2.out.cell 3
            have y0 : w2.cell? ⟨w1.heap.size, 0, none⟩ = some (.int .i64 a1) := HY2.out.cell 0
            have y1 : w2.cell? ⟨w1.heap.size, 1, none⟩ = some (.int .i64 a2) := HY2.out.cell 1
            go_upto_region 11 with (fail)
            clear e0 e1 e2 e3 y0 y1
            have HBw3 := (Blk.new w2 92 #[.int .i64 (a1 + cst), .int .i64 (a2 + 1)])
            have HLw3 := (below_new w2 (.cells #[.int .i64 (a1 + cst), .int .i64 (a2 + 1)] 92))
            have hsw3 : (w2.alloc (.cells #[.int .i64 (a1 + cst), .int .i64 (a2 + 1)] 92)).heap.size = w2.heap.size + 1 := by simp
            generalize w2.alloc (.cells #[.int .i64 (a1 + cst), .int .i64 (a2 + 1)] 92) = w3 at HBw3 HLw3 hsw3 ⊢
            replace HBw3 := Lib.hid HBw3
            replace HLw3 := Lib.hid HLw3
            have hlw3 : w2.heap.size < w3.heap.size := by omega
            replace hsw3 := Lib.hid hsw3
            have HM3' := Lib.hid (HM2.out.below HLw3.out HM2.out.lt)
            have HB3' : Hid (Below w.heap.size w w3) := hide (HB2.out.trans (HLw3.out.mono HB2.out.size))
            have HX3 := Lib.hid (HX2.out.below HLw3.out HX2.out.lt)
            have HY3 := HBw3
            have hy3 : w2.heap.size < w3.heap.size := hlw3
            clear HBw3 HLw3 hsw3 hlw3 HM2 HB2 HX2 HY2
            obtain ⟨⟨o1, o2⟩, hov⟩ : ∃ q, (f2 fr).getD (0, 0) = q := ⟨_, rfl⟩
            obtain ⟨io, hio⟩ : ∃ q, (f2 fr).isSome = q := ⟨_, rfl⟩
            have hlook : (Instr.lookup 89 (.map (some b)) (.int .i64 fr) true).run Try.prog w3 = .ok (.tuple #[.agg #[.int .i64 o1, .int .i64 o2], .bool io]) w3 := by
              have h := HM3'.out.look enL_inj keyed_int Try.underlying89 (zero_len w3) Try.underlying3 HWf.out
              rw [hov, hio] at h
              exact h
            have HOv := Lib.hid hov
            have HIo := Lib.hid hio
            have e0 : w3.cell? ⟨wi.heap.size, 0, none⟩ = some (.int .i64 ei) := HX3.out.cell 0
            have e1 : w3.cell? ⟨wi.heap.size, 1, none⟩ = some (.int .i64 fr) := HX3.out.cell 1
            have e2 : w3.cell? ⟨wi.heap.size, 2, none⟩ = some (.int .i64 tt) := HX3.out.cell 2
            have e3 : w3.cell? ⟨wi.heap.size, 3, none⟩ = some (.int .i64 cst) := HX3.out.cell 3
            clear hov hio
            go_upto_region 12 with (fail)
            clear hlook e0 e1 e2 e3
            have HBw4 := (Blk.new w3 92 #[.int .i64 o1, .int .i64 o2])
            have HLw4 := (below_new w3 (.cells #[.int .i64 o1, .int .i64 o2] 92))
            have hsw4 : (w3.alloc (.cells #[.int .i64 o1, .int .i64 o2] 92)).heap.size = w3.heap.size + 1 := by simp
            generalize w3.alloc (.cells #[.int .i64 o1, .int .i64 o2] 92) = w4 at HBw4 HLw4 hsw4 ⊢
            replace HBw4 := Lib.hid HBw4
            replace HLw4 := Lib.hid HLw4
            have hlw4 : w3.heap.size < w4.heap.size := by omega
            replace hsw4 := Lib.hid hsw4
            have HM4 := Lib.hid (HM3'.out.below HLw4.out HM3'.out.lt)
            have HB4 : Hid (Below w.heap.size w w4) := hide (HB3'.out.trans (HLw4.out.mono HB3'.out.size))
            have HX4 := Lib.hid (HX3.out.below HLw4.out HX3.out.lt)
            have HY4 := Lib.hid (HY3.out.below HLw4.out hy3)
            have HZ4 := HBw4
            clear HBw4 HLw4 hsw4 hlw4 HM3' HB3' HX3 HY3
            cases io with
            | false =>
              have HNo : Hid (f2 fr = none) := by
                show _ = _
                cases h : f2 fr with
                | none => rfl
                | some _ => have := HIo.out; rw [h] at this; cases this
              have HF2 : Hid ((es.take (j + 1)).foldl relax (f, false) = (updM f2 fr (a1 + cst, a2 + 1), true)) := hide (HF1.out.trans (relax_new (s := (f2, c2)) (e := ⟨ei, fr, tt, cst⟩) HSo.out HNo.out))
              have e0 : w4.cell? ⟨wi.heap.size, 0, none⟩ = some (.int .i64 ei) := HX4.out.cell 0
              have e1 : w4.cell? ⟨wi.heap.size, 1, none⟩ = some (.int .i64 fr) := HX4.out.cell 1
              have e2 : w4.cell? ⟨wi.heap.size, 2, none⟩ = some (.int .i64 tt) := HX4.out.cell 2
              have e3 : w4.cell? ⟨wi.heap.size, 3, none⟩ = some (.int .i64 cst) := HX4.out.cell 3
              go_wp2_with (first
                | (refine wpList_load_g 92 (.tmp 11) rfl rfl w2.heap.size rfl _ _ HY4.out _ Try.underlying92 rfl (by kernel_rfl) ?_)
                | (at_mapUpdate
                   refine wpList_mput enL_inj HM4.out rfl (.tmp 59) (.tmp 61) (.tmp 62) 89 (.inl rfl) keyed_int Try.underlying89 Try.underlying3 (by simp only [maxLen]; omega) HWf.out (a1 + cst, a2 + 1) rfl rfl rfl ?_
                   intro w6 hm6 hg6
                   have HM6 : Hid (MapV Try.prog 3 enL w6 b (nm2 + 1) (updM f2 fr (a1 + cst, a2 + 1))) := hm6
                   have HB6 := Lib.hid (below_grownAt HB4.out hg6 hbb HB4.out.size)
                   clear hm6 hg6))
              go_roundw
              case rel => exact ⟨j + 1, nm2 + 1, _, true, by omega, by go_num, rfl, HF2.out, HM6.out, HUp.out.mono (by omega), by omega, HB6.out⟩
              case measure => simp [intOf]; omega
            | true =>
              have HSr : Hid (f2 fr = some (o1, o2)) := by
                show _ = _
                cases h : f2 fr with
                | none => have := HIo.out; rw [h] at this; cases this
                | some q => have := HOv.out; rw [h] at this; exact congrArg some this
              obtain ⟨ls, hls⟩ : ∃ q, lessL (a1 + cst, a2 + 1) (o1, o2) = q := ⟨_, rfl⟩
              have HLs4 := Lib.hid (HLs.out (a1 + cst) (a2 + 1) o1 o2 ls w4 hls)
              have HLl := Lib.hid hls
              clear hls
              go_wp2_with (first
                | (refine wpList_load_g 92 (.tmp 11) rfl rfl w2.heap.size rfl _ _ HY4.out _ Try.underlying92 rfl (by kernel_rfl) ?_)
                | (refine wpList_load_g 92 (.tmp 12) rfl rfl w3.heap.size rfl _ _ HZ4.out _ Try.underlying92 rfl (by kernel_rfl) ?_))
              with_reducible refine HLs4.out.mono ?_
              rintro e w5 ⟨rfl, hb5⟩
              have HM5 := Lib.hid (HM4.out.below hb5 HM4.out.lt)
              have HB5 : Hid (Below w.heap.size w w5) := hide (HB4.out.trans (hb5.mono HB4.out.size))
              have HX5 := Lib.hid (HX4.out.below hb5 HX4.out.lt)
              have HY5 := Lib.hid (HY4.out.below hb5 HY4.out.lt)
              clear hb5
              cases ls with
              | true =>
                have HF2 : Hid ((es.take (j + 1)).foldl relax (f, false) = (updM f2 fr (a1 + cst, a2 + 1), true)) := hide (HF1.out.trans (relax_less' (s := (f2, c2)) (e := ⟨ei, fr, tt, cst⟩) HSo.out HSr.out HLl.out))
                have e0 : w5.cell? ⟨wi.heap.size, 0, none⟩ = some (.int .i64 ei) := HX5.out.cell 0
                have e1 : w5.cell? ⟨wi.heap.size, 1, none⟩ = some (.int .i64 fr) := HX5.out.cell 1
                have e2 : w5.cell? ⟨wi.heap.size, 2, none⟩ = some (.int .i64 tt) := HX5.out.cell 2
                have e3 : w5.cell? ⟨wi.heap.size, 3, none⟩ = some (.int .i64 cst) := HX5.out.cell 3
                go_wp2_with (first
                  | (refine wpList_load_g 92 (.tmp 11) rfl rfl w2.heap.size rfl _ _ HY5.out _ Try.underlying92 rfl (by kernel_rfl) ?_)
                  | (at_mapUpdate
                     refine wpList_mput enL_inj HM5.out rfl (.tmp 59) (.tmp 61) (.tmp 62) 89 (.inl rfl) keyed_int Try.underlying89 Try.underlying3 (by simp only [maxLen]; omega) HWf.out (a1 + cst, a2 + 1) rfl rfl rfl ?_
                     intro w6 hm6 hg6
                     have HM6 : Hid (MapV Try.prog 3 enL w6 b (nm2 + 1) (updM f2 fr (a1 + cst, a2 + 1))) := hm6
                     have HB6 := Lib.hid (below_grownAt HB5.out hg6 hbb HB5.out.size)
                     clear hm6 hg6))
                go_roundw
                case rel => exact ⟨j + 1, nm2 + 1, _, true, by omega, by go_num, rfl, HF2.out, HM6.out, HUp.out.mono (by omega), by omega, HB6.out⟩
                case measure => simp [intOf]; omega
              | false =>
                have HF2 : Hid ((es.take (j + 1)).foldl relax (f, false) = (f2, c2)) := hide (HF1.out.trans (relax_not (s := (f2, c2)) (e := ⟨ei, fr, tt, cst⟩) HSo.out HSr.out HLl.out))
                go_wp2_with fail
                go_roundw
                case rel => exact ⟨j + 1, nm2, f2, c2, by omega, by go_num, rfl, HF2.out, HM5.out, HDi.out.mono (by omega), by omega, HB5.out⟩
                case measure => simp [intOf]; omega
        · obtain rfl : j = n := by omega
          have HRd : Hid (roundD es f = (f2, c2)) := hide (by rw [roundD, ← HFo.out, List.take_of_length_le (by rw [HL.out]; exact Nat.le_refl _)])
          obtain ⟨m, hm⟩ : ∃ m, j - k = m + 1 := ⟨j - k - 1, by omega⟩
          have HFm : Hid (lenF es (m + 1) f = lengthsD es t) := hide (by rw [← hm]; exact HF.out)
          have hm1 : j - (k + 1) = m := by omega
          have HM1 := Lib.hid hm1
          clear hm hm1
          cases c2 with
          | false =>
            have HE2 : Hid (f2 = lengthsD es t) := hide ((lenF_stop HRd.out).symm.trans HFm.out)
            have HMe : Hid (MapV Try.prog 3 enL wi b nm2 (lengthsD es t)) := hide (by rw [← HE2.out]; exact HMi.out)
            go_wp2_with fail
            exact HFin.out b nm2 _ HMe.out hbb HBi.out
          | true =>
            have HE2 : Hid (lenF es (j - (k + 1)) f2 = lengthsD es t) := hide (by rw [HM1.out]; exact (lenF_go HRd.out).symm.trans HFm.out)
            go_wp2_with fail
            go_roundw
            case rel => exact ⟨k + 1, nm2, f2, by omega, by go_num, HMi.out, HE2.out, HDi.out.mono (by omega), by omega, HBi.out⟩
            case measure => simp [intOf]; omega
    · obtain rfl : k = n := by omega
      have HE2 : Hid (f = lengthsD es t) := by have h := HF.out; rw [Nat.sub_self] at h; exact hide h
      have HMe : Hid (MapV Try.prog 3 enL wo b nm (lengthsD es t)) := hide (by rw [← HE2.out]; exact HM.out)
      go_wp2_with fail
      exact HFin.out b nm _ HMe.out hbb HB.out
end Go.Proofs.Ytegijfmdjaehjaa
