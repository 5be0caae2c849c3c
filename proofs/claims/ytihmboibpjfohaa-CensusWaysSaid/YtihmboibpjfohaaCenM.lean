/-
  Find, Value and Max of flow, walked.
-/
import Derived.Test.YtihmboibpjfohaaCenL
namespace Go.Proofs.Ytihmboibpjfohaa
open Go.RowKit

theorem zero_own {w w' : World} {base g n : Nat} (h : w'.ownsRow base 3 1 (.slice (some ⟨g, 0, none⟩) n n) n (madeCells (Value.int .i64 0).cells (n * 1)).toList) : OwnG 3 w' base g n n (List.replicate n 0) := by
  rw [Nat.mul_one, show (Value.int .i64 0).cells = #[.int .i64 0] from rfl, toList_madeCells_one] at h
  unfold OwnG
  rw [List.map_replicate]
  exact h
def FindR (es : List Ed) (s t : Int) (n : Nat) (w : World) (e : Ending) (w' : World) : Prop :=
  ∃ (F : Option Addr) (cap : Nat) (f : List Int) (R : Int → Bool), e = .returned (.slice F n cap) ∧ n ≤ cap ∧ cap ≤ maxLen ∧ Ints w' w'.heap.size F n f ∧ Below w.heap.size w w' ∧ MaxF es s t (netN es f s) f R
theorem flow_bnd {es : List Ed} {f : List Int} {s t : Int} (hF : IsFlow es f s t) (hcost : ∀ i, i < es.length → (es.getD i edZ).cst ≤ 1000000) : Bnd es f :=
  ⟨hF.len, fun i hi => by
    have h1 := hF.at_ hi
    have h2 := hcost i hi
    exact ⟨h1.1, h1.2, h2⟩⟩

set_option maxRecDepth 100000 in
set_option maxHeartbeats 8000000 in
theorem find_any (A : Option Addr) (n c : Nat) (es : List Ed) (s t : Int) (w : World) (hr : Strs Ed.cells 4 w w.heap.size A n es) (hl : es.length = n) (hc : n ≤ c) (hc2 : c ≤ maxLen)
    (hn : n ≤ 1000) (hst : s ≠ t) (hs : 0 ≤ s ∧ s ≤ 1000000) (ht : 0 ≤ t ∧ t ≤ 1000000) (he : ∀ e ∈ es, (0 ≤ e.fr ∧ e.fr ≤ 1000000) ∧ (0 ≤ e.tt ∧ e.tt ≤ 1000000) ∧ 0 ≤ e.cst ∧ e.cst ≤ 1000000) :
    Calls Try.prog 47 #[.slice A n c, .int .i64 s, .int .i64 t] w (FindR es s t n w) := by
  have hmf : ∀ (fn : Fn) (first cap : Array Value) (w : World), (Instr.makeFunc fn first cap).run Try.prog w = .ok (.func fn first cap) w := fun _ _ _ _ => rfl
  have HR := Lib.hid hr
  have HL := Lib.hid hl
  have HE := Lib.hid he
  have HSt := Lib.hid hst
  have HT := Lib.hid (wf_small ht)
  have HCo : Hid (∀ i, i < es.length → (es.getD i edZ).cst ≤ 1000000) := fun i hi => (he _ (ed_mem hi)).2.2.2
  have HC0 : Hid (∀ e ∈ es, 0 ≤ e.cst) := fun e h => (he e h).2.2.1
  have HFin : Hid (∀ (e : Ending) (w' : World), (∃ (F : Option Addr) (cap : Nat) (f : List Int) (R : Int → Bool), e = .returned (.slice F n cap) ∧ n ≤ cap ∧ cap ≤ maxLen ∧ Ints w' w'.heap.size F n f ∧ Below w.heap.size w w' ∧ MaxF es s t (netN es f s) f R) → FindR es s t n w e w') := fun e w' h => h
  generalize FindR es s t n w = RR at *
  obtain ⟨i0, hi0, hz0, hz1, hz2⟩ := info_parts (show (Try.prog.info? 3).map (fun i => (i.zero, i.size, i.bytes)) = some (some (.int .i64 0), 1, 8) by kernel_rfl)
  have HI := Lib.hid (And.intro hi0 (And.intro hz0 (And.intro hz1 hz2)))
  clear hr hl he hi0 hz0 hz1 hz2
  have d1 : (s == t) = false := beq_eq_false_iff_ne.2 hst
  clear hst
  go_enter Try.func47, Try.ntmps47
  go_upto_region 1 with (fail)
  have HBw0 := (Blk.new w 66 #[.slice A n c])
  have HLw0 := (below_new w (.cells #[.slice A n c] 66))
  have hsw0 : (w.alloc (.cells #[.slice A n c] 66)).heap.size = w.heap.size + 1 := by simp
  generalize w.alloc (.cells #[.slice A n c] 66) = w0 at HBw0 HLw0 hsw0 ⊢
  replace HBw0 := Lib.hid HBw0
  replace HLw0 := Lib.hid HLw0
  have hlw0 : w.heap.size < w0.heap.size := by omega
  replace hsw0 := Lib.hid hsw0
  have c0 : w0.cell? ⟨w.heap.size, 0, none⟩ = some (.slice A n c) := HBw0.out.cell 0
  go_upto_region 2 with
    (at_make
     refine wpList_make_full _ rfl (.tmp 13) (.tmp 13) _ rfl w.heap.size 3 i0 (.int .i64 0) 1 Try.underlying42 HI.out.1 HI.out.2.1 HI.out.2.2.1 .i64 .i64 _ _ n rfl rfl rfl rfl (by rw [HI.out.2.2.2]; omega) (by simp only [maxLen]; omega) (Nat.le_of_lt hlw0) ?_
     intro w1 hown1 hg1
     have hb1 : Below w0.heap.size w0 w1 := (Below.refl _ _).grown hg1 (Nat.le_refl _) (fun k hk => by cases hk)
     have HO1 := Lib.hid (zero_own (w := w0) hown1)
     have HB1 := Lib.hid hb1
     clear hown1 hg1 hb1)
  clear c0
  have HBw2 := (Blk.new w1 42 #[.slice (some ⟨w0.heap.size, 0, none⟩) n n])
  have HLw2 := (below_new w1 (.cells #[.slice (some ⟨w0.heap.size, 0, none⟩) n n] 42))
  have hsw2 : (w1.alloc (.cells #[.slice (some ⟨w0.heap.size, 0, none⟩) n n] 42)).heap.size = w1.heap.size + 1 := by simp
  generalize w1.alloc (.cells #[.slice (some ⟨w0.heap.size, 0, none⟩) n n] 42) = w2 at HBw2 HLw2 hsw2 ⊢
  replace HBw2 := Lib.hid HBw2
  replace HLw2 := Lib.hid HLw2
  have hlw2 : w1.heap.size < w2.heap.size := by omega
  replace hsw2 := Lib.hid hsw2
  have HB02 : Hid (Below w0.heap.size w0 w2) := hide (HB1.out.trans (HLw2.out.mono HB1.out.size))
  have HB2 : Hid (Below w.heap.size w w2) := hide (HLw0.out.trans (HB02.out.mono HLw0.out.size))
  have hz0 := hsw0.out
  have hz1 := HB1.out.size
  have HFS2 : Hid (FS es A n c w.heap.size w.heap.size w1.heap.size w0.heap.size (List.replicate n 0) w2) := hide ⟨HBw0.out.below HB02.out hlw0, HBw2.out, own_below HO1.out HLw2.out (Nat.le_refl _), HR.out.below HB2.out, HB2.out.size⟩
  have HFl : Hid (IsFlow es (List.replicate n 0) s t) := by have := flow_zero es s t HC0.out; rw [HL.out] at this; exact hide this
  obtain ⟨lo, hlo⟩ : ∃ x, w.heap.size = x := ⟨_, rfl⟩
  obtain ⟨g3, hg3⟩ : ∃ x, w1.heap.size = x := ⟨_, rfl⟩
  obtain ⟨gF, hgF⟩ : ∃ x, w0.heap.size = x := ⟨_, rfl⟩
  have h2F : lo < gF := by omega
  have hF3 : gF < g3 ∨ gF = g3 := by omega
  have hF3' : gF ≠ g3 := fun e => by
    have h := HFS2.out.b3
    have ho := HFS2.out.own
    obtain ⟨_, h0 | ⟨g', cap', cur, hv, _, hh, _⟩⟩ := ho
    · cases h0.1
    · injection hv with hv1
      injection hv1 with hv1
      injection hv1 with hv1
      rw [← hv1, hgF, e, ← hg3] at hh
      have := h.symm.trans hh
      simp only [Option.some.injEq, Obj.cells.injEq] at this
      exact absurd this.2.1 (by decide)
  rw [hlo, hg3, hgF] at HFS2
  rw [hlo] at HB2 HFin ⊢
  rw [hg3]
  clear HBw0 HLw0 hsw0 hlw0 HO1 HB1 HBw2 HLw2 hsw2 hlw2 HB02 hz0 hz1 hlo hg3 hgF HI HR
  go_wp2_with fail
  go_loopg [8] (1000000 * n) (fun q v wr => ∃ f, netN es f s + (q : Int) = 1000000 * (n : Int) ∧ IsFlow es f s t ∧ FS es A n c lo lo g3 gF f wr ∧ Below lo w wr)
  case atStart => exact ⟨_, by have := net_zero s es n; rw [this]; simp, HFl.out, HFS2.out, HB2.out⟩
  case round =>
    obtain ⟨f, hq, hfl, hfs, hbr⟩ := hrel
    obtain ⟨wo, rfl⟩ : ∃ wo : World, wo = wr := ⟨_, rfl⟩
    have HFl' := Lib.hid hfl
    have HFS := Lib.hid hfs
    have HB := Lib.hid hbr
    have HQ := Lib.hid hq
    have HBnd := Lib.hid (flow_bnd hfl HCo.out)
    have hlow := hfs.low
    have c2 : wo.cell? ⟨lo, 0, none⟩ = some (.slice A n c) := hfs.b2.cell 0
    have c3 : wo.cell? ⟨g3, 0, none⟩ = some (.slice (some ⟨gF, 0, none⟩) n n) := hfs.b3.cell 0
    clear hfl hfs hbr hq
    go_wp2_with fail
    with_reducible refine (search_any A (some ⟨gF, 0, none⟩) n c n es f s wo (HFS.out.strs.more hlow) HL.out hc hc2 HFS.out.ints (Nat.le_refl _) (by omega) HBnd.out hn hs (fun e h => ⟨(HE.out e h).1, (HE.out e h).2.1⟩)).mono ?_
    rintro e w3 ⟨b, nm, g, seen, rfl, hM, hbl, hb3, hSr, hCl⟩
    have HM3 := Lib.hid hM
    have HSr := Lib.hid hSr
    have HCl := Lib.hid hCl
    have HFS3 := Lib.hid (HFS.out.below hb3)
    have HB3 := Lib.hid (HB.out.trans (hb3.mono hlow))
    have hs3 := hb3.size
    have HSm : Hid (∀ y ∈ seen, 0 ≤ y ∧ y ≤ 1000000) := fun y hy => by
      rcases hSr.ends y hy with rfl | ⟨e, he, rfl | rfl⟩
      · exact hs
      · exact (HE.out e he).1
      · exact (HE.out e he).2.1
    clear hM hSr hCl hb3 c2 c3
    obtain ⟨m0, hm0⟩ : ∃ m0, (g t).getD ⟨0, false⟩ = m0 := ⟨_, rfl⟩
    obtain ⟨k0, fw0⟩ := m0
    have hlook : (Instr.lookup 82 (.map (some b)) (.int .i64 t) true).run Try.prog w3 = .ok (.tuple #[.agg #[.int .i64 (k0 : Int), .bool fw0], .bool (g t).isSome]) w3 := by
      have h := HM3.out.look enM_inj keyed_int Try.underlying82 (zero_move w3) Try.underlying3 HT.out
      rw [hm0] at h
      exact h
    obtain ⟨is, his⟩ : ∃ b, (g t).isSome = b := ⟨_, rfl⟩
    rw [his] at hlook
    have HIs := Lib.hid his
    have HMo := Lib.hid hm0
    clear hm0 his
    go_upto_region 6 with (fail)
    clear hlook
    have HBw4 := (Blk.new w3 85 #[.int .i64 (k0 : Int), .bool fw0])
    have HLw4 := (below_new w3 (.cells #[.int .i64 (k0 : Int), .bool fw0] 85))
    have hsw4 : (w3.alloc (.cells #[.int .i64 (k0 : Int), .bool fw0] 85)).heap.size = w3.heap.size + 1 := by simp
    generalize w3.alloc (.cells #[.int .i64 (k0 : Int), .bool fw0] 85) = w4 at HBw4 HLw4 hsw4 ⊢
    replace HBw4 := Lib.hid HBw4
    replace HLw4 := Lib.hid HLw4
    have hlw4 : w3.heap.size < w4.heap.size := by omega
    replace hsw4 := Lib.hid hsw4
    have HFS4 := Lib.hid (HFS3.out.below HLw4.out)
    have HB4 : Hid (Below lo w w4) := hide (HB3.out.trans (HLw4.out.mono HFS3.out.low))
    have HM4 := Lib.hid (HM3.out.below HLw4.out HM3.out.lt)
    have hs4 : b < w4.heap.size := HM4.out.lt
    clear HBw4 HLw4 HM3 HFS3 HB3
    cases is with
    | false =>
      have HG : Hid (g t = none) := by
        show _ = _
        cases hg : g t with
        | none => rfl
        | some y => have := HIs.out; rw [hg] at this; cases this
      have c3 : w4.cell? ⟨g3, 0, none⟩ = some (.slice (some ⟨gF, 0, none⟩) n n) := HFS4.out.b3.cell 0
      go_wp2_with fail
      exact HFin.out _ _ ⟨some ⟨gF, 0, none⟩, n, f, _, rfl, Nat.le_refl _, by omega, HFS4.out.ints, HB4.out, HSr.out.done HFl'.out HCl.out HG.out⟩
    | true =>
      have HG : Hid (g t = some ⟨k0, fw0⟩) := by
        show _ = _
        cases hg : g t with
        | none => have := HIs.out; rw [hg] at this; cases this
        | some y => have := HMo.out; rw [hg] at this; exact congrArg some this
      have HTs : Hid (t ∈ seen) := (HSr.out.dom t).1 (by rw [HG.out]; simp)
      obtain ⟨_, _, _, _, _, hke, _, _, hpos⟩ := move_at HSr.out HG.out (Ne.symm HSt.out)
      simp only at hke
      rw [HL.out] at hke
      have hrl : roomN es f ⟨k0, fw0⟩ ≤ 1000000 := room_le HFl'.out HBnd.out (by show k0 < _; rw [HL.out]; exact hke)
      have c2 : w4.cell? ⟨lo, 0, none⟩ = some (.slice A n c) := HFS4.out.b2.cell 0
      have c3 : w4.cell? ⟨g3, 0, none⟩ = some (.slice (some ⟨gF, 0, none⟩) n n) := HFS4.out.b3.cell 0
      have hlook : (Instr.lookup 82 (.map (some b)) (.int .i64 t) false).run Try.prog w4 = .ok (.agg #[.int .i64 (k0 : Int), .bool fw0]) w4 := by
        have h := HM4.out.look1 enM_inj keyed_int Try.underlying82 (zero_move w4) Try.underlying3 HT.out
        rw [HG.out] at h
        exact h
      go_wp2_with fail
      with_reducible refine (show Calls _ _ #[.slice A n c, .slice (some ⟨gF, 0, none⟩) n n, .agg #[.int .i64 (k0 : Int), .bool fw0]] _ _ from room_any A (some ⟨gF, 0, none⟩) n c n es f ⟨k0, fw0⟩ w4 (HFS4.out.strs.more HFS4.out.low) HL.out hc hc2 HFS4.out.ints (Nat.le_refl _) (by omega) HBnd.out hke).mono ?_
      rintro e w5 ⟨rfl, hb5⟩
      have HFS5 := Lib.hid (HFS4.out.below hb5)
      have HB5 := Lib.hid (HB4.out.trans (hb5.mono HFS4.out.low))
      have HM5 := Lib.hid (HM4.out.below hb5 HM4.out.lt)
      clear hb5 c2 c3 hlook
      obtain ⟨rm, hrm⟩ : ∃ x, roomN es f ⟨k0, fw0⟩ = x := ⟨_, rfl⟩
      rw [hrm] at hpos hrl ⊢
      have HRm := Lib.hid hrm
      clear hrm
      go_upto_region 9 with (fail)
      have HBw6 := (Blk.new w5 3 #[.int .i64 rm])
      have HLw6 := (below_new w5 (.cells #[.int .i64 rm] 3))
      have hsw6 : (w5.alloc (.cells #[.int .i64 rm] 3)).heap.size = w5.heap.size + 1 := by simp
      generalize w5.alloc (.cells #[.int .i64 rm] 3) = w6 at HBw6 HLw6 hsw6 ⊢
      replace HBw6 := Lib.hid HBw6
      replace HLw6 := Lib.hid HLw6
      have hlw6 : w5.heap.size < w6.heap.size := by omega
      replace hsw6 := Lib.hid hsw6
      have HFS6 := Lib.hid (HFS5.out.below HLw6.out)
      have HB6 : Hid (Below lo w w6) := hide (HB5.out.trans (HLw6.out.mono HFS5.out.low))
      have HM6 := Lib.hid (HM5.out.below HLw6.out HM5.out.lt)
      have c2 : w6.cell? ⟨lo, 0, none⟩ = some (.slice A n c) := HFS6.out.b2.cell 0
      have h51 := HFS5.out.b3.lt
      have h52 := HFS5.out.low
      have hb51 := HM5.out.lt
      obtain ⟨g1, hg1⟩ : ∃ x, w5.heap.size = x := ⟨_, rfl⟩
      rw [hg1] at HBw6 hlw6 ⊢ h51 h52 hb51
      have hlo1 : lo < g1 := by omega
      have HJ0 : Hid (J1 es A n c lo g1 lo g3 gF f g t 0 w6) := hide ⟨HFS6.out, rm, HBw6.out, hpos, hrl, fun k hk => by omega⟩
      clear HLw6 hsw6 HFS5 HB5 HM5 hg1
      go_wp2_with fail
      with_reducible refine (back1_any A n c b nm es f s t g seen lo g1 g1 lo g3 (J1 es A n c lo g1 lo g3 gF f g t) w6 HFS6.out.strs HL.out hc hc2 HM6.out (by omega) (by omega) HFS6.out.low hlw6 HSr.out HTs.out HSm.out HJ0.out (fun k W W' h hb => h.below hb)
        (fun k m W h1 h2 h3 h4 h5 => least_step HL.out hc hc2 HBnd.out HSr.out (by omega) (by omega) (by omega) (by omega) m h1 h2 h3 h4)).mono ?_
      rintro e w7 ⟨rfl, K, hK, hKne, hJ7, hg7⟩
      obtain ⟨hFS7, x, hx7, hx0, hx1, hxl⟩ := hJ7
      have HK := Lib.hid hK
      have HXl := Lib.hid hxl
      have HFS7 := Lib.hid hFS7
      have HX7 := Lib.hid hx7
      have HB7 : Hid (Below lo w w7) := hide (HB6.out.trans (below_grown hg7 HFS6.out.low (by omega)))
      have HM7 := Lib.hid (HM6.out.same (hg7.block b HM6.out.lt (fun e => by have := Option.some.inj e; omega)))
      have c2' : w7.cell? ⟨lo, 0, none⟩ = some (.slice A n c) := HFS7.out.b2.cell 0
      have h71 := HX7.out.lt
      have h7F : gF < w7.heap.size := by have := HFS7.out.b3.lt; omega
      have hbF : b ≠ gF := fun e => by
        have h1 := HFS7.out.own
        obtain ⟨D, ⟨es', clock, h2, _⟩, _⟩ := HM7.out
        obtain ⟨_, h0 | ⟨g', cap', cur, hv, _, hh, _⟩⟩ := h1
        · cases h0.1
        · injection hv with hv1
          injection hv1 with hv1
          injection hv1 with hv1
          rw [← hv1, ← e] at hh
          have := h2.symm.trans hh
          cases this
      obtain ⟨jt, hjt, hjtt⟩ := mem_getD HTs.out
      have HJ20 : Hid (J2 es A n c lo g1 lo g3 gF f g seen s t x 0 w7) := hide ⟨HX7.out, fun k hk => by omega, jt, f, hjt, hjtt, PuI.start (by rw [HFl'.out.len]) hjtt (fun i hi => HFl'.out.at_ hi), HFS7.out⟩
      clear hK hKne hFS7 hx7 hxl hg7 c2 hjt hjtt
      go_wp2_with fail
      with_reducible refine (back2_any A n c b nm es f s t g seen lo gF g1 g3 (J2 es A n c lo g1 lo g3 gF f g seen s t x) w7 HFS7.out.strs HL.out hc hc2 HM7.out hbF (by omega) HFS7.out.low h7F HSr.out HTs.out HSm.out HJ20.out (fun k W W' h hb => h.below hb)
        (fun k m W h1 h2 h3 h4 h5 => push_step HL.out (by omega) HCo.out HSr.out hx0 hx1 K HK.out HXl.out (by omega) (by omega) (by omega) (by omega) m h1 h2 h3 h4)).mono ?_
      rintro e w8 ⟨rfl, K2, hK2, hKne2, hJ8, hg8⟩
      obtain ⟨hx8, _, j, f', hj, hjk, hpu, hfs8⟩ := hJ8
      have hj0 : j = 0 := nodup_at HSr.out.nodup hj HSr.out.pos (by rw [hjk, hK2, HSr.out.head])
      have HPu : Hid (PuI es f seen t x 0 f') := by rw [← hj0]; exact hide hpu
      have HFS8 := Lib.hid hfs8
      have HB8 : Hid (Below lo w w8) := hide (HB7.out.trans (below_grown hg8 HFS7.out.low (by omega)))
      have HNx := Lib.hid (HFl'.out.next HSt.out HPu.out HSr.out.head)
      have hub := (net_le es f' s HNx.out.1.len (fun i hi => ⟨(HNx.out.1.at_ hi).1, Int.le_trans (HNx.out.1.at_ hi).2 (HCo.out i hi)⟩)).2
      have hnx := HNx.out.2
      have hq := HQ.out
      rw [HL.out] at hub
      have hqle : netN es f' s + (((1000000 * (n : Int) - netN es f' s).toNat : Nat) : Int) = 1000000 * (n : Int) := by omega
      have HUb := Lib.hid hub
      have HNq := Lib.hid hnx
      have HQl := Lib.hid hqle
      clear hx8 hj hjk hpu hfs8 hg8 hK2 hKne2 c2' hq hnx hub hqle
      go_wp2_with fail
      go_roundg ((1000000 * (n : Int) - netN es f' s).toNat)
      case measure => have h1 := HUb.out; have h2 := HNq.out; have h3 := HQ.out; omega
      case rel => exact ⟨f', HQl.out, HNx.out.1, HFS8.out, HB8.out⟩
end Go.Proofs.Ytihmboibpjfohaa
