/-
  search of flow, walked.
-/
import Derived.Test.YtihmboibpjfohaaCenH
import Derived.Test.YtihmboibpjfohaaFlsN
import Derived.Deep.LoopGhost
namespace Go.Proofs.Ytihmboibpjfohaa
open Go.RowKit

theorem wf_small {x : Int} (h : 0 ≤ x ∧ x ≤ 1000000) : (Lit.int .i64 x).wf = true := by
  simp [Lit.wf, IntKind.min, IntKind.max, IntKind.signed, IntKind.bits]
  omega
theorem rest_run (g p n c : Nat) (hc : n + 1 ≤ c) (W : World) : (Instr.sliceAt 42 (.slice (some ⟨g, p, none⟩) (n + 1) c) (some (.int .i64 1)) none none).run Try.prog W = .ok (.slice (if c = 1 then some ⟨g, p, none⟩ else some ⟨g, p + 1, none⟩) n (c - 1)) W := by
  have hs : (sizeOf (Try.prog.elem 42)).run Try.prog W = .ok 1 W := by
    obtain ⟨i, hi, _, h1, _⟩ := info_parts (show (Try.prog.info? 3).map (fun i => (i.zero, i.size, i.bytes)) = some (some (.int .i64 0), 1, 8) by kernel_rfl)
    rw [show Try.prog.elem 42 = 3 by kernel_rfl]
    simp [sizeOf, typeInfo, hi, h1]
  rw [run_sliceAt_slice (P := Try.prog) (w := W) _ _ _ _ _ (by kernel_rfl), run_slice_l (P := Try.prog) (w := W) 42 (some ⟨g, p, none⟩) (n + 1) c (by kernel_rfl) .i64 (1 : Int) (by omega) (by omega), hs]
  simp [sliced, Result.andThen, Addr.add_lit]
theorem closed_next {es : List Ed} {f : List Int} {g : Int → Option Mv} {y : Int} {i : Nat} {ei fr tt cst : Int} (h : ClosedTo es f g y i) (he : es.getD i edZ = ⟨ei, fr, tt, cst⟩) (h1 : fr = y → 0 < roomN es f ⟨i, true⟩ → g tt ≠ none) (h2 : tt = y → 0 < roomN es f ⟨i, false⟩ → g fr ≠ none) : ClosedTo es f g y (i + 1) := by
  intro k hk hl
  rcases Nat.eq_or_lt_of_le (Nat.le_of_lt_succ hk) with rfl | hk
  · rw [he]; exact ⟨h1, h2⟩
  · exact h k hk hl
/-- the step, in the words of what is found -/
theorem StepR.next {P : Pl} {es : List Ed} {f : List Int} {A : Option Addr} {n c : Nat} {F : Option Addr} {c2 : Nat} {w w' : World} {g : Int → Option Mv} {seen : List Int} {nm p i : Nat} {s y : Int} {m : Mv} {e : Ending}
    (h : StepR P es f A n c F c2 w g (seen.drop (p + 1)) nm (mvTo es m) m e w') (hI : Inv es f s p y g seen nm) (hm : m.edge < es.length) (hf : mvFrom es m = y) (hc : ClosedTo es f g y i) :
    e = .returned (.tuple #[]) ∧ Below P.lo w w' ∧ Keep P w w' ∧ ∃ g' seen' nm', St P es f A n c F c2 w' g' (seen'.drop (p + 1)) nm' ∧ Inv es f s p y g' seen' nm' ∧ ClosedTo es f g' y i ∧ (0 < roomN es f m → g' (mvTo es m) ≠ none) ∧ (∀ z, g z ≠ none → g' z ≠ none) := by
  obtain ⟨he, hb, hk, ⟨h1, h2, hS⟩ | ⟨h1, hS⟩⟩ := h
  · obtain ⟨hI2, hg⟩ := hI.step hm hf h1 h2
    refine ⟨he, hb, hk, _, seen ++ [mvTo es m], nm + 1, ?_, hI2, hc.more hg, fun _ => by rw [putF_same]; simp, hg⟩
    rw [List.drop_append_of_le_length (by have := hI.lt; omega)]
    exact hS
  · exact ⟨he, hb, hk, g, seen, nm, hS, hI, hc, fun h0 hn => h1 ⟨hn, h0⟩, fun _ hz => hz⟩
def SearchR (es : List Ed) (f : List Int) (s : Int) (w : World) (e : Ending) (w' : World) : Prop :=
  ∃ (b nm : Nat) (g : Int → Option Mv) (seen : List Int), e = .returned (.map (some b)) ∧ MapV Try.prog 3 enM w' b nm g ∧ w.heap.size ≤ b ∧ Below w.heap.size w w' ∧ SrI es f s g seen ∧ ∀ y ∈ seen, ClosedTo es f g y es.length

set_option maxRecDepth 100000 in
set_option maxHeartbeats 4000000 in
theorem search_any (A F : Option Addr) (n c c2 : Nat) (es : List Ed) (f : List Int) (s : Int) (w : World) (hr : Strs Ed.cells 4 w w.heap.size A n es) (hl : es.length = n) (hc : n ≤ c) (hc2 : c ≤ maxLen) (hf : Ints w w.heap.size F n f) (hd : n ≤ c2) (hd2 : c2 ≤ maxLen) (hB : Bnd es f)
    (hn : n ≤ 1000) (hs : 0 ≤ s ∧ s ≤ 1000000) (he : ∀ e ∈ es, (0 ≤ e.fr ∧ e.fr ≤ 1000000) ∧ 0 ≤ e.tt ∧ e.tt ≤ 1000000) :
    Calls Try.prog 56 #[.slice A n c, .slice F n c2, .int .i64 s] w (SearchR es f s w) := by
  have hmf : ∀ (fn : Fn) (first cap : Array Value) (w : World), (Instr.makeFunc fn first cap).run Try.prog w = .ok (.func fn first cap) w := fun _ _ _ _ => rfl
  have hmk : ∀ (w : World), (Instr.makeMap 82 none).run Try.prog w = .ok (.map (some w.heap.size)) (w.alloc (.map #[] 0)) := fun _ => rfl
  have HR := Lib.hid hr
  have HFl := Lib.hid hf
  have HBn := Lib.hid hB
  have HL := Lib.hid hl
  have HX := Lib.hid (wf_small hs)
  have HE := Lib.hid he
  have HFin : Hid (∀ (e : Ending) (w' : World), (∃ (b nm : Nat) (g : Int → Option Mv) (seen : List Int), e = .returned (.map (some b)) ∧ MapV Try.prog 3 enM w' b nm g ∧ w.heap.size ≤ b ∧ Below w.heap.size w w' ∧ SrI es f s g seen ∧ ∀ y ∈ seen, ClosedTo es f g y es.length) → SearchR es f s w e w') := fun e w' h => h
  generalize SearchR es f s w = RR at *
  clear hr hf hB hl he
  go_enter Try.func56, Try.ntmps56
  go_upto_region 1 with (fail)
  have HBw0 := (Blk.new w 66 #[.slice A n c])
  have HLw0 := (below_new w (.cells #[.slice A n c] 66))
  have hsw0 : (w.alloc (.cells #[.slice A n c] 66)).heap.size = w.heap.size + 1 := by simp
  generalize w.alloc (.cells #[.slice A n c] 66) = w0 at HBw0 HLw0 hsw0 ⊢
  replace HBw0 := Lib.hid HBw0
  replace HLw0 := Lib.hid HLw0
  have hlw0 : w.heap.size < w0.heap.size := by omega
  replace hsw0 := Lib.hid hsw0
  have HBw1 := (Blk.new w0 42 #[.slice F n c2])
  have HLw1 := (below_new w0 (.cells #[.slice F n c2] 42))
  have hsw1 : (w0.alloc (.cells #[.slice F n c2] 42)).heap.size = w0.heap.size + 1 := by simp
  generalize w0.alloc (.cells #[.slice F n c2] 42) = w1 at HBw1 HLw1 hsw1 ⊢
  replace HBw1 := Lib.hid HBw1
  replace HLw1 := Lib.hid HLw1
  have hlw1 : w0.heap.size < w1.heap.size := by omega
  replace hsw1 := Lib.hid hsw1
  go_upto_region 2 with (refine wpList_mput enM_inj (MapV.made w1 _ _ _) rfl (.tmp 13) (.tmp 14) (.tmp 15) 82 (.inr rfl) keyed_int Try.underlying82 Try.underlying3 (by simp [maxLen]) HX.out ⟨0, false⟩ rfl rfl rfl ?_
                         intro w3 hm3 hg3
                         have HM3 := Lib.hid hm3
                         have HG3 := Lib.hid hg3
                         clear hm3 hg3)
  have HBw4 := (Blk.new w3 82 #[.map (some w1.heap.size)])
  have HLw4 := (below_new w3 (.cells #[.map (some w1.heap.size)] 82))
  have hsw4 : (w3.alloc (.cells #[.map (some w1.heap.size)] 82)).heap.size = w3.heap.size + 1 := by simp
  generalize w3.alloc (.cells #[.map (some w1.heap.size)] 82) = w4 at HBw4 HLw4 hsw4 ⊢
  replace HBw4 := Lib.hid HBw4
  replace HLw4 := Lib.hid HLw4
  have hlw4 : w3.heap.size < w4.heap.size := by omega
  replace hsw4 := Lib.hid hsw4
  go_upto_region 3 with (fail)
  have HBw5 := (Blk.new w4 3 #[.int .i64 s])
  have HLw5 := (below_new w4 (.cells #[.int .i64 s] 3))
  have hsw5 : (w4.alloc (.cells #[.int .i64 s] 3)).heap.size = w4.heap.size + 1 := by simp
  generalize w4.alloc (.cells #[.int .i64 s] 3) = w5 at HBw5 HLw5 hsw5 ⊢
  replace HBw5 := Lib.hid HBw5
  replace HLw5 := Lib.hid HLw5
  have hlw5 : w4.heap.size < w5.heap.size := by omega
  replace hsw5 := Lib.hid hsw5
  have HBw6 := (Blk.new w5 42 #[.slice (some ⟨w4.heap.size, 0, none⟩) 1 1])
  have HLw6 := (below_new w5 (.cells #[.slice (some ⟨w4.heap.size, 0, none⟩) 1 1] 42))
  have hsw6 : (w5.alloc (.cells #[.slice (some ⟨w4.heap.size, 0, none⟩) 1 1] 42)).heap.size = w5.heap.size + 1 := by simp
  generalize w5.alloc (.cells #[.slice (some ⟨w4.heap.size, 0, none⟩) 1 1] 42) = w6 at HBw6 HLw6 hsw6 ⊢
  replace HBw6 := Lib.hid HBw6
  replace HLw6 := Lib.hid HLw6
  have hlw6 : w5.heap.size < w6.heap.size := by omega
  replace hsw6 := Lib.hid hsw6
  have HB13 : Hid (Below w1.heap.size w1 w3) := hide ((below_new w1 (.map #[] 0)).trans ⟨HG3.out.os, HG3.out.tape, HG3.out.output, HG3.out.size, fun k hk => HG3.out.block k (by simp; omega) (fun e => by have := Option.some.inj e; omega)⟩)
  have HB46 : Hid (Below w4.heap.size w4 w6) := hide (HLw5.out.trans (HLw6.out.mono HLw5.out.size))
  have HB36 : Hid (Below w3.heap.size w3 w6) := hide (HLw4.out.trans (HB46.out.mono HLw4.out.size))
  have HB16 : Hid (Below w1.heap.size w1 w6) := hide (HB13.out.trans (HB36.out.mono HB13.out.size))
  have HB06 : Hid (Below w0.heap.size w0 w6) := hide (HLw1.out.trans (HB16.out.mono HLw1.out.size))
  have HB6 : Hid (Below w.heap.size w w6) := hide (HLw0.out.trans (HB06.out.mono HLw0.out.size))
  have hz0 := hsw0.out
  have hz1 := hsw1.out
  have hz5 := hsw5.out
  have h13 := HB13.out.size
  have h34 := HLw4.out.size
  have hM6 : MapV Try.prog 3 enM w6 w1.heap.size 1 (putF (fun _ => none) s ⟨0, false⟩) := HM3.out.below HB36.out HM3.out.lt
  have HS6 : Hid (St ⟨w.heap.size, w.heap.size, w.heap.size + 1, w1.heap.size, w3.heap.size, w4.heap.size + 1⟩ es f A n c F c2 w6 (putF (fun _ => none) s ⟨0, false⟩) [s] 1) := by
    refine hide ⟨HBw0.out.below HB06.out hlw0, ?_, hM6, HBw4.out.below HB46.out hlw4, ⟨_, ?_, (OwnQ.of_blk HBw5.out (show w.heap.size ≤ w4.heap.size by omega)).below HLw6.out (Nat.le_refl _)⟩, HR.out.below HB6.out, HFl.out.below HB6.out, ?_, ?_, ?_, HB6.out.size⟩
    · show Blk _ (w.heap.size + 1) _ _
      rw [← hz0]
      exact HBw1.out.below HB16.out hlw1
    · show Blk _ (w4.heap.size + 1) _ _
      rw [← hz5]
      exact HBw6.out
    · show w4.heap.size + 1 ≠ w.heap.size + 1
      omega
    · show w.heap.size ≤ w1.heap.size
      omega
    · show w.heap.size ≤ w4.heap.size + 1
      omega
  have hlb : w.heap.size ≤ w1.heap.size := by omega
  obtain ⟨gf, hgf⟩ : ∃ x, w.heap.size + 1 = x := ⟨_, rfl⟩
  obtain ⟨go, hgo⟩ : ∃ x, w4.heap.size + 1 = x := ⟨_, rfl⟩
  obtain ⟨gm, hgm⟩ : ∃ x, w3.heap.size = x := ⟨_, rfl⟩
  obtain ⟨b, hb⟩ : ∃ x, w1.heap.size = x := ⟨_, rfl⟩
  obtain ⟨gs, hgs⟩ : ∃ x, w4.heap.size = x := ⟨_, rfl⟩
  rw [hgf, hgo, hgm, hb] at HS6
  rw [hgf, hgo, hgm, hb, hgs]
  rw [hb] at hlb
  clear HBw0 HLw0 hsw0 hlw0 HBw1 HLw1 hsw1 hlw1 HBw4 HLw4 hsw4 hlw4 HBw5 HLw5 hsw5 hlw5 HBw6 HLw6 hsw6 hlw6 HM3 HG3 HB13 HB46 HB36 HB16 HB06 hz0 hz1 hz5 h13 h34 hM6 hgf hgo hgm hb hgs hmk HR HFl
  obtain ⟨lo, hlo⟩ : ∃ x, w.heap.size = x := ⟨_, rfl⟩
  rw [hlo] at HS6 HB6 HFin hlb ⊢
  clear hlo
  have HStp : Hid (∀ (W : World) (g : Int → Option Mv) (q : List Int) (nm : Nat) (x : Int) (k : Nat) (fw : Bool), St (⟨lo, lo, gf, b, gm, go⟩ : Pl) es f A n c F c2 W g q nm → k < n → (Lit.int .i64 x).wf = true → nm < 1000000 → q.length ≤ 1000000 →
      Calls Try.prog 65 #[.int .i64 x, .agg #[.int .i64 (k : Int), .bool fw], .pointer (some ⟨gm, 0, none⟩), .pointer (some ⟨lo, 0, none⟩), .pointer (some ⟨gf, 0, none⟩), .pointer (some ⟨go, 0, none⟩)] W (StepR (⟨lo, lo, gf, b, gm, go⟩ : Pl) es f A n c F c2 W g q nm x ⟨k, fw⟩)) := fun W g q nm x k fw h1 h2 h3 h4 h5 => step_any (⟨lo, lo, gf, b, gm, go⟩ : Pl) n c c2 nm es f A F W g q x ⟨k, fw⟩ h1 HL.out hc hc2 hd hd2 HBn.out h2 h3 h4 h5
  go_wp2_with fail
  go_loopg [10] (2 * n + 1) (fun k v wr => ∃ (g : Int → Option Mv) (seen : List Int) (p nm : Nat), SrI es f s g seen ∧ p ≤ seen.length ∧ k + p = 2 * n + 1 ∧ nm ≤ seen.length ∧ (∀ j, j < p → ClosedTo es f g (seen.getD j 0) n) ∧ St (⟨lo, lo, gf, b, gm, go⟩ : Pl) es f A n c F c2 wr g (seen.drop p) nm ∧ Below lo w wr)
  case atStart => exact ⟨_, [s], 0, 1, SrI.start es f s, by simp, rfl, by simp, fun j hj => by omega, HS6.out, HB6.out⟩
  case round =>
    obtain ⟨g, seen, p, nm, h1, h2, h3, h4, h5, h6, h7⟩ := hrel
    obtain ⟨wo, rfl⟩ : ∃ wo : World, wo = wr := ⟨_, rfl⟩
    have HSr := Lib.hid h1
    have HCl := Lib.hid h5
    have HSo := Lib.hid h6
    have HBo := Lib.hid h7
    have hsh := h1.short
    rw [HL.out] at hsh
    obtain ⟨vq, hbq, hoq⟩ := h6.bo
    have hql : (seen.drop p).length = seen.length - p := List.length_drop
    have co : wo.cell? ⟨go, 0, none⟩ = some vq := hbq.cell 0
    by_cases hp : p < seen.length
    · obtain ⟨y, hy⟩ : ∃ y, seen.getD p 0 = y := ⟨_, rfl⟩
      have hdr : seen.drop p = y :: seen.drop (p + 1) := by
        rw [List.drop_eq_getElem_cons hp, ← hy]
        simp [List.getElem?_eq_getElem hp]
      obtain ⟨nq, hnq⟩ : ∃ x, (seen.drop (p + 1)).length = x := ⟨_, rfl⟩
      rw [hdr, List.length_cons, hnq, List.map_cons] at hoq
      have HRest : Hid (OwnQ wo lo 3 vq (nq + 1) (.int .i64 y :: (seen.drop (p + 1)).map (Value.int .i64))) := hoq
      obtain ⟨gq, pq, cq, hvq, hq1, hq2⟩ := hoq.shape
      subst hvq
      have cy : wo.cell? ⟨gq, pq, none⟩ = some (.int .i64 y) := HRest.out.first
      have hI : Hid (Inv es f s p y g seen nm) := hide ⟨h1, hp, hy, h4, fun j hj => by rw [HL.out]; exact h5 j hj⟩
      have fo : wo.frozen? ⟨go, 0, none⟩ = false := hbq.frozen 0
      obtain ⟨Aq, hAq⟩ : ∃ x, (if cq = 1 then some (⟨gq, pq, none⟩ : Addr) else some ⟨gq, pq + 1, none⟩) = x := ⟨_, rfl⟩
      have hrun : ∀ W, (Instr.sliceAt 42 (.slice (some ⟨gq, pq, none⟩) (nq + 1) cq) (some (.int .i64 1)) none none).run Try.prog W = .ok (.slice Aq nq (cq - 1)) W := fun W => by rw [← hAq]; exact rest_run gq pq nq cq hq1 W
      obtain ⟨hs1, hb1⟩ := h6.stored (q' := seen.drop (p + 1)) (v5 := .slice Aq nq (cq - 1)) (by rw [hnq, ← hAq]; exact HRest.out.rest)
      have HS1 := Lib.hid hs1
      have HB1 := Lib.hid (h7.trans hb1)
      clear h1 h5 h6 h7 hbq hoq hy hdr hAq hs1 hb1
      go_upto_region 7 with (fail)
      generalize hw1 : wo.setCell ⟨go, 0, none⟩ (.slice Aq nq (cq - 1)) = w8 at HS1 HB1 ⊢
      clear hw1 hrun fo co cy
      have cl : w8.cell? ⟨lo, 0, none⟩ = some (.slice A n c) := HS1.out.bl.cell 0
      go_wp2_with fail
      clear cl
      go_loopg [30] n (fun k v wr => ∃ (i : Nat) (g : Int → Option Mv) (seen : List Int) (nm : Nat), v = .int .i64 (i : Int) ∧ i ≤ n ∧ k + i = n ∧ Inv es f s p y g seen nm ∧ ClosedTo es f g y i ∧ St (⟨lo, lo, gf, b, gm, go⟩ : Pl) es f A n c F c2 wr g (seen.drop (p + 1)) nm ∧ Below lo w wr)
      case atStart => exact ⟨0, g, seen, nm, rfl, by omega, rfl, hI.out, fun k hk => by omega, HS1.out, HB1.out⟩
      case round =>
        obtain ⟨i, g1, seen1, nm1, rfl, hi, hki, hI1, hC1, hS1', hB1'⟩ := hrel
        obtain ⟨wi, rfl⟩ : ∃ wi : World, wi = wr := ⟨_, rfl⟩
        have HIi := Lib.hid hI1
        have HCi := Lib.hid hC1
        have HSi := Lib.hid hS1'
        have HBi := Lib.hid hB1'
        clear hI1 hC1 hS1' hB1'
        by_cases hlt : i < n
        · obtain ⟨ad, rfl, hab, hcl⟩ := strs_at HSi.out.rl (fun _ => rfl) HL.out hlt ed0
          have hem := HE.out _ (ed_mem (es := es) (k := i) (by rw [HL.out]; exact hlt))
          have hlow := HSi.out.low
          have HMt0 : Hid (mvFrom es ⟨i, true⟩ = (es.getD i edZ).fr) := hide rfl
          have HMt1 : Hid (mvTo es ⟨i, true⟩ = (es.getD i edZ).tt) := hide rfl
          have HMf0 : Hid (mvFrom es ⟨i, false⟩ = (es.getD i edZ).tt) := hide rfl
          have HMf1 : Hid (mvTo es ⟨i, false⟩ = (es.getD i edZ).fr) := hide rfl
          obtain ⟨⟨ei, fr, tt, cst⟩, hq⟩ : ∃ q, es.getD i ed0 = q := ⟨_, rfl⟩
          have HEd : Hid (es.getD i edZ = ⟨ei, fr, tt, cst⟩) := hq
          rw [hq] at hcl
          have hem2 : (0 ≤ fr ∧ fr ≤ 1000000) ∧ 0 ≤ tt ∧ tt ≤ 1000000 := by
            have h := HEd.out
            rw [h] at hem
            exact hem
          rw [HEd.out] at HMt0 HMt1 HMf0 HMf1
          have HWf := Lib.hid (wf_small hem2.1)
          have HWt := Lib.hid (wf_small hem2.2)
          have HCl2 : Hid (∀ j u, ([.int .i64 ei, .int .i64 fr, .int .i64 tt, .int .i64 cst] : List Value)[j]? = some u → wi.cell? ((ad.add (i * 4)).add j) = some u) := hcl
          clear hcl hq hem
          go_upto_region 10 with (refine wpList_load_at 68 (.tmp 33) rfl rfl (ad.add (i * 4)) rfl [.int .i64 ei, .int .i64 fr, .int .i64 tt, .int .i64 cst] HCl2.out _ Try.underlying68 rfl (by kernel_rfl) ?_)
          have HBw9 := (Blk.new wi 68 #[.int .i64 ei, .int .i64 fr, .int .i64 tt, .int .i64 cst])
          have HLw9 := (below_new wi (.cells #[.int .i64 ei, .int .i64 fr, .int .i64 tt, .int .i64 cst] 68))
          have hsw9 : (wi.alloc (.cells #[.int .i64 ei, .int .i64 fr, .int .i64 tt, .int .i64 cst] 68)).heap.size = wi.heap.size + 1 := by simp
          generalize wi.alloc (.cells #[.int .i64 ei, .int .i64 fr, .int .i64 tt, .int .i64 cst] 68) = w9 at HBw9 HLw9 hsw9 ⊢
          replace HBw9 := Lib.hid HBw9
          replace HLw9 := Lib.hid HLw9
          have hlw9 : wi.heap.size < w9.heap.size := by omega
          replace hsw9 := Lib.hid hsw9
          have HS9 := Lib.hid (HSi.out.now HLw9.out)
          have HB9 : Hid (Below lo w w9) := hide (HBi.out.trans (HLw9.out.mono hlow))
          have HX9 := HBw9
          have hgo9 : wi.heap.size ≠ go := fun e => by
            obtain ⟨vq', hb', _⟩ := HSi.out.bo
            have h := hb'.lt
            have h2 : go < wi.heap.size := h
            omega
          clear HBw9 HLw9 hsw9 hlw9
          have e0 : w9.cell? ⟨wi.heap.size, 0, none⟩ = some (.int .i64 ei) := HX9.out.cell 0
          have e1 : w9.cell? ⟨wi.heap.size, 1, none⟩ = some (.int .i64 fr) := HX9.out.cell 1
          have e2 : w9.cell? ⟨wi.heap.size, 2, none⟩ = some (.int .i64 tt) := HX9.out.cell 2
          have e3 : w9.cell? ⟨wi.heap.size, 3, none⟩ = some (.int .i64 cst) := HX9.out.cell 3
          by_cases h1 : fr = y
          · have d1 : (fr == y) = true := beq_iff_eq.2 h1
            have H1 := Lib.hid h1
            clear h1
            go_wp2_with fail
            with_reducible refine (HStp.out w9 g1 (seen1.drop (p + 1)) nm1 tt i true HS9.out hlt HWt.out (by have := HIi.out.nm; have := HIi.out.sr.short; rw [HL.out] at this; omega) (by have := HIi.out.sr.short; rw [HL.out, ] at this; rw [List.length_drop]; omega)).mono ?_
            intro e w10 hst
            have hnx := StepR.next (m := ⟨i, true⟩) (by rw [HMt1.out]; exact hst) HIi.out (by rw [HL.out]; exact hlt) (by rw [HMt0.out]; exact H1.out) HCi.out
            obtain ⟨rfl, hb_, hk_, g2, seen2, nm2, hS_, hI_, hC_, hr_, hx_⟩ := hnx
            have HS10 := Lib.hid hS_
            have HI2 := Lib.hid hI_
            have HC2 := Lib.hid hC_
            have Hr2 := Lib.hid hr_
            have Hx2 := Lib.hid hx_
            have HB10 := Lib.hid (HB9.out.trans hb_)
            have HK10 := Lib.hid hk_
            clear hst hS_ hI_ hC_ hr_ hx_ hb_ hk_
            have HX10 : Hid (Blk w10 wi.heap.size 68 #[.int .i64 ei, .int .i64 fr, .int .i64 tt, .int .i64 cst]) := hide (HK10.out _ _ _ HX9.out (by decide) hgo9)
            clear e0 e1 e2 e3
            have e0 : w10.cell? ⟨wi.heap.size, 0, none⟩ = some (.int .i64 ei) := HX10.out.cell 0
            have e1 : w10.cell? ⟨wi.heap.size, 1, none⟩ = some (.int .i64 fr) := HX10.out.cell 1
            have e2 : w10.cell? ⟨wi.heap.size, 2, none⟩ = some (.int .i64 tt) := HX10.out.cell 2
            have e3 : w10.cell? ⟨wi.heap.size, 3, none⟩ = some (.int .i64 cst) := HX10.out.cell 3
            by_cases h2 : tt = y
            · have d2 : (tt == y) = true := beq_iff_eq.2 h2
              have H2 := Lib.hid h2
              clear h2
              go_wp2_with fail
              with_reducible refine (HStp.out w10 g2 (seen2.drop (p + 1)) nm2 fr i false HS10.out hlt HWf.out (by have := HI2.out.nm; have := HI2.out.sr.short; rw [HL.out] at this; omega) (by have := HI2.out.sr.short; rw [HL.out, ] at this; rw [List.length_drop]; omega)).mono ?_
              intro e w11 hst
              have hnx := StepR.next (m := ⟨i, false⟩) (by rw [HMf1.out]; exact hst) HI2.out (by rw [HL.out]; exact hlt) (by rw [HMf0.out]; exact H2.out) HC2.out
              obtain ⟨rfl, hb_, hk_, g3, seen3, nm3, hS_, hI_, hC_, hr_, hx_⟩ := hnx
              have HS11 := Lib.hid hS_
              have HI3 := Lib.hid hI_
              have HC3 := Lib.hid hC_
              have Hr3 := Lib.hid hr_
              have Hx3 := Lib.hid hx_
              have HB11 := Lib.hid (HB10.out.trans hb_)
              have HK11 := Lib.hid hk_
              clear hst hS_ hI_ hC_ hr_ hx_ hb_ hk_
              go_wp2_with fail
              go_roundg (n - (i + 1))
              case measure => omega
              case rel => exact ⟨i + 1, g3, seen3, nm3, by go_num, by omega, by omega, HI3.out, closed_next HC3.out HEd.out (fun _ h => Hx3.out _ (by have := Hr2.out h; rwa [HMt1.out] at this)) (fun _ h => by have := Hr3.out h; rwa [HMf1.out] at this), HS11.out, HB11.out⟩
            · have d2 : (tt == y) = false := beq_eq_false_iff_ne.2 h2
              go_wp2_with fail
              go_roundg (n - (i + 1))
              case measure => omega
              case rel => exact ⟨i + 1, g2, seen2, nm2, by go_num, by omega, by omega, HI2.out, closed_next HC2.out HEd.out (fun _ h => by have := Hr2.out h; rwa [HMt1.out] at this) (fun h _ => absurd h h2), HS10.out, HB10.out⟩
          · have d1 : (fr == y) = false := beq_eq_false_iff_ne.2 h1
            by_cases h2 : tt = y
            · have d2 : (tt == y) = true := beq_iff_eq.2 h2
              have H2 := Lib.hid h2
              clear h2
              go_wp2_with fail
              with_reducible refine (HStp.out w9 g1 (seen1.drop (p + 1)) nm1 fr i false HS9.out hlt HWf.out (by have := HIi.out.nm; have := HIi.out.sr.short; rw [HL.out] at this; omega) (by have := HIi.out.sr.short; rw [HL.out, ] at this; rw [List.length_drop]; omega)).mono ?_
              intro e w11 hst
              have hnx := StepR.next (m := ⟨i, false⟩) (by rw [HMf1.out]; exact hst) HIi.out (by rw [HL.out]; exact hlt) (by rw [HMf0.out]; exact H2.out) HCi.out
              obtain ⟨rfl, hb_, hk_, g3, seen3, nm3, hS_, hI_, hC_, hr_, hx_⟩ := hnx
              have HS11 := Lib.hid hS_
              have HI3 := Lib.hid hI_
              have HC3 := Lib.hid hC_
              have Hr3 := Lib.hid hr_
              have Hx3 := Lib.hid hx_
              have HB11 := Lib.hid (HB9.out.trans hb_)
              have HK11 := Lib.hid hk_
              clear hst hS_ hI_ hC_ hr_ hx_ hb_ hk_
              go_wp2_with fail
              go_roundg (n - (i + 1))
              case measure => omega
              case rel => exact ⟨i + 1, g3, seen3, nm3, by go_num, by omega, by omega, HI3.out, closed_next HC3.out HEd.out (fun h _ => absurd h h1) (fun _ h => by have := Hr3.out h; rwa [HMf1.out] at this), HS11.out, HB11.out⟩
            · have d2 : (tt == y) = false := beq_eq_false_iff_ne.2 h2
              go_wp2_with fail
              go_roundg (n - (i + 1))
              case measure => omega
              case rel => exact ⟨i + 1, g1, seen1, nm1, by go_num, by omega, by omega, HIi.out, closed_next HCi.out HEd.out (fun h _ => absurd h h1) (fun h _ => absurd h h2), HS9.out, HB9.out⟩
        · obtain rfl : i = n := by omega
          go_wp2_with fail
          go_roundg (2 * i - p)
          case measure => omega
          case rel =>
            have hlt2 := HIi.out.lt
            refine ⟨g1, seen1, p + 1, nm1, HIi.out.sr, HIi.out.lt, by have := HIi.out.sr.short; rw [HL.out] at this; omega, HIi.out.nm, fun j hj => ?_, HSi.out, HBi.out⟩
            rcases Nat.eq_or_lt_of_le (Nat.le_of_lt_succ hj) with rfl | hj
            · rw [HIi.out.at_]; exact HCi.out
            · have h := HIi.out.cl j hj; rw [HL.out] at h; exact h
    · have hpe : p = seen.length := by omega
      subst hpe
      have hd0 : seen.drop seen.length = [] := List.drop_length
      rw [hd0] at hoq h6
      obtain ⟨gq, pq, cq, hvq, hq1, hq2⟩ := hoq.shape
      subst hvq
      have cm : wo.cell? ⟨gm, 0, none⟩ = some (.map (some b)) := h6.bm.cell 0
      have co0 : wo.cell? ⟨go, 0, none⟩ = some (.slice (some ⟨gq, pq, none⟩) 0 cq) := hbq.cell 0
      clear h1 h5 h6 h7 hbq hoq co hd0 hql
      go_wp2_with fail
      refine HFin.out _ _ ⟨b, nm, g, seen, rfl, HSo.out.mp, hlb, HBo.out, HSr.out, fun y hy => ?_⟩
      obtain ⟨j, hj, rfl⟩ := List.mem_iff_getElem.1 hy
      have h := HCl.out j hj
      rw [HL.out]
      simpa [List.getElem?_eq_getElem hj] using h
end Go.Proofs.Ytihmboibpjfohaa
