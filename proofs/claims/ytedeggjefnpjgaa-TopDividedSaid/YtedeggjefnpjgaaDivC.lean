/-
  network.Split, walked.
-/
import Derived.Test.YtedeggjefnpjgaaDivB
namespace Go.Proofs.Ytedeggjefnpjgaa
open Go.RowKit

/-- a network whose memory is of known types -/
def NetO (w : World) (vp vm : Value) (ps : List Int) (ms : List Lt) : Prop := w.ownsRow 0 3 1 vp 2 (ps.map (Value.int .i64)) ∧ OwnLs w 0 vm ms
/-- a network and an error number are returned -/
def NtR (ps : List Int) (ms : List Lt) (w : World) (e : Ending) (w' : World) : Prop := ∃ vp vm, e = .returned (.tuple #[.agg #[vp, vm], .int .i64 0]) ∧ NetO w' vp vm ps ms ∧ Below w.heap.size w w'
theorem netV_of {w : World} {b1 b2 : Nat} {vp vm : Value} {ps : List Int} {ms : List Lt} (h1 : w.ownsRow b1 3 1 vp 2 (ps.map (Value.int .i64))) (h2 : OwnLs w b2 vm ms) : NetO w vp vm ps ms := ⟨own_mono h1 (Nat.zero_le _), h2.mono (Nat.zero_le _)⟩
theorem own_of_blk {w : World} {g n size : Nat} {e : TypeId} {cs : Array Value} (h : Blk w g e cs) (hs : cs.size = n * size) (hm : n ≤ maxLen) : w.ownsRow 0 e size (.slice (some ⟨g, 0, none⟩) n n) n cs.toList :=
  ⟨by simpa using hs, .inr ⟨g, n, cs, rfl, Nat.zero_le _, h, Nat.le_refl _, hm, hs, List.take_of_length_le (by rw [Array.length_toList, hs]; exact Nat.le_refl _)⟩⟩
theorem NetO.nam {w : World} {vp vm : Value} {ps : List Int} {ms : List Lt} (h : NetO w vp vm ps ms) : ∃ pA pc mA mn mc, vp = .slice pA 2 pc ∧ vm = .slice mA mn mc ∧ Hid (ms.length = mn) ∧ Ints w w.heap.size pA 2 ps ∧ Lts w w.heap.size mA mn ms := by
  obtain ⟨A, c, rfl, k1, k2, k3⟩ := own_open h.1
  obtain ⟨A', n', c', rfl, j0, j1, j2, j3⟩ := h.2.nam
  exact ⟨A, c, A', n', c', rfl, rfl, j0, k3, j3⟩
theorem NetO.now {w w' : World} {vp vm : Value} {ps : List Int} {ms : List Lt} (h : NetO w vp vm ps ms) (hb : Below w.heap.size w w') : NetO w' vp vm ps ms := ⟨own_below h.1 hb (Nat.le_refl _), h.2.now hb⟩
set_option maxRecDepth 100000 in
set_option maxHeartbeats 4000000 in
theorem split_any (pA : Option Addr) (pc : Nat) (mA : Option Addr) (mn mc : Nat) (qA : Option Addr) (qc : Nat) (ps qs : List Int) (ms : List Lt) (w : World) (hp : Ints w w.heap.size pA 2 ps) (hm : Lts w w.heap.size mA mn ms) (hn : mn ≤ 256) (hbl : ∀ m ∈ ms, m.bd.length ≤ 2000)
    (hq : Ints w w.heap.size qA 2 qs) (hqs : ∀ i, i < 2 → 0 ≤ qs.getD i 0 ∧ qs.getD i 0 ≤ 16) :
    Calls Try.prog 10 #[.agg #[.slice pA 2 pc, .slice mA mn mc], .slice qA 2 qc] w (NtR qs ms w) := by
  have HQ := Lib.hid hq
  have HPa : Hid (∀ W, Below w.heap.size w W → Calls Try.prog 28 #[.slice qA 2 qc] W (BoR true W)) := fun W h => parts_any qA qc qs W (hq.now h) hqs
  have HCo : Hid (∀ W, Below w.heap.size w W → Calls Try.prog 25 #[.agg #[.slice pA 2 pc, .slice mA mn mc]] W (CopR ps ms W)) := fun W h => ncopied_any pA pc mA mn mc ps ms W (hp.now h) (hm.now h) hn hbl
  have HCl : Hid (∀ W, Below w.heap.size w W → Calls Try.prog 29 #[.slice qA 2 qc] W fun e w' => ∃ v, e = .returned v ∧ w'.ownsRow W.heap.size 3 1 v 2 (qs.map (Value.int .i64)) ∧ Below W.heap.size W w') := fun W h => clone_i qA 2 qc W.heap.size qs W (hq.now h) (by omega) (Nat.le_refl _)
  have HFin : Hid (∀ vp vm w', NetO w' vp vm qs ms → Below w.heap.size w w' → NtR qs ms w (.returned (.tuple #[.agg #[vp, vm], .int .i64 0])) w') := fun vp vm w' h1 h2 => ⟨vp, vm, rfl, h1, h2⟩
  generalize NtR qs ms w = RR at *
  clear hp hm hbl hq hqs
  go_enter Try.func10, Try.ntmps10
  go_upto_region 1 with (fail)
  have hwz : (w.alloc (Obj.cells #[Value.slice pA 2 pc, Value.slice mA mn mc] 27)).heap.size = w.heap.size + 1 := by simp
  obtain ⟨w0, hw0⟩ : ∃ W, w.alloc (Obj.cells #[Value.slice pA 2 pc, Value.slice mA mn mc] 27) = W := ⟨_, rfl⟩
  rw [hw0] at hwz ⊢
  have HX0 : Hid (Blk w0 w.heap.size 27 #[.slice pA 2 pc, .slice mA mn mc]) := hide (by rw [← hw0]; exact Blk.new w _ _)
  have HB0 : Hid (Below w.heap.size w w0) := hide (by rw [← hw0]; exact below_new w _)
  obtain ⟨w1, hw1⟩ : ∃ W, w0.alloc (Obj.cells #[Value.slice none 0 0, Value.slice none 0 0] 27) = W := ⟨_, rfl⟩
  rw [hw1]
  have HY1 : Hid (Blk w1 (w.heap.size + 1) 27 #[.slice none 0 0, .slice none 0 0]) := hide (by rw [← hw1, ← hwz]; exact Blk.new w0 _ _)
  have hb1 : Below w0.heap.size w0 w1 := by rw [← hw1]; exact below_new w0 _
  have HX1 := Lib.hid (HX0.out.below hb1 (by omega))
  have HB1 := Lib.hid (HB0.out.trans (hb1.mono HB0.out.size))
  have hs1 : w.heap.size + 2 ≤ w1.heap.size := by have := HY1.out.lt; omega
  have n1 : w1.cell? ⟨w.heap.size, 0, none⟩ = some (.slice pA 2 pc) := HX1.out.cell 0
  clear hw0 hw1 hb1 hwz HX0 HB0
  go_wp2_with fail
  with_reducible refine (HPa.out w1 HB1.out).mono ?_
  rintro e w2 ⟨rfl, hb2⟩
  have HB2 := Lib.hid (HB1.out.trans (hb2.mono HB1.out.size))
  have HX2 := Lib.hid (HX1.out.below hb2 (by omega))
  have HY2 := Lib.hid (HY1.out.below hb2 (by omega))
  have hs2 : w.heap.size + 2 ≤ w2.heap.size := Nat.le_trans hs1 hb2.size
  clear hb2 HX1 HY1 HB1 n1 hs1
  go_wp2_with (refine wpList_load_blk rfl 27 (.tmp 2) rfl w.heap.size rfl _ _ HX2.out _ Try.underlying27 rfl (by kernel_rfl) ?_)
  with_reducible refine (HCo.out w2 HB2.out).mono ?_
  rintro e w3 ⟨vp, vm, rfl, hop, hom, hb3⟩
  have HB3 := Lib.hid (HB2.out.trans (hb3.mono HB2.out.size))
  have HY3 := Lib.hid (HY2.out.below hb3 (by omega))
  have hs3 : w.heap.size + 2 ≤ w3.heap.size := Nat.le_trans hs2 hb3.size
  have HOm := Lib.hid (hom.mono (show w.heap.size + 2 ≤ w2.heap.size from hs2))
  have hpo : vp.oneCell' = true := own_one hop
  have hmo : vm.oneCell' = true := own_one hom.choose_spec.2.1
  obtain ⟨A0, c0', rfl, _, _, _⟩ := own_open hop
  obtain ⟨Am, nm, cm, rfl, _, _, _, _⟩ := hom.nam
  clear hb3 HX2 HY2 HB2 hop hom
  go_upto_region 4 with (fail)
  have HBw4 := (Blk.new w3 27 #[.slice A0 2 c0', .slice Am nm cm])
  have HLw4 := (below_new w3 (.cells #[.slice A0 2 c0', .slice Am nm cm] 27))
  have hsw4 : (w3.alloc (.cells #[.slice A0 2 c0', .slice Am nm cm] 27)).heap.size = w3.heap.size + 1 := by simp
  generalize w3.alloc (.cells #[.slice A0 2 c0', .slice Am nm cm] 27) = w4 at HBw4 HLw4 hsw4 ⊢
  replace HBw4 := Lib.hid HBw4
  replace HLw4 := Lib.hid HLw4
  have hlw4 : w3.heap.size < w4.heap.size := by omega
  replace hsw4 := Lib.hid hsw4
  have HX4 := HBw4
  have hx4 := hlw4
  have HB4 : Hid (Below w.heap.size w w4) := hide (HB3.out.trans (HLw4.out.mono HB3.out.size))
  have HY4 := Lib.hid (HY3.out.below HLw4.out (by omega))
  have HL4 := HLw4
  clear HBw4 HLw4 hsw4 hlw4 HY3
  go_wp2_with fail
  with_reducible refine (HCl.out w4 HB4.out).mono ?_
  rintro e w5 ⟨vq, rfl, hoq, hb5⟩
  have HL5 : Hid (Below w3.heap.size w3 w5) := hide (HL4.out.trans (hb5.mono HL4.out.size))
  have HX5 := Lib.hid (HX4.out.below hb5 hx4)
  have HY5 := Lib.hid (HY4.out.below hb5 (by omega))
  have hne : vq.ownBlock ≠ some w3.heap.size := fun e => by
    have := (hoq.lt _ e).1
    omega
  have HOq := Lib.hid (own_mono hoq (show w.heap.size + 2 ≤ w4.heap.size by omega))
  obtain ⟨Aq, cq, rfl, _, _, _⟩ := own_open hoq
  have hx5 : w3.heap.size < w5.heap.size := Nat.lt_of_lt_of_le hx4 hb5.size
  clear hb5 hoq HX4 HY4 HL4
  go_wp2_with
    (first
     | (refine wpList_store_field 24 (.tmp 23) (.tmp 22) rfl rfl w3.heap.size 0 (.slice Aq 2 cq) rfl rfl 27 _ HX5.out (by kernel_rfl) (by simp) rfl rfl ?_
        intro w6 hx6 hon6
        have HX6 : Hid (Blk w6 w3.heap.size 27 #[.slice Aq 2 cq, .slice Am nm cm]) := hide hx6
        have HL6 : Hid (Below w3.heap.size w3 w6) := hide (hon6.below HL5.out (Nat.le_refl _))
        have HY6 := Lib.hid (hon6.blk HY5.out (by omega))
        have HOq6 := Lib.hid (hon6.own HOq.out hne)
        clear hx6 hon6)
     | (refine wpList_load_blk rfl 27 (.tmp 6) rfl w3.heap.size rfl _ _ HX6.out _ Try.underlying27 rfl (by kernel_rfl) ?_)
     | (refine wpList_store_blk rfl 27 (.tmp 4) (.tmp 24) rfl (w.heap.size + 1) #[.slice Aq 2 cq, .slice Am nm cm] rfl rfl _ _ HY6.out (by kernel_rfl) rfl (by simp [Value.oneCell']) ?_
        intro w7 hx7 hon7
        have HX7 := Lib.hid hx7
        have HN7 : Hid (NetO w7 (.slice Aq 2 cq) (.slice Am nm cm) qs ms) := hide (by
          have hq7 := hon7.own HOq6.out (fun e => by
            have := (HOq6.out.lt _ e).1
            omega)
          have hm7 := (HOm.out.now HL6.out).only hon7 (by omega)
          exact netV_of hq7 hm7)
        have HB7 : Hid (Below w.heap.size w w7) := hide (hon7.below (HB3.out.trans (HL6.out.mono HB3.out.size)) (by omega))
        clear hx7 hon7))
  refine bodyPost_ret (results_cell_row_tmp rfl _ _ (w.heap.size + 1) 27 _ _ _ rfl rfl HX7.out Try.underlying27 rfl (by kernel_rfl)) rfl ?_
  exact HFin.out _ _ _ HN7.out HB7.out
end Go.Proofs.Ytedeggjefnpjgaa
