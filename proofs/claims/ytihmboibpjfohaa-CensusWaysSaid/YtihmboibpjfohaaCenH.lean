/-
  The step of search (a closure), walked.
-/
import Derived.Test.YtihmboibpjfohaaCenG
namespace Go.Proofs.Ytihmboibpjfohaa
open Go.RowKit

def StepR (p : Pl) (es : List Ed) (f : List Int) (A : Option Addr) (n c : Nat) (F : Option Addr) (c2 : Nat) (w : World) (g : Int → Option Mv) (q : List Int) (nm : Nat) (x : Int) (m : Mv) (e : Ending) (w' : World) : Prop :=
  e = .returned (.tuple #[]) ∧ Below p.lo w w' ∧ Keep p w w' ∧ ((g x = none ∧ 0 < roomN es f m ∧ St p es f A n c F c2 w' (putF g x m) (q ++ [x]) (nm + 1)) ∨ (¬ (g x = none ∧ 0 < roomN es f m) ∧ St p es f A n c F c2 w' g q nm))

set_option maxRecDepth 100000 in
set_option maxHeartbeats 4000000 in
theorem step_any (p : Pl) (n c c2 nm : Nat) (es : List Ed) (f : List Int) (A F : Option Addr) (w : World) (g : Int → Option Mv) (q : List Int) (x : Int) (m : Mv) (hS : St p es f A n c F c2 w g q nm) (hl : es.length = n) (hc : n ≤ c) (hc2 : c ≤ maxLen) (hd : n ≤ c2) (hd2 : c2 ≤ maxLen)
    (hB : Bnd es f) (hm : m.edge < n) (hx : (Lit.int .i64 x).wf = true) (hn : nm < 1000000) (hq : q.length ≤ 1000000) :
    Calls Try.prog 65 #[.int .i64 x, enM m, .pointer (some ⟨p.gm, 0, none⟩), .pointer (some ⟨p.gl, 0, none⟩), .pointer (some ⟨p.gf, 0, none⟩), .pointer (some ⟨p.go, 0, none⟩)] w (StepR p es f A n c F c2 w g q nm x m) := by
  have HRm : Hid (∀ W : World, St p es f A n c F c2 W g q nm → Calls Try.prog 57 #[.slice A n c, .slice F n c2, enM m] W fun e w' => e = .returned (.int .i64 (roomN es f m)) ∧ Below W.heap.size W w') := fun W h => room_any A F n c c2 es f m W (h.rl.more h.low) hl hc hc2 (h.rf.more h.low) hd hd2 hB hm
  have HS := Lib.hid hS
  have HX := Lib.hid hx
  have hlow := hS.low
  obtain ⟨k, fw⟩ := m
  have HMe : Hid (enM ⟨k, fw⟩ = .agg #[.int .i64 (k : Int), .bool fw]) := hide rfl
  generalize hrm : roomN es f ⟨k, fw⟩ = rm at *
  clear hS hx hB
  rw [HMe.out] at HRm ⊢
  have HF : Hid (∀ (e : Ending) (w' : World), e = .returned (.tuple #[]) → Below p.lo w w' → Keep p w w' → ((g x = none ∧ 0 < rm ∧ St p es f A n c F c2 w' (putF g x ⟨k, fw⟩) (q ++ [x]) (nm + 1)) ∨ (¬ (g x = none ∧ 0 < rm) ∧ St p es f A n c F c2 w' g q nm)) → StepR p es f A n c F c2 w g q nm x ⟨k, fw⟩ e w') := fun e w' h1 h2 h4 h3 => ⟨h1, h2, h4, by rw [hrm]; exact h3⟩
  generalize StepR p es f A n c F c2 w g q nm x ⟨k, fw⟩ = RR at *
  clear hrm
  go_enter Try.func65, Try.ntmps65
  go_upto_region 1 with (fail)
  have HBw0 := (Blk.new w 85 #[.int .i64 (k : Int), .bool fw])
  have HLw0 := (below_new w (.cells #[.int .i64 (k : Int), .bool fw] 85))
  have hsw0 : (w.alloc (.cells #[.int .i64 (k : Int), .bool fw] 85)).heap.size = w.heap.size + 1 := by simp
  generalize w.alloc (.cells #[.int .i64 (k : Int), .bool fw] 85) = w0 at HBw0 HLw0 hsw0 ⊢
  replace HBw0 := Lib.hid HBw0
  replace HLw0 := Lib.hid HLw0
  have hlw0 : w.heap.size < w0.heap.size := by omega
  replace hsw0 := Lib.hid hsw0
  have HS0 := Lib.hid (HS.out.now HLw0.out)
  obtain ⟨m0, hm0⟩ : ∃ m0, (g x).getD ⟨0, false⟩ = m0 := ⟨_, rfl⟩
  obtain ⟨k0, fw0⟩ := m0
  have hlook : (Instr.lookup 82 (.map (some p.b)) (.int .i64 x) true).run Try.prog w0 = .ok (.tuple #[.agg #[.int .i64 (k0 : Int), .bool fw0], .bool (g x).isSome]) w0 := by
    have h := HS0.out.mp.look enM_inj keyed_int Try.underlying82 (zero_move w0) Try.underlying3 HX.out
    rw [hm0] at h
    exact h
  have cm : w0.cell? ⟨p.gm, 0, none⟩ = some (.map (some p.b)) := HS0.out.bm.cell 0
  obtain ⟨is, his⟩ : ∃ b, (g x).isSome = b := ⟨_, rfl⟩
  rw [his] at hlook
  have HIs := Lib.hid his
  clear hm0 his
  go_upto_region 2 with (fail)
  have HBw1 := (Blk.new w0 85 #[.int .i64 (k0 : Int), .bool fw0])
  have HLw1 := (below_new w0 (.cells #[.int .i64 (k0 : Int), .bool fw0] 85))
  have hsw1 : (w0.alloc (.cells #[.int .i64 (k0 : Int), .bool fw0] 85)).heap.size = w0.heap.size + 1 := by simp
  generalize w0.alloc (.cells #[.int .i64 (k0 : Int), .bool fw0] 85) = w1 at HBw1 HLw1 hsw1 ⊢
  replace HBw1 := Lib.hid HBw1
  replace HLw1 := Lib.hid HLw1
  have hlw1 : w0.heap.size < w1.heap.size := by omega
  replace hsw1 := Lib.hid hsw1
  have HS1 := Lib.hid (HS0.out.now HLw1.out)
  have HB1 : Hid (Below w.heap.size w w1) := hide (HLw0.out.trans (HLw1.out.mono HLw0.out.size))
  have HX1 := Lib.hid (HBw0.out.below HLw1.out hlw0)
  have hl1 : w.heap.size < w1.heap.size := HX1.out.lt
  clear cm hlook HBw0 HLw0 hsw0 hlw0 HBw1 HLw1 hsw1 hlw1
  cases is with
  | true =>
    have HG : Hid (g x ≠ none) := fun h => by have := HIs.out; rw [h] at this; cases this
    go_wp2_with fail
    refine bodyPost_ret (results_none rfl _ _ _) rfl ?_
    exact HF.out _ _ rfl (HB1.out.mono hlow) (Keep.of_below HB1.out) (.inr ⟨fun h => HG.out h.1, HS1.out⟩)
  | false =>
    have HG : Hid (g x = none) := by
      show _ = _
      cases hg : g x with
      | none => rfl
      | some y => have := HIs.out; rw [hg] at this; cases this
    have cl : w1.cell? ⟨p.gl, 0, none⟩ = some (.slice A n c) := HS1.out.bl.cell 0
    have cf : w1.cell? ⟨p.gf, 0, none⟩ = some (.slice F n c2) := HS1.out.bf.cell 0
    go_wp2_with (refine wpList_load_g 85 (.tmp 7) rfl rfl w.heap.size rfl _ _ HX1.out _ Try.underlying85 rfl (by kernel_rfl) ?_)
    with_reducible refine (HRm.out _ HS1.out).mono ?_
    rintro e w2 ⟨rfl, hb2⟩
    have HS2 := Lib.hid (HS1.out.now hb2)
    have HB2 := Lib.hid (HB1.out.trans (hb2.mono HB1.out.size))
    have HX2 := Lib.hid (HX1.out.below hb2 hl1)
    clear hb2 cl cf
    by_cases hr : 0 < rm
    · have dr : decide (rm > 0) = true := decide_eq_true hr
      have cm2 : w2.cell? ⟨p.gm, 0, none⟩ = some (.map (some p.b)) := HS2.out.bm.cell 0
      go_wp2_with (first
        | (refine wpList_load_g 85 (.tmp 7) rfl rfl w.heap.size rfl _ _ HX2.out _ Try.underlying85 rfl (by kernel_rfl) ?_)
        | (at_mapUpdate
           refine wpList_mput enM_inj HS2.out.mp rfl (.tmp 25) (.tmp 26) (.tmp 27) 82 (.inl rfl) keyed_int Try.underlying82 Try.underlying3 (by simp only [maxLen]; omega) HX.out ⟨k, fw⟩ rfl rfl rfl ?_
           intro w3 hm3 hg3
           obtain ⟨hs3, hb3, hk3⟩ := HS2.out.put hm3 hg3
           have HK3 := Lib.hid ((Keep.of_below HB2.out).trans hk3)
           have HS3 := Lib.hid hs3
           have HB3 : Hid (Below p.lo w w3) := hide ((HB2.out.mono hlow).trans hb3)
           obtain ⟨vq, hbq, hoq⟩ := HS3.out.bo
           have HBq := Lib.hid hbq
           have HOq := Lib.hid hoq
           have cq : w3.cell? ⟨p.go, 0, none⟩ = some vq := hbq.cell 0
           obtain ⟨gq, pq, cq2, hq1, hq2, hq3⟩ := hoq.shape
           subst hq1
           have HO3 : Hid (OwnQ (w3.alloc (.cells #[.int .i64 x] 3)) p.lo 3 (.slice (some ⟨gq, pq, none⟩) q.length cq2) q.length (q.map (Value.int .i64))) := hide (HOq.out.below (below_new w3 _) (Nat.le_refl _))
           clear hm3 hg3 hbq hoq cm2 hs3 hb3 hk3)
        | (at_builtin
           refine wpList_push rfl (.tmp 28) (.tmp 30) rfl HO3.out Try.underlying42 ei_int hq (Blk.new w3 3 #[.int .i64 x]) rfl (by have := HS3.out.low; simp; omega) rfl rfl ?_
           intro v5 w5 hq5 hg5
           obtain ⟨HP1, HP2, HP3, HP4⟩ := HS3.out.pushed (below_new w3 (.cells #[.int .i64 x] 3)) HBq.out HOq.out rfl hg5 hq5
           have c5 : w5.cell? ⟨p.go, 0, none⟩ = some (.slice (some ⟨gq, pq, none⟩) q.length cq2) := HP3.cell 0
           have f5 : w5.frozen? ⟨p.go, 0, none⟩ = false := HP3.frozen 0
           obtain ⟨g5, p5, cq5, h51, h52, h53⟩ := hq5.shape
           subst h51
           have HPs := Lib.hid HP1
           have HPb := Lib.hid (HB3.out.trans HP2)
           have HPk := Lib.hid (HK3.out.trans HP4)
           clear hq5 hg5 HP1 HP2 HP3 HP4))
      refine bodyPost_ret (results_none rfl _ _ _) rfl ?_
      exact HF.out _ _ rfl HPb.out HPk.out (.inl ⟨HG.out, hr, HPs.out⟩)
    · have dr : decide (rm > 0) = false := decide_eq_false hr
      go_wp2_with fail
      refine bodyPost_ret (results_none rfl _ _ _) rfl ?_
      exact HF.out _ _ rfl (HB2.out.mono hlow) (Keep.of_below HB2.out) (.inr ⟨fun h => by have := h.2; omega, HS2.out⟩)
end Go.Proofs.Ytihmboibpjfohaa
