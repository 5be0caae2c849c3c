/-
  find, clash and fits of route, and the slices functions that they call, walked.
-/
import Derived.Test.YtbegehooefhiiaaRouV
import Derived.Test.YtbegehooefhiiaaHasR
import Derived.Test.YtbegehooefhiiaaStr
namespace Go.Proofs.Ytbegehooefhiiaa
open Go.RowKit

theorem idxF_step {f : Int → Bool} {l : List Int} {k : Nat} (h : k < l.length) : idxF f (l.drop k) k = if f (l.getD k 0) = true then (k : Int) else idxF f (l.drop (k + 1)) (k + 1) := by
  rw [drop_at l k h, idxF]
set_option maxRecDepth 100000 in
theorem rfind1_any (t : Tk) (z : Value) (g : Nat) (x : Int) (w : World) (hg : Blk w g 3 #[.int .i64 x]) :
    Calls Try.prog 26 #[.agg #[.int .i64 t.run, .int .i64 t.sec, .bool t.win, z], .pointer (some ⟨g, 0, none⟩)] w fun e w' => e = .returned (.bool (t.run == x)) ∧ Below w.heap.size w w' := by
  have HG := Lib.hid hg
  obtain ⟨run, sec, win, cl⟩ := t
  simp only
  clear hg
  go_enter Try.func26, Try.ntmps26
  go_upto_region 1 with (fail)
  have HBw0 := (Blk.new w 34 #[.int .i64 run, .int .i64 sec, .bool win, z])
  have HLw0 := (below_new w (.cells #[.int .i64 run, .int .i64 sec, .bool win, z] 34))
  have hsw0 : (w.alloc (.cells #[.int .i64 run, .int .i64 sec, .bool win, z] 34)).heap.size = w.heap.size + 1 := by simp
  generalize w.alloc (.cells #[.int .i64 run, .int .i64 sec, .bool win, z] 34) = w0 at HBw0 HLw0 hsw0 ⊢
  replace HBw0 := Lib.hid HBw0
  replace HLw0 := Lib.hid HLw0
  have hlw0 : w.heap.size < w0.heap.size := by omega
  replace hsw0 := Lib.hid hsw0
  have c0 : w0.cell? ⟨w.heap.size, 0, none⟩ = some (.int .i64 run) := HBw0.out.cell 0
  have cg : w0.cell? ⟨g, 0, none⟩ = some (.int .i64 x) := (HG.out.below HLw0.out HG.out.lt).cell 0
  have HB := Lib.hid HLw0.out
  clear HBw0 HLw0 hsw0 hlw0
  go_wp2_with fail
  go_ret
  exact ⟨rfl, HB.out⟩

set_option maxRecDepth 100000 in
set_option maxHeartbeats 4000000 in
theorem tidx_any (A : Option Addr) (n c g : Nat) (l : List Tk) (x : Int) (w : World) (hr : Tks w w.heap.size A n l) (hn : n ≤ 10000) (hg : Blk w g 3 #[.int .i64 x]) :
    Calls Try.prog 25 #[.slice A n c, .func (.func 26) #[] #[.pointer (some ⟨g, 0, none⟩)]] w fun e w' => e = .returned (.int .i64 (indI (runsT l) x)) ∧ Below w.heap.size w w' := by
  have HR := Lib.hid hr
  have HL := Lib.hid hr.len
  have HRl : Hid ((runsT l).length = n) := hide (by unfold runsT; rw [List.length_map]; exact hr.len)
  have HRa : Hid (∀ k, k < n → (runsT l).getD k 0 = (l.getD k tk0).run) := fun k hk => run_at (by rw [HL.out]; exact hk)
  have HC : Hid (∀ (W : World) (t : Tk) (z : Value), Below w.heap.size w W → Calls Try.prog 26 #[.agg #[.int .i64 t.run, .int .i64 t.sec, .bool t.win, z], .pointer (some ⟨g, 0, none⟩)] W fun e w' => e = .returned (.bool (t.run == x)) ∧ Below W.heap.size W w') := fun W t z hb => rfind1_any t z g x W (hg.below hb hg.lt)
  obtain ⟨R, hR⟩ : ∃ R, indI (runsT l) x = R := ⟨_, rfl⟩
  have HF0 : Hid (idxF (fun y => y == x) ((runsT l).drop 0) 0 = R) := hide (by rw [List.drop_zero]; exact hR)
  have HEnd : Hid (idxF (fun y => y == x) ((runsT l).drop n) n = -1) := hide (by rw [List.drop_of_length_le (by rw [HRl.out]; exact Nat.le_refl _)]; rfl)
  rw [hR]
  clear hr hg hR
  go_enter Try.func25, Try.ntmps25
  go_wp2_with fail
  go_loopw [8] (fun i wr => ∃ k : Nat, k ≤ n ∧ i = .int .i64 k ∧ idxF (fun y => y == x) ((runsT l).drop k) k = R ∧ Below w.heap.size w wr) (fun i _ => n - (intOf i).toNat)
  case atStart => exact ⟨0, by omega, rfl, HF0.out, Below.refl _ _⟩
  case round =>
    obtain ⟨k, hk, rfl, hF, hbr⟩ := hrel
    obtain ⟨wo, rfl⟩ : ∃ wo : World, wo = wr := ⟨_, rfl⟩
    have HF := Lib.hid hF
    have HB := Lib.hid hbr
    clear hF hbr
    by_cases hlt : k < n
    · obtain ⟨ad, z, rfl, hab, hcl, _⟩ := (HR.out.below HB.out).at_ hlt
      have hf1 := HF.out.symm.trans (idxF_step (f := fun y => y == x) (show k < (runsT l).length by rw [HRl.out]; exact hlt))
      rw [HRa.out k hlt] at hf1
      have HF1 := Lib.hid hf1.symm
      generalize l.getD k tk0 = t at *
      have HC1 := Lib.hid (HC.out wo t z HB.out)
      obtain ⟨run, sec, win, cl⟩ := t
      have HCl : Hid (∀ i u, ([.int .i64 run, .int .i64 sec, .bool win, z] : List Value)[i]? = some u → wo.cell? ((ad.add (k * 4)).add i) = some u) := hcl
      simp only at HC1 HF1
      obtain ⟨hit, hhit⟩ : ∃ b, (run == x) = b := ⟨_, rfl⟩
      rw [hhit] at HF1 HC1
      clear hcl hf1 hhit
      go_wp2_with (refine wpList_load_at 34 (.tmp 14) rfl rfl (ad.add (k * 4)) rfl [.int .i64 run, .int .i64 sec, .bool win, z] HCl.out _ Try.underlying34 rfl (by kernel_rfl) ?_)
      with_reducible refine HC1.out.mono ?_
      rintro e w1 ⟨rfl, hb1⟩
      have HB1 := Lib.hid (HB.out.trans (hb1.mono HB.out.size))
      clear hb1
      cases hit with
      | true =>
        have HR2 : Hid ((k : Int) = R) := by have h := HF1.out; rw [if_pos rfl] at h; exact h
        go_wp2_with fail
        go_ret
        exact ⟨ret_i HR2.out, HB1.out⟩
      | false =>
        have HR2 : Hid (idxF (fun y => y == x) ((runsT l).drop (k + 1)) (k + 1) = R) := by have h := HF1.out; rw [if_neg (by decide)] at h; exact h
        go_wp2_with fail
        go_roundw
        case rel => exact ⟨k + 1, by omega, by go_num, HR2.out, HB1.out⟩
        case measure => simp [intOf]; omega
    · obtain rfl : k = n := by omega
      have HR2 : Hid ((-1 : Int) = R) := hide (HEnd.out.symm.trans HF.out)
      go_wp2_with fail
      go_ret
      exact ⟨ret_i HR2.out, HB.out⟩

set_option maxRecDepth 100000 in
theorem rfind_any (A : Option Addr) (n c : Nat) (l : List Tk) (x : Int) (w : World) (hr : Tks w w.heap.size A n l) (hn : n ≤ 10000) :
    Calls Try.prog 15 #[.slice A n c, .int .i64 x] w fun e w' => e = .returned (.int .i64 (indI (runsT l) x)) ∧ Below w.heap.size w w' := by
  have hmf : ∀ (fn : Fn) (first cap : Array Value) (w : World), (Instr.makeFunc fn first cap).run Try.prog w = .ok (.func fn first cap) w := fun _ _ _ _ => rfl
  have HR := Lib.hid hr
  obtain ⟨R, hR⟩ : ∃ R, indI (runsT l) x = R := ⟨_, rfl⟩
  have HC : Hid (∀ (W : World) (g : Nat), Below w.heap.size w W → Blk W g 3 #[.int .i64 x] → Calls Try.prog 25 #[.slice A n c, .func (.func 26) #[] #[.pointer (some ⟨g, 0, none⟩)]] W fun e w' => e = .returned (.int .i64 R) ∧ Below W.heap.size W w') := fun W g hb hg => by
    rw [← hR]
    exact tidx_any A n c g l x W (HR.out.now hb) hn hg
  rw [hR]
  clear hr hR
  go_enter Try.func15, Try.ntmps15
  go_upto_region 1 with (fail)
  have HBw0 := (Blk.new w 3 #[.int .i64 x])
  have HLw0 := (below_new w (.cells #[.int .i64 x] 3))
  have hsw0 : (w.alloc (.cells #[.int .i64 x] 3)).heap.size = w.heap.size + 1 := by simp
  generalize w.alloc (.cells #[.int .i64 x] 3) = w0 at HBw0 HLw0 hsw0 ⊢
  replace HBw0 := Lib.hid HBw0
  replace HLw0 := Lib.hid HLw0
  have hlw0 : w.heap.size < w0.heap.size := by omega
  replace hsw0 := Lib.hid hsw0
  go_wp2_with fail
  with_reducible refine (HC.out w0 w.heap.size HLw0.out HBw0.out).mono ?_
  rintro e w1 ⟨rfl, hb1⟩
  have HB1 := Lib.hid (HLw0.out.trans (hb1.mono HLw0.out.size))
  clear hb1
  go_wp2_with fail
  go_ret
  exact ⟨rfl, HB1.out⟩

set_option maxRecDepth 100000 in
set_option maxHeartbeats 4000000 in
theorem rclash_any (a b : Tk) (va vb : Value) (w : World) (ha : TkV w w.heap.size va a) (hb : TkV w w.heap.size vb b) (hla : a.cl.length ≤ 1000) (hlb : b.cl.length ≤ 1000) :
    Calls Try.prog 13 #[va, vb] w fun e w' => e = .returned (.bool (clashT a b)) ∧ Below w.heap.size w w' := by
  obtain ⟨za, rfl, hza⟩ := ha
  obtain ⟨zb, rfl, hzb⟩ := hb
  obtain ⟨ra, sa, wa, ca⟩ := a
  obtain ⟨rb, sb, wb_, cb⟩ := b
  simp only at hza hzb hla hlb ⊢
  obtain ⟨A1, n1, c1, rfl, HL1, _, _, hr1⟩ := hza.nam
  obtain ⟨A2, n2, c2, rfl, HL2, _, _, hr2⟩ := hzb.nam
  rw [HL1.out] at hla
  rw [HL2.out] at hlb
  have HR1 := Lib.hid hr1
  have HR2 := Lib.hid hr2
  obtain ⟨b1, hb1⟩ : ∃ x, ca.contains rb = x := ⟨_, rfl⟩
  obtain ⟨b2, hb2⟩ : ∃ x, cb.contains ra = x := ⟨_, rfl⟩
  have HE : Hid (clashT ⟨ra, sa, wa, ca⟩ ⟨rb, sb, wb_, cb⟩ = (b1 || b2)) := hide (by unfold clashT; rw [hb1, hb2])
  have HC1 := Lib.hid hb1
  have HC2 := Lib.hid hb2
  clear hza hzb hr1 hr2 hb1 hb2
  rw [HE.out]
  clear HE
  go_enter Try.func13, Try.ntmps13
  go_upto_region 1 with (fail)
  have HBw0 := (Blk.new w 34 #[.int .i64 ra, .int .i64 sa, .bool wa, .slice A1 n1 c1])
  have HLw0 := (below_new w (.cells #[.int .i64 ra, .int .i64 sa, .bool wa, .slice A1 n1 c1] 34))
  have hsw0 : (w.alloc (.cells #[.int .i64 ra, .int .i64 sa, .bool wa, .slice A1 n1 c1] 34)).heap.size = w.heap.size + 1 := by simp
  generalize w.alloc (.cells #[.int .i64 ra, .int .i64 sa, .bool wa, .slice A1 n1 c1] 34) = w0 at HBw0 HLw0 hsw0 ⊢
  replace HBw0 := Lib.hid HBw0
  replace HLw0 := Lib.hid HLw0
  have hlw0 : w.heap.size < w0.heap.size := by omega
  replace hsw0 := Lib.hid hsw0
  have HBw1 := (Blk.new w0 34 #[.int .i64 rb, .int .i64 sb, .bool wb_, .slice A2 n2 c2])
  have HLw1 := (below_new w0 (.cells #[.int .i64 rb, .int .i64 sb, .bool wb_, .slice A2 n2 c2] 34))
  have hsw1 : (w0.alloc (.cells #[.int .i64 rb, .int .i64 sb, .bool wb_, .slice A2 n2 c2] 34)).heap.size = w0.heap.size + 1 := by simp
  generalize w0.alloc (.cells #[.int .i64 rb, .int .i64 sb, .bool wb_, .slice A2 n2 c2] 34) = w1 at HBw1 HLw1 hsw1 ⊢
  replace HBw1 := Lib.hid HBw1
  replace HLw1 := Lib.hid HLw1
  have hlw1 : w0.heap.size < w1.heap.size := by omega
  replace hsw1 := Lib.hid hsw1
  have HB := Lib.hid (HLw0.out.trans (HLw1.out.mono HLw0.out.size))
  have hx0 : Blk w1 w.heap.size 34 #[.int .i64 ra, .int .i64 sa, .bool wa, .slice A1 n1 c1] := HBw0.out.below HLw1.out hlw0
  have hx1 : Blk w1 (w.heap.size + 1) 34 #[.int .i64 rb, .int .i64 sb, .bool wb_, .slice A2 n2 c2] := by have h := HBw1.out; rw [hsw0.out] at h; exact h
  have HX0 := Lib.hid hx0
  have HX1 := Lib.hid hx1
  have HR1' := Lib.hid (HR1.out.now HB.out)
  have HR2' := Lib.hid (HR2.out.now HB.out)
  clear HBw0 HLw0 hsw0 hlw0 HBw1 HLw1 hsw1 hlw1 hx0 hx1
  have c00 : w1.cell? ⟨w.heap.size, 0, none⟩ = some (.int .i64 ra) := HX0.out.cell 0
  have c03 : w1.cell? ⟨w.heap.size, 3, none⟩ = some (.slice A1 n1 c1) := HX0.out.cell 3
  have c10 : w1.cell? ⟨w.heap.size + 1, 0, none⟩ = some (.int .i64 rb) := HX1.out.cell 0
  have c13 : w1.cell? ⟨w.heap.size + 1, 3, none⟩ = some (.slice A2 n2 c2) := HX1.out.cell 3
  go_wp2_with fail
  with_reducible refine (contains_any A1 n1 c1 w1.heap.size ca rb b1 w1 HR1'.out (by simp only [maxLen]; omega) HC1.out).mono ?_
  rintro e w' ⟨rfl, rfl⟩
  cases b1 with
  | true =>
    go_wp2_with fail
    go_ret
    exact ⟨rfl, HB.out⟩
  | false =>
    go_wp2_with fail
    with_reducible refine (contains_any A2 n2 c2 w1.heap.size cb ra b2 w1 HR2'.out (by simp only [maxLen]; omega) HC2.out).mono ?_
    rintro e w' ⟨rfl, rfl⟩
    go_wp2_with fail
    go_ret
    exact ⟨rfl, HB.out⟩

/-- a test, and what it says -/
def IffR (p : Prop) (w : World) (e : Ending) (w' : World) : Prop := ∃ b : Bool, e = .returned (.bool b) ∧ (b = true ↔ p) ∧ Below w.heap.size w w'
theorem iffR_no {p : Prop} {w w' : World} (h : ¬ p) (hb : Below w.heap.size w w') : IffR p w (.returned (.bool false)) w' := ⟨false, rfl, ⟨(fun e => by cases e), fun e => absurd e h⟩, hb⟩
theorem iffR_yes {p : Prop} {w w' : World} (h : p) (hb : Below w.heap.size w w') : IffR p w (.returned (.bool true)) w' := ⟨true, rfl, ⟨fun _ => h, fun _ => rfl⟩, hb⟩
set_option maxRecDepth 100000 in
set_option maxHeartbeats 8000000 in
theorem fits_any (a : Tk) (va : Value) (A : Option Addr) (n c : Nat) (ws : List Bool) (s : Sh) (w : World) (hw : Bools w w.heap.size A n ws) (hn : n ≤ 1000) (ha : ∃ z, va = .agg #[.int .i64 a.run, .int .i64 a.sec, .bool a.win, z]) (hs : -9223372036854775808 ≤ s.tt ∧ s.tt ≤ 9223372036854775807) :
    Calls Try.prog 16 #[va, .slice A n c, .agg #[.int .i64 s.g, .int .i64 s.run, .int .i64 s.fr, .int .i64 s.tt]] w (IffR (fitsP a ws s) w) := by
  obtain ⟨z, rfl⟩ := ha
  obtain ⟨ra, sa, wa, ca⟩ := a
  obtain ⟨g, run, fr, tt⟩ := s
  simp only at hs ⊢
  have HW := Lib.hid hw
  have HWl := Lib.hid hw.boolen
  have HP : Hid (fitsP ⟨ra, sa, wa, ca⟩ ws ⟨g, run, fr, tt⟩ ↔ (1 ≤ g ∧ g ≤ (n : Int) ∧ (wa = true → ws.getD (g - 1).toNat false = true) ∧ 0 ≤ fr ∧ fr ≤ tt ∧ tt - fr = sa)) := hide (by unfold fitsP; rw [HWl.out])
  generalize fitsP ⟨ra, sa, wa, ca⟩ ws ⟨g, run, fr, tt⟩ = P at *
  have HNo : Hid (∀ w', Below w.heap.size w w' → ¬ P → IffR P w (.returned (.bool false)) w') := fun w' h h2 => iffR_no h2 h
  have HYes : Hid (∀ w', Below w.heap.size w w' → P → IffR P w (.returned (.bool true)) w') := fun w' h h2 => iffR_yes h2 h
  generalize IffR P w = RR at *
  clear hw
  go_enter Try.func16, Try.ntmps16
  go_upto_region 1 with (fail)
  have HBw0 := (Blk.new w 34 #[.int .i64 ra, .int .i64 sa, .bool wa, z])
  have HLw0 := (below_new w (.cells #[.int .i64 ra, .int .i64 sa, .bool wa, z] 34))
  have hsw0 : (w.alloc (.cells #[.int .i64 ra, .int .i64 sa, .bool wa, z] 34)).heap.size = w.heap.size + 1 := by simp
  generalize w.alloc (.cells #[.int .i64 ra, .int .i64 sa, .bool wa, z] 34) = w0 at HBw0 HLw0 hsw0 ⊢
  replace HBw0 := Lib.hid HBw0
  replace HLw0 := Lib.hid HLw0
  have hlw0 : w.heap.size < w0.heap.size := by omega
  replace hsw0 := Lib.hid hsw0
  have HBw1 := (Blk.new w0 50 #[.int .i64 g, .int .i64 run, .int .i64 fr, .int .i64 tt])
  have HLw1 := (below_new w0 (.cells #[.int .i64 g, .int .i64 run, .int .i64 fr, .int .i64 tt] 50))
  have hsw1 : (w0.alloc (.cells #[.int .i64 g, .int .i64 run, .int .i64 fr, .int .i64 tt] 50)).heap.size = w0.heap.size + 1 := by simp
  generalize w0.alloc (.cells #[.int .i64 g, .int .i64 run, .int .i64 fr, .int .i64 tt] 50) = w1 at HBw1 HLw1 hsw1 ⊢
  replace HBw1 := Lib.hid HBw1
  replace HLw1 := Lib.hid HLw1
  have hlw1 : w0.heap.size < w1.heap.size := by omega
  replace hsw1 := Lib.hid hsw1
  have HB := Lib.hid (HLw0.out.trans (HLw1.out.mono HLw0.out.size))
  have hx0 : Blk w1 w.heap.size 34 #[.int .i64 ra, .int .i64 sa, .bool wa, z] := HBw0.out.below HLw1.out hlw0
  have hx1 : Blk w1 (w.heap.size + 1) 50 #[.int .i64 g, .int .i64 run, .int .i64 fr, .int .i64 tt] := by have h := HBw1.out; rw [hsw0.out] at h; exact h
  have HW1 := Lib.hid (HW.out.now HB.out)
  have c1 : w1.cell? ⟨w.heap.size, 1, none⟩ = some (.int .i64 sa) := hx0.cell 1
  have c2 : w1.cell? ⟨w.heap.size, 2, none⟩ = some (.bool wa) := hx0.cell 2
  have s0 : w1.cell? ⟨w.heap.size + 1, 0, none⟩ = some (.int .i64 g) := hx1.cell 0
  have s2 : w1.cell? ⟨w.heap.size + 1, 2, none⟩ = some (.int .i64 fr) := hx1.cell 2
  have s3 : w1.cell? ⟨w.heap.size + 1, 3, none⟩ = some (.int .i64 tt) := hx1.cell 3
  clear HBw0 HLw0 hsw0 hlw0 HBw1 HLw1 hsw1 hlw1 hx0 hx1
  by_cases h1 : g < 1
  · have d1 : decide (g < 1) = true := decide_eq_true h1
    have HN : Hid (¬ P) := hide (fun h => by have := HP.out.1 h; omega)
    go_wp2_with fail
    try go_ret
    exact HNo.out _ HB.out HN.out
  have d1 : decide (g < 1) = false := decide_eq_false h1
  by_cases h2 : (n : Int) < g
  · have d2 : decide (g > (n : Int)) = true := decide_eq_true h2
    have HN : Hid (¬ P) := hide (fun h => by have := HP.out.1 h; omega)
    go_wp2_with fail
    try go_ret
    exact HNo.out _ HB.out HN.out
  have d2 : decide (g > (n : Int)) = false := decide_eq_false h2
  obtain ⟨k, hk⟩ : ∃ k : Nat, g = (k : Int) + 1 := ⟨(g - 1).toNat, by omega⟩
  have hkn : k < n := by omega
  obtain ⟨ad, rfl, hab, hwc⟩ := HW1.out.bool hkn
  have HP2 : Hid (P ↔ ((wa = true → ws.getD k false = true) ∧ 0 ≤ fr ∧ fr ≤ tt ∧ tt - fr = sa)) := hide (by rw [HP.out, show (g - 1).toNat = k by omega]; exact ⟨fun h => h.2.2, fun h => ⟨by omega, by omega, h⟩⟩)
  have hg1 : g - 1 = (k : Int) := by omega
  obtain ⟨wk, hwk⟩ : ∃ b, ws.getD k false = b := ⟨_, rfl⟩
  rw [hwk] at hwc HP2
  clear HP HW HW1 HWl hwk
  have fin : ∀ (hc : wa = true → wk = true), P ↔ (0 ≤ fr ∧ fr ≤ tt ∧ tt - fr = sa) := fun hc => HP2.out.trans ⟨fun h => h.2, fun h => ⟨hc, h⟩⟩
  have HFin := Lib.hid fin
  clear fin hk
  by_cases hbad : wa = true ∧ wk = false
  · obtain ⟨rfl, rfl⟩ := hbad
    have HN : Hid (¬ P) := hide (fun h => by have := (HP2.out.1 h).1 rfl; cases this)
    go_wp2_with fail
    try go_ret
    exact HNo.out _ HB.out HN.out
  have HP3 : Hid (P ↔ (0 ≤ fr ∧ fr ≤ tt ∧ tt - fr = sa)) := hide (HFin.out (fun h => by
    cases hk : wk with
    | true => rfl
    | false => exact absurd ⟨h, hk⟩ hbad))
  by_cases h3 : 0 ≤ fr
  · have d3 : decide (fr ≥ 0) = true := decide_eq_true h3
    by_cases h4 : fr ≤ tt
    · have d4 : decide (tt ≥ fr) = true := decide_eq_true h4
      by_cases h5 : tt - fr = sa
      · have d5 : (tt - fr == sa) = true := beq_iff_eq.2 h5
        have HN : Hid P := hide (HP3.out.2 ⟨h3, h4, h5⟩)
        clear h5
        cases wa <;> cases wk <;> first
          | (exact absurd ⟨rfl, rfl⟩ hbad)
          | (clear hbad
             go_wp2_with fail
             try go_ret
             exact HYes.out _ HB.out HN.out)
      · have d5 : (tt - fr == sa) = false := beq_eq_false_iff_ne.2 h5
        have HN : Hid (¬ P) := hide (fun h => h5 (HP3.out.1 h).2.2)
        clear h5
        cases wa <;> cases wk <;> first
          | (exact absurd ⟨rfl, rfl⟩ hbad)
          | (clear hbad
             go_wp2_with fail
             try go_ret
             exact HNo.out _ HB.out HN.out)
    · have d4 : decide (tt ≥ fr) = false := decide_eq_false h4
      have HN : Hid (¬ P) := hide (fun h => h4 (HP3.out.1 h).2.1)
      cases wa <;> cases wk <;> first
        | (exact absurd ⟨rfl, rfl⟩ hbad)
        | (clear hbad
           go_wp2_with fail
           try go_ret
           exact HNo.out _ HB.out HN.out)
  · have d3 : decide (fr ≥ 0) = false := decide_eq_false h3
    have HN : Hid (¬ P) := hide (fun h => h3 (HP3.out.1 h).1)
    cases wa <;> cases wk <;> first
      | (exact absurd ⟨rfl, rfl⟩ hbad)
      | (clear hbad
         go_wp2_with fail
         try go_ret
         exact HNo.out _ HB.out HN.out)
end Go.Proofs.Ytbegehooefhiiaa
