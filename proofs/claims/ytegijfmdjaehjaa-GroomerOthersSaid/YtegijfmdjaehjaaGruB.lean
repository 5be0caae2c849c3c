/-
  find, On, Clone, with and Same of chapter 45, walked.
-/
import Derived.Test.YtegijfmdjaehjaaGruA
import Derived.Test.YtegijfmdjaehjaaRegY
import Derived.Test.YtegijfmdjaehjaaRegA
namespace Go.Proofs.Ytegijfmdjaehjaa
open Go.RowKit

def pId (i : Int) (x : Gr) : Bool := x.id == i
def pOn (i : Int) (x : Gr) : Bool := decide (x.st = 2) && decide (x.run = i)
theorem findG_is (l : List Gr) (i : Int) : findG l i = idxG (pId i) l 0 := rfl
theorem onG_is (l : List Gr) (i : Int) : onG l i = decide (idxG (pOn i) l 0 ≥ 0) := onG_idx l i 0
set_option maxRecDepth 100000 in
set_option maxHeartbeats 4000000 in
theorem gfc_any (g : Nat) (i : Int) (id nod fuel st tg run til : Int) (win : Bool) (w : World) (hg : Blk w g 3 #[.int .i64 i]) :
    Calls Try.prog 61 #[.agg #[.int .i64 id, .int .i64 nod, .int .i64 fuel, .int .i64 st, .int .i64 tg, .int .i64 run, .int .i64 til, .bool win], .pointer (some ⟨g, 0, none⟩)] w fun e w' => e = .returned (.bool (pId i ⟨id, nod, fuel, st, tg, run, til, win⟩)) ∧ Below w.heap.size w w' := by
  have HG := Lib.hid hg
  have HP : Hid (pId i ⟨id, nod, fuel, st, tg, run, til, win⟩ = (id == i)) := hide rfl
  generalize pId i ⟨id, nod, fuel, st, tg, run, til, win⟩ = R at *
  obtain ⟨b, hb⟩ : ∃ b, (id == i) = b := ⟨_, rfl⟩
  rw [hb] at HP
  clear hg
  go_enter Try.func61, Try.ntmps61
  go_upto_region 1 with (fail)
  have HBw1 := (Blk.new w 51 #[.int .i64 id, .int .i64 nod, .int .i64 fuel, .int .i64 st, .int .i64 tg, .int .i64 run, .int .i64 til, .bool win])
  have HLw1 := (below_new w (.cells #[.int .i64 id, .int .i64 nod, .int .i64 fuel, .int .i64 st, .int .i64 tg, .int .i64 run, .int .i64 til, .bool win] 51))
  have hsw1 : (w.alloc (.cells #[.int .i64 id, .int .i64 nod, .int .i64 fuel, .int .i64 st, .int .i64 tg, .int .i64 run, .int .i64 til, .bool win] 51)).heap.size = w.heap.size + 1 := by simp
  generalize w.alloc (.cells #[.int .i64 id, .int .i64 nod, .int .i64 fuel, .int .i64 st, .int .i64 tg, .int .i64 run, .int .i64 til, .bool win] 51) = w1 at HBw1 HLw1 hsw1 ⊢
  replace HBw1 := Lib.hid HBw1
  replace HLw1 := Lib.hid HLw1
  have hlw1 : w.heap.size < w1.heap.size := by omega
  replace hsw1 := Lib.hid hsw1
  have c0 : w1.cell? ⟨g, 0, none⟩ = some (.int .i64 i) := (HG.out.below HLw1.out HG.out.lt).cell 0
  have x0 : w1.cell? ⟨w.heap.size, 0, none⟩ = some (.int .i64 id) := HBw1.out.cell 0
  have x1 : w1.cell? ⟨w.heap.size, 1, none⟩ = some (.int .i64 nod) := HBw1.out.cell 1
  have x2 : w1.cell? ⟨w.heap.size, 2, none⟩ = some (.int .i64 fuel) := HBw1.out.cell 2
  have x3 : w1.cell? ⟨w.heap.size, 3, none⟩ = some (.int .i64 st) := HBw1.out.cell 3
  have x4 : w1.cell? ⟨w.heap.size, 4, none⟩ = some (.int .i64 tg) := HBw1.out.cell 4
  have x5 : w1.cell? ⟨w.heap.size, 5, none⟩ = some (.int .i64 run) := HBw1.out.cell 5
  have x6 : w1.cell? ⟨w.heap.size, 6, none⟩ = some (.int .i64 til) := HBw1.out.cell 6
  have x7 : w1.cell? ⟨w.heap.size, 7, none⟩ = some (.bool win) := HBw1.out.cell 7
  go_wp2_with fail
  go_ret
  exact ⟨ret_bg HP.out.symm, HLw1.out⟩
set_option maxRecDepth 100000 in
set_option maxHeartbeats 4000000 in
theorem goc_any (g : Nat) (i : Int) (id nod fuel st tg run til : Int) (win : Bool) (w : World) (hg : Blk w g 3 #[.int .i64 i]) :
    Calls Try.prog 51 #[.agg #[.int .i64 id, .int .i64 nod, .int .i64 fuel, .int .i64 st, .int .i64 tg, .int .i64 run, .int .i64 til, .bool win], .pointer (some ⟨g, 0, none⟩)] w fun e w' => e = .returned (.bool (pOn i ⟨id, nod, fuel, st, tg, run, til, win⟩)) ∧ Below w.heap.size w w' := by
  have HG := Lib.hid hg
  have HP : Hid (pOn i ⟨id, nod, fuel, st, tg, run, til, win⟩ = ((st == 2) && (run == i))) := hide rfl
  generalize pOn i ⟨id, nod, fuel, st, tg, run, til, win⟩ = R at *
  obtain ⟨b2, hb2⟩ : ∃ b, (run == i) = b := ⟨_, rfl⟩
  obtain ⟨b1, hb1⟩ : ∃ b, (st == 2) = b := ⟨_, rfl⟩
  rw [hb1, hb2] at HP
  clear hg
  go_enter Try.func51, Try.ntmps51
  go_upto_region 1 with (fail)
  have HBw1 := (Blk.new w 51 #[.int .i64 id, .int .i64 nod, .int .i64 fuel, .int .i64 st, .int .i64 tg, .int .i64 run, .int .i64 til, .bool win])
  have HLw1 := (below_new w (.cells #[.int .i64 id, .int .i64 nod, .int .i64 fuel, .int .i64 st, .int .i64 tg, .int .i64 run, .int .i64 til, .bool win] 51))
  have hsw1 : (w.alloc (.cells #[.int .i64 id, .int .i64 nod, .int .i64 fuel, .int .i64 st, .int .i64 tg, .int .i64 run, .int .i64 til, .bool win] 51)).heap.size = w.heap.size + 1 := by simp
  generalize w.alloc (.cells #[.int .i64 id, .int .i64 nod, .int .i64 fuel, .int .i64 st, .int .i64 tg, .int .i64 run, .int .i64 til, .bool win] 51) = w1 at HBw1 HLw1 hsw1 ⊢
  replace HBw1 := Lib.hid HBw1
  replace HLw1 := Lib.hid HLw1
  have hlw1 : w.heap.size < w1.heap.size := by omega
  replace hsw1 := Lib.hid hsw1
  have c0 : w1.cell? ⟨g, 0, none⟩ = some (.int .i64 i) := (HG.out.below HLw1.out HG.out.lt).cell 0
  have x0 : w1.cell? ⟨w.heap.size, 0, none⟩ = some (.int .i64 id) := HBw1.out.cell 0
  have x1 : w1.cell? ⟨w.heap.size, 1, none⟩ = some (.int .i64 nod) := HBw1.out.cell 1
  have x2 : w1.cell? ⟨w.heap.size, 2, none⟩ = some (.int .i64 fuel) := HBw1.out.cell 2
  have x3 : w1.cell? ⟨w.heap.size, 3, none⟩ = some (.int .i64 st) := HBw1.out.cell 3
  have x4 : w1.cell? ⟨w.heap.size, 4, none⟩ = some (.int .i64 tg) := HBw1.out.cell 4
  have x5 : w1.cell? ⟨w.heap.size, 5, none⟩ = some (.int .i64 run) := HBw1.out.cell 5
  have x6 : w1.cell? ⟨w.heap.size, 6, none⟩ = some (.int .i64 til) := HBw1.out.cell 6
  have x7 : w1.cell? ⟨w.heap.size, 7, none⟩ = some (.bool win) := HBw1.out.cell 7
  cases b1 with
  | true =>
    go_wp2_with fail
    go_ret
    exact ⟨ret_bg (by rw [HP.out]; rfl), HLw1.out⟩
  | false =>
    go_wp2_with fail
    go_ret
    exact ⟨ret_bg (by rw [HP.out]; rfl), HLw1.out⟩
set_option maxRecDepth 100000 in
set_option maxHeartbeats 4000000 in
theorem gif_any (A : Option Addr) (n c g : Nat) (l : List Gr) (i : Int) (w : World) (hr : Strs Gr.cells 8 w w.heap.size A n l) (hl : l.length = n) (hc : n ≤ c) (hc2 : c ≤ maxLen) (hg : Blk w g 3 #[.int .i64 i]) :
    Calls Try.prog 60 #[.slice A n c, .func (.func 61) #[] #[.pointer (some ⟨g, 0, none⟩)]] w fun e w' => e = .returned (.int .i64 (idxG (pId i) l 0)) ∧ Below w.heap.size w w' := by
  have HR := Lib.hid hr
  have HL := Lib.hid hl
  have HC : Hid (∀ (W : World) (id nod fuel st tg run til : Int) (win : Bool), Below w.heap.size w W → Calls Try.prog 61 #[.agg #[.int .i64 id, .int .i64 nod, .int .i64 fuel, .int .i64 st, .int .i64 tg, .int .i64 run, .int .i64 til, .bool win], .pointer (some ⟨g, 0, none⟩)] W fun e w' => e = .returned (.bool (pId i ⟨id, nod, fuel, st, tg, run, til, win⟩)) ∧ Below W.heap.size W w') := fun W id nod fuel st tg run til win hb => gfc_any g i id nod fuel st tg run til win W (hg.below hb hg.lt)
  obtain ⟨P, hP⟩ : ∃ P, pId i = P := ⟨_, rfl⟩
  rw [hP] at HC ⊢
  obtain ⟨R, hR⟩ : ∃ R, idxG P l 0 = R := ⟨_, rfl⟩
  have HF0 : Hid (idxG P (l.drop 0) 0 = R) := hide (by rw [List.drop_zero]; exact hR)
  have HEnd : Hid (idxG P (l.drop n) n = -1) := hide (by rw [List.drop_of_length_le (by omega)]; rfl)
  rw [hR]
  unfold maxLen at hc2
  clear hr hl hg hR hP
  go_enter Try.func60, Try.ntmps60
  go_wp2_with fail
  go_loopw [8] (fun i wr => ∃ k : Nat, k ≤ n ∧ i = .int .i64 k ∧ idxG P (l.drop k) k = R ∧ Below w.heap.size w wr) (fun i _ => n - (intOf i).toNat)
  case atStart => exact ⟨0, by omega, rfl, HF0.out, Below.refl _ _⟩
  case round =>
    obtain ⟨k, hk, rfl, hF, hbr⟩ := hrel
    obtain ⟨wo, rfl⟩ : ∃ wo : World, wo = wr := ⟨_, rfl⟩
    have HF := Lib.hid hF
    have HB := Lib.hid hbr
    clear hF hbr
    by_cases hlt : k < n
    · obtain ⟨ad, rfl, hab, hcl⟩ := strs_at (HR.out.below HB.out) (fun _ => rfl) HL.out hlt gr0
      have HF1 := Lib.hid (HF.out.symm.trans (idxG_at P (l := l) (by rw [HL.out]; exact hlt))).symm
      generalize l.getD k gr0 = q at *
      obtain ⟨id, nod, fuel, st, tg, run, til, win⟩ := q
      have HC1 := Lib.hid (HC.out wo id nod fuel st tg run til win HB.out)
      have HCl : Hid (∀ i u, ([.int .i64 id, .int .i64 nod, .int .i64 fuel, .int .i64 st, .int .i64 tg, .int .i64 run, .int .i64 til, .bool win] : List Value)[i]? = some u → wo.cell? ((ad.add (k * 8)).add i) = some u) := hcl
      generalize P ⟨id, nod, fuel, st, tg, run, til, win⟩ = hit at *
      clear hcl
      go_wp2_with (refine wpList_load_at 51 (.tmp 14) rfl rfl (ad.add (k * 8)) rfl [.int .i64 id, .int .i64 nod, .int .i64 fuel, .int .i64 st, .int .i64 tg, .int .i64 run, .int .i64 til, .bool win] HCl.out _ Try.underlying51 rfl (by kernel_rfl) ?_)
      with_reducible refine HC1.out.mono ?_
      rintro e w1 ⟨rfl, hb1⟩
      have HB1 := Lib.hid (HB.out.trans (hb1.mono HB.out.size))
      clear hb1
      cases hit with
      | true =>
        have HR2 : Hid ((k : Int) = R) := by have h := HF1.out; rw [if_pos rfl] at h; exact h
        go_wp2_with fail
        go_ret
        exact ⟨ret_ng HR2.out, HB1.out⟩
      | false =>
        have HR2 : Hid (idxG P (l.drop (k + 1)) (k + 1) = R) := by have h := HF1.out; rw [if_neg (by decide)] at h; exact h
        go_wp2_with fail
        go_roundw
        case rel => exact ⟨k + 1, by omega, by go_num, HR2.out, HB1.out⟩
        case measure => simp [intOf]; omega
    · obtain rfl : k = n := by omega
      have HR2 : Hid ((-1 : Int) = R) := hide (HEnd.out.symm.trans HF.out)
      go_wp2_with fail
      go_ret
      exact ⟨ret_ng HR2.out, HB.out⟩
set_option maxRecDepth 100000 in
set_option maxHeartbeats 4000000 in
theorem gio_any (A : Option Addr) (n c g : Nat) (l : List Gr) (i : Int) (w : World) (hr : Strs Gr.cells 8 w w.heap.size A n l) (hl : l.length = n) (hc : n ≤ c) (hc2 : c ≤ maxLen) (hg : Blk w g 3 #[.int .i64 i]) :
    Calls Try.prog 60 #[.slice A n c, .func (.func 51) #[] #[.pointer (some ⟨g, 0, none⟩)]] w fun e w' => e = .returned (.int .i64 (idxG (pOn i) l 0)) ∧ Below w.heap.size w w' := by
  have HR := Lib.hid hr
  have HL := Lib.hid hl
  have HC : Hid (∀ (W : World) (id nod fuel st tg run til : Int) (win : Bool), Below w.heap.size w W → Calls Try.prog 51 #[.agg #[.int .i64 id, .int .i64 nod, .int .i64 fuel, .int .i64 st, .int .i64 tg, .int .i64 run, .int .i64 til, .bool win], .pointer (some ⟨g, 0, none⟩)] W fun e w' => e = .returned (.bool (pOn i ⟨id, nod, fuel, st, tg, run, til, win⟩)) ∧ Below W.heap.size W w') := fun W id nod fuel st tg run til win hb => goc_any g i id nod fuel st tg run til win W (hg.below hb hg.lt)
  obtain ⟨P, hP⟩ : ∃ P, pOn i = P := ⟨_, rfl⟩
  rw [hP] at HC ⊢
  obtain ⟨R, hR⟩ : ∃ R, idxG P l 0 = R := ⟨_, rfl⟩
  have HF0 : Hid (idxG P (l.drop 0) 0 = R) := hide (by rw [List.drop_zero]; exact hR)
  have HEnd : Hid (idxG P (l.drop n) n = -1) := hide (by rw [List.drop_of_length_le (by omega)]; rfl)
  rw [hR]
  unfold maxLen at hc2
  clear hr hl hg hR hP
  go_enter Try.func60, Try.ntmps60
  go_wp2_with fail
  go_loopw [8] (fun i wr => ∃ k : Nat, k ≤ n ∧ i = .int .i64 k ∧ idxG P (l.drop k) k = R ∧ Below w.heap.size w wr) (fun i _ => n - (intOf i).toNat)
  case atStart => exact ⟨0, by omega, rfl, HF0.out, Below.refl _ _⟩
  case round =>
    obtain ⟨k, hk, rfl, hF, hbr⟩ := hrel
    obtain ⟨wo, rfl⟩ : ∃ wo : World, wo = wr := ⟨_, rfl⟩
    have HF := Lib.hid hF
    have HB := Lib.hid hbr
    clear hF hbr
    by_cases hlt : k < n
    · obtain ⟨ad, rfl, hab, hcl⟩ := strs_at (HR.out.below HB.out) (fun _ => rfl) HL.out hlt gr0
      have HF1 := Lib.hid (HF.out.symm.trans (idxG_at P (l := l) (by rw [HL.out]; exact hlt))).symm
      generalize l.getD k gr0 = q at *
      obtain ⟨id, nod, fuel, st, tg, run, til, win⟩ := q
      have HC1 := Lib.hid (HC.out wo id nod fuel st tg run til win HB.out)
      have HCl : Hid (∀ i u, ([.int .i64 id, .int .i64 nod, .int .i64 fuel, .int .i64 st, .int .i64 tg, .int .i64 run, .int .i64 til, .bool win] : List Value)[i]? = some u → wo.cell? ((ad.add (k * 8)).add i) = some u) := hcl
      generalize P ⟨id, nod, fuel, st, tg, run, til, win⟩ = hit at *
      clear hcl
      go_wp2_with (refine wpList_load_at 51 (.tmp 14) rfl rfl (ad.add (k * 8)) rfl [.int .i64 id, .int .i64 nod, .int .i64 fuel, .int .i64 st, .int .i64 tg, .int .i64 run, .int .i64 til, .bool win] HCl.out _ Try.underlying51 rfl (by kernel_rfl) ?_)
      with_reducible refine HC1.out.mono ?_
      rintro e w1 ⟨rfl, hb1⟩
      have HB1 := Lib.hid (HB.out.trans (hb1.mono HB.out.size))
      clear hb1
      cases hit with
      | true =>
        have HR2 : Hid ((k : Int) = R) := by have h := HF1.out; rw [if_pos rfl] at h; exact h
        go_wp2_with fail
        go_ret
        exact ⟨ret_ng HR2.out, HB1.out⟩
      | false =>
        have HR2 : Hid (idxG P (l.drop (k + 1)) (k + 1) = R) := by have h := HF1.out; rw [if_neg (by decide)] at h; exact h
        go_wp2_with fail
        go_roundw
        case rel => exact ⟨k + 1, by omega, by go_num, HR2.out, HB1.out⟩
        case measure => simp [intOf]; omega
    · obtain rfl : k = n := by omega
      have HR2 : Hid ((-1 : Int) = R) := hide (HEnd.out.symm.trans HF.out)
      go_wp2_with fail
      go_ret
      exact ⟨ret_ng HR2.out, HB.out⟩
set_option maxRecDepth 100000 in
set_option maxHeartbeats 4000000 in
theorem gfind_any (v : Value) (l : List Gr) (i : Int) (w : World) (hv : GrV w w.heap.size v l) :
    Calls Try.prog 45 #[v, .int .i64 i] w fun e w' => e = .returned (.int .i64 (findG l i)) ∧ Below w.heap.size w w' := by
  obtain ⟨A, n, c, rfl, HL, h3, h4, hr⟩ := hv.nam
  have HR := Lib.hid hr
  rw [findG_is]
  obtain ⟨R, hR⟩ : ∃ R, idxG (pId i) l 0 = R := ⟨_, rfl⟩
  have HRe := Lib.hid hR
  rw [hR]
  clear hv hr hR
  go_enter Try.func45, Try.ntmps45
  go_wp2_with fail
  have HBw1 := (Blk.new w 3 #[.int .i64 i])
  have HLw1 := (below_new w (.cells #[.int .i64 i] 3))
  have hsw1 : (w.alloc (.cells #[.int .i64 i] 3)).heap.size = w.heap.size + 1 := by simp
  generalize w.alloc (.cells #[.int .i64 i] 3) = w1 at HBw1 HLw1 hsw1 ⊢
  replace HBw1 := Lib.hid HBw1
  replace HLw1 := Lib.hid HLw1
  have hlw1 : w.heap.size < w1.heap.size := by omega
  replace hsw1 := Lib.hid hsw1
  have HC : Hid (Calls Try.prog 60 #[.slice A n c, .func (.func 61) #[] #[.pointer (some ⟨w.heap.size, 0, none⟩)]] w1 fun e w' => e = .returned (.int .i64 R) ∧ Below w1.heap.size w1 w') := hide (by
    rw [← HRe.out]
    exact gif_any A n c w.heap.size l i w1 (HR.out.now HLw1.out) HL.out h3 h4 HBw1.out)
  go_wp2_with fail
  with_reducible refine HC.out.mono ?_
  rintro e w2 ⟨rfl, hb2⟩
  have HB2 := Lib.hid (HLw1.out.trans (hb2.mono HLw1.out.size))
  clear hb2
  go_wp2_with fail
  go_ret
  exact ⟨rfl, HB2.out⟩
set_option maxRecDepth 100000 in
set_option maxHeartbeats 4000000 in
theorem gcon_any (A : Option Addr) (n c g : Nat) (l : List Gr) (i : Int) (w : World) (hr : Strs Gr.cells 8 w w.heap.size A n l) (hl : l.length = n) (hc : n ≤ c) (hc2 : c ≤ maxLen) (hg : Blk w g 3 #[.int .i64 i]) :
    Calls Try.prog 50 #[.slice A n c, .func (.func 51) #[] #[.pointer (some ⟨g, 0, none⟩)]] w fun e w' => e = .returned (.bool (onG l i)) ∧ Below w.heap.size w w' := by
  have HI := Lib.hid (gio_any A n c g l i w hr hl hc hc2 hg)
  rw [onG_is]
  obtain ⟨R, hR⟩ : ∃ R, idxG (pOn i) l 0 = R := ⟨_, rfl⟩
  rw [hR] at HI ⊢
  obtain ⟨b, hb⟩ : ∃ b, decide (R ≥ 0) = b := ⟨_, rfl⟩
  rw [hb]
  clear hr hl hg hR
  go_enter Try.func50, Try.ntmps50
  go_wp2_with fail
  with_reducible refine HI.out.mono ?_
  rintro e w2 ⟨rfl, hb2⟩
  go_wp2_with fail
  go_ret
  exact ⟨rfl, hb2⟩
theorem gon_any (v : Value) (l : List Gr) (i : Int) (w : World) (hv : GrV w w.heap.size v l) :
    Calls Try.prog 26 #[v, .int .i64 i] w fun e w' => e = .returned (.bool (onG l i)) ∧ Below w.heap.size w w' := by
  obtain ⟨A, n, c, rfl, HL, h3, h4, hr⟩ := hv.nam
  have HR := Lib.hid hr
  obtain ⟨R, hR⟩ : ∃ R, onG l i = R := ⟨_, rfl⟩
  have HRe := Lib.hid hR
  rw [hR]
  clear hv hr hR
  go_enter Try.func26, Try.ntmps26
  go_wp2_with fail
  have HBw1 := (Blk.new w 3 #[.int .i64 i])
  have HLw1 := (below_new w (.cells #[.int .i64 i] 3))
  have hsw1 : (w.alloc (.cells #[.int .i64 i] 3)).heap.size = w.heap.size + 1 := by simp
  generalize w.alloc (.cells #[.int .i64 i] 3) = w1 at HBw1 HLw1 hsw1 ⊢
  replace HBw1 := Lib.hid HBw1
  replace HLw1 := Lib.hid HLw1
  have hlw1 : w.heap.size < w1.heap.size := by omega
  replace hsw1 := Lib.hid hsw1
  have HC : Hid (Calls Try.prog 50 #[.slice A n c, .func (.func 51) #[] #[.pointer (some ⟨w.heap.size, 0, none⟩)]] w1 fun e w' => e = .returned (.bool R) ∧ Below w1.heap.size w1 w') := hide (by
    rw [← HRe.out]
    exact gcon_any A n c w.heap.size l i w1 (HR.out.now HLw1.out) HL.out h3 h4 HBw1.out)
  go_wp2_with fail
  with_reducible refine HC.out.mono ?_
  rintro e w2 ⟨rfl, hb2⟩
  have HB2 := Lib.hid (HLw1.out.trans (hb2.mono HLw1.out.size))
  clear hb2
  go_wp2_with fail
  go_ret
  exact ⟨rfl, HB2.out⟩
theorem onG_drop {l : List Gr} {k : Nat} {i : Int} (h : k < l.length) : onG (l.drop k) i = (pOn i (l.getD k gr0) || onG (l.drop (k + 1)) i) := by
  unfold onG
  rw [List.drop_eq_getElem_cons h, List.any_cons]
  simp [List.getElem?_eq_getElem h, pOn]
set_option maxRecDepth 100000 in
set_option maxHeartbeats 4000000 in
theorem ron_any (v : Value) (l : List Gr) (i : Int) (w : World) (hv : GrV w w.heap.size v l) :
    Calls Try.prog 27 #[v, .int .i64 i] w fun e w' => e = .returned (.bool (onG l i)) ∧ w = w' := by
  obtain ⟨A, n, c, rfl, HN, hc1, hc2, hr⟩ := hv.nam
  have HR := Lib.hid hr
  have hm : n ≤ maxLen := Nat.le_trans hc1 hc2
  have HS0 : Hid (onG l i = onG (l.drop 0) i) := hide rfl
  generalize onG l i = R at *
  unfold maxLen at hm hc2
  clear hv hr
  go_enter Try.func27, Try.ntmps27
  go_wp2_with fail
  go_loopw [5] (fun v wr => ∃ k : Nat, k ≤ n ∧ v = .int .i64 k ∧ R = onG (l.drop k) i ∧ w = wr) (fun v _ => n - (intOf v).toNat)
  case atStart => exact ⟨0, by omega, rfl, HS0.out, rfl⟩
  case round =>
    obtain ⟨k, hk, rfl, hF, rfl⟩ := hrel
    have HF := Lib.hid hF
    clear hF
    by_cases hlt : k < n
    · obtain ⟨ad, rfl, hab, hcl⟩ := strs_at HR.out (fun _ => rfl) HN.out hlt gr0
      have HF1 := Lib.hid (HF.out.trans (onG_drop (i := i) (l := l) (k := k) (by rw [HN.out]; exact hlt)))
      generalize l.getD k gr0 = g at *
      obtain ⟨id, nod, fuel, st, tg, run, til, win⟩ := g
      have f3 : w.cell? ⟨(ad.add (k * 8)).block, (ad.add (k * 8)).off + 3, none⟩ = some (.int .i64 st) := hcl 3 _ rfl
      have f5 : w.cell? ⟨(ad.add (k * 8)).block, (ad.add (k * 8)).off + 5, none⟩ = some (.int .i64 run) := hcl 5 _ rfl
      clear hcl
      have HP : Hid (pOn i ⟨id, nod, fuel, st, tg, run, til, win⟩ = ((st == 2) && (run == i))) := hide rfl
      rw [HP.out] at HF1
      obtain ⟨b2, hb2⟩ : ∃ b, (run == i) = b := ⟨_, rfl⟩
      obtain ⟨b1, hb1⟩ : ∃ b, (st == 2) = b := ⟨_, rfl⟩
      rw [hb1, hb2] at HF1
      cases b1 with
      | true =>
        cases b2 with
        | true =>
          have HE : Hid (R = true) := hide HF1.out
          go_wp2_with fail
          go_ret
          exact ⟨ret_bg HE.out.symm, rfl⟩
        | false =>
          have HE : Hid (R = onG (l.drop (k + 1)) i) := hide HF1.out
          go_wp2_with fail
          go_roundw
          case rel => exact ⟨k + 1, by omega, by go_num, HE.out, by first | trivial | rfl⟩
          case measure => simp [intOf]; omega
      | false =>
        have HE : Hid (R = onG (l.drop (k + 1)) i) := hide HF1.out
        go_wp2_with fail
        go_roundw
        case rel => exact ⟨k + 1, by omega, by go_num, HE.out, by first | trivial | rfl⟩
        case measure => simp [intOf]; omega
    · obtain rfl : k = n := by omega
      have HE : Hid (R = false) := hide (by have h := HF.out; rw [List.drop_of_length_le (by rw [HN.out]; exact Nat.le_refl _)] at h; exact h)
      go_wp2_with fail
      go_ret
      exact ⟨ret_bg HE.out.symm, rfl⟩
set_option maxRecDepth 100000 in
set_option maxHeartbeats 4000000 in
theorem gclone_any (A : Option Addr) (n c : Nat) (l : List Gr) (w : World) (base : Nat) (hr : Strs Gr.cells 8 w w.heap.size A n l) (hl : l.length = n) (hc : n ≤ c) (_ : c ≤ maxLen) (hn : n ≤ 1000000) (hbase : base ≤ w.heap.size) :
    Calls Try.prog 46 #[.slice A n c] w fun e w' => ∃ v, e = .returned v ∧ OwnGr w' base v l ∧ Below w.heap.size w w' := by
  have HR := Lib.hid hr
  have HL := Lib.hid hl
  clear hr hl
  have q : ∀ (w : World) (a : Option Addr) (n c n' c' : Nat), (binOp .eql 22 (.slice a n c) (.slice none n' c')).run Try.prog w = .ok (.bool a.isNone) w := fun w a n c n' c' => Lib.run_eql_slice_nil w _ _ a n c n' c' Try.underlying22
  cases A with
  | none =>
    have hn0 : n = 0 := by
      rcases Nat.eq_zero_or_pos n with h | h
      · exact h
      · obtain ⟨ad, h1, _⟩ := HR.out.2 h
        cases h1
    subst hn0
    go_enter Try.func46, Try.ntmps46
    go_wp2
    go_ret
    refine ⟨_, rfl, ?_, Below.refl _ _⟩
    rw [List.eq_nil_of_length_eq_zero HL.out]
    exact OwnT.nil _ _ _ _ _
  | some ad =>
    go_enter Try.func46, Try.ntmps46
    go_wp2_with
      (at_builtin
       refine wpList_app _ ei_gr rfl (.tmp 5) (.tmp 6) rfl base (.slice (some ⟨w.heap.size, 0, none⟩) 0 0) 0 [] rfl (World.ownsRow_lit w #[] 0 hbase (by simp [maxLen]) rfl) w.heap.size (some ad) n c (l.map Gr.cells).flatten rfl (HR.out.alloc (Nat.le_refl _) _) (one_grs l) (by simp only [maxLen]; omega) (by omega) (by simp; omega) ?_
       intro v2 w2 hown2 hg2 hbw2 _
       have hbw : Below w.heap.size w w2 := (below_new w _).trans (below_of_own (World.ownsRow_lit (e := 51) (size := 8) w #[] 0 (Nat.le_refl _) (by simp [maxLen]) rfl) hg2 (by simp))
       simp only [Nat.zero_add, List.nil_append] at hown2
       have HO := Lib.hid hown2
       clear hown2 hbw2 hg2)
    go_ret
    exact ⟨_, rfl, OwnT.mk' HO.out HL.out, hbw⟩
set_option maxRecDepth 100000 in
set_option maxHeartbeats 4000000 in
theorem rgsame_any (v v' : Value) (l : List Gr) (w : World) (hv : GrV w w.heap.size v l) (hv' : GrV w w.heap.size v' l) :
    Calls Try.prog 20 #[v, v'] w fun e w' => e = .returned (.bool true) ∧ Below w.heap.size w w' := by
  obtain ⟨A, n, c, rfl, HL, h3, h4, hr⟩ := hv.nam
  obtain ⟨A', n', c', rfl, HL', _, _, hr'⟩ := hv'.nam
  obtain rfl : n = n' := by rw [← HL.out, HL'.out]
  have HR := Lib.hid hr
  have HR' := Lib.hid hr'
  simp only [maxLen] at h4
  have hm : n ≤ 9223372036854775807 := by omega
  have e1 : ((n : Int) != (n : Int)) = false := by simp
  clear hv hv' hr hr' h3 h4 HL'
  go_enter Try.func20, Try.ntmps20
  go_wp2_with fail
  go_loopw [5] (fun i wr => ∃ k : Nat, k ≤ n ∧ i = .int .i64 k ∧ Below w.heap.size w wr) (fun i _ => n - (intOf i).toNat)
  case atStart => exact ⟨0, by omega, rfl, Below.refl _ _⟩
  case round =>
    obtain ⟨k, hk, rfl, hbr⟩ := hrel
    have HQ := Lib.hid hbr
    obtain ⟨wo, rfl⟩ : ∃ wo : World, wo = wr := ⟨_, rfl⟩
    have HRo := Lib.hid (HR.out.now hbr)
    have HR'o := Lib.hid (HR'.out.now hbr)
    clear hbr
    by_cases hlt : k < n
    · obtain ⟨ad, rfl, hab, hcs⟩ := strs_at HRo.out (fun _ => rfl) HL.out hlt gr0
      obtain ⟨ad', rfl, hab', hcs'⟩ := strs_at HR'o.out (fun _ => rfl) HL.out hlt gr0
      generalize l.getD k gr0 = q at *
      obtain ⟨id, nod, fuel, st, tg, run, til, win⟩ := q
      have hd0 : ∀ j u, ([.int .i64 id, .int .i64 nod, .int .i64 fuel, .int .i64 st, .int .i64 tg, .int .i64 run, .int .i64 til, .bool win] : List Value)[j]? = some u → wo.cell? ((ad.add (k * 8)).add j) = some u := hcs
      have hd1 : ∀ j u, ([.int .i64 id, .int .i64 nod, .int .i64 fuel, .int .i64 st, .int .i64 tg, .int .i64 run, .int .i64 til, .bool win] : List Value)[j]? = some u → wo.cell? ((ad'.add (k * 8)).add j) = some u := hcs'
      clear hcs hcs'
      go_wp2_with fail
      refine wp_region_held_drew (S := fun W => (∀ j u, ([.int .i64 id, .int .i64 nod, .int .i64 fuel, .int .i64 st, .int .i64 tg, .int .i64 run, .int .i64 til, .bool win] : List Value)[j]? = some u → W.cell? ((ad.add (k * 8)).add j) = some u) ∧ (∀ j u, ([.int .i64 id, .int .i64 nod, .int .i64 fuel, .int .i64 st, .int .i64 tg, .int .i64 run, .int .i64 til, .bool win] : List Value)[j]? = some u → W.cell? ((ad'.add (k * 8)).add j) = some u)) (by kernel_rfl) (⟨hd0, hd1⟩) (fun hHeld => ?_)
      refine held_run 0 (some 17) (.move (.tmp 0)) ?v6_1_2 (by rfl) (by kernel_rfl) (by kernel_rfl) (by kernel_rfl) (fun _ _ _ h => h) (fun o ho w hS => ?y6_1_2) (by assumption) ?r6_1_2
      case y6_1_2 => (try dsimp only at hS); unfold execOp; simp only [ho]; go_simp; try with_reducible rfl
      try simp only [Act.put, List.setIfInBounds_toArray, List.set_cons_zero, List.set_cons_succ]
      refine held_run 1 (some 18) (.move (.tmp 5)) ?v6_1_3 (by rfl) (by kernel_rfl) (by kernel_rfl) (by kernel_rfl) (fun _ _ _ h => h) (fun o ho w hS => ?y6_1_3) (by assumption) ?r6_1_3
      case y6_1_3 => (try dsimp only at hS); unfold execOp; simp only [ho]; go_simp; try with_reducible rfl
      try simp only [Act.put, List.setIfInBounds_toArray, List.set_cons_zero, List.set_cons_succ]
      refine held_run 2 (some 19) (.indexAddr 22 (.tmp 17) (.tmp 18)) ?v6_1_4 (by rfl) (by kernel_rfl) (by kernel_rfl) (by kernel_rfl) (fun _ _ _ h => h) (fun o ho w hS => ?y6_1_4) (by assumption) ?r6_1_4
      case y6_1_4 => (try dsimp only at hS); unfold execOp; simp only [ho]; go_simp; try with_reducible rfl
      try simp only [Act.put, List.setIfInBounds_toArray, List.set_cons_zero, List.set_cons_succ]
      refine held_load_at 3 (some 20) 51 (.tmp 19) (by rfl) (by kernel_rfl) (by kernel_rfl) (by kernel_rfl) ((ad.add (k * 8))) ([.int .i64 id, .int .i64 nod, .int .i64 fuel, .int .i64 st, .int .i64 tg, .int .i64 run, .int .i64 til, .bool win] : List Value) (fun _ _ _ h => h) (by rfl) (fun _ h => h.1) _ Try.underlying51 rfl (by kernel_rfl) (by assumption) ?_
      try simp only [Act.put, List.setIfInBounds_toArray, List.set_cons_zero, List.set_cons_succ]
      refine held_run 4 (some 21) (.move (.tmp 1)) ?v6_1_6 (by rfl) (by kernel_rfl) (by kernel_rfl) (by kernel_rfl) (fun _ _ _ h => h) (fun o ho w hS => ?y6_1_6) (by assumption) ?r6_1_6
      case y6_1_6 => (try dsimp only at hS); unfold execOp; simp only [ho]; go_simp; try with_reducible rfl
      try simp only [Act.put, List.setIfInBounds_toArray, List.set_cons_zero, List.set_cons_succ]
      refine held_run 5 (some 22) (.move (.tmp 5)) ?v6_1_7 (by rfl) (by kernel_rfl) (by kernel_rfl) (by kernel_rfl) (fun _ _ _ h => h) (fun o ho w hS => ?y6_1_7) (by assumption) ?r6_1_7
      case y6_1_7 => (try dsimp only at hS); unfold execOp; simp only [ho]; go_simp; try with_reducible rfl
      try simp only [Act.put, List.setIfInBounds_toArray, List.set_cons_zero, List.set_cons_succ]
      refine held_run 6 (some 23) (.indexAddr 22 (.tmp 21) (.tmp 22)) ?v6_1_8 (by rfl) (by kernel_rfl) (by kernel_rfl) (by kernel_rfl) (fun _ _ _ h => h) (fun o ho w hS => ?y6_1_8) (by assumption) ?r6_1_8
      case y6_1_8 => (try dsimp only at hS); unfold execOp; simp only [ho]; go_simp; try with_reducible rfl
      try simp only [Act.put, List.setIfInBounds_toArray, List.set_cons_zero, List.set_cons_succ]
      refine held_load_at 7 (some 24) 51 (.tmp 23) (by rfl) (by kernel_rfl) (by kernel_rfl) (by kernel_rfl) ((ad'.add (k * 8))) ([.int .i64 id, .int .i64 nod, .int .i64 fuel, .int .i64 st, .int .i64 tg, .int .i64 run, .int .i64 til, .bool win] : List Value) (fun _ _ _ h => h) (by rfl) (fun _ h => h.2) _ Try.underlying51 rfl (by kernel_rfl) (by assumption) ?_
      try simp only [Act.put, List.setIfInBounds_toArray, List.set_cons_zero, List.set_cons_succ]
      refine held_run 8 (some 25) (.binOp .neq 51 (.tmp 20) (.tmp 24) 51) ?v6_1_10 (by rfl) (by kernel_rfl) (by kernel_rfl) (by kernel_rfl) (fun _ _ _ h => h) (fun o ho w hS => ?y6_1_10) (by assumption) ?r6_1_10
      case y6_1_10 => (try dsimp only at hS); unfold execOp; simp only [ho]; go_simp; try with_reducible rfl
      try simp only [Act.put, List.setIfInBounds_toArray, List.set_cons_zero, List.set_cons_succ]
      refine wpAnyH_done (by kernel_rfl) ?_ _
      clear hd0 hd1
      go_wp2_with fail
      go_roundw
      case rel => exact ⟨k + 1, by omega, by go_num, HQ.out.drew⟩
      case measure => simp [intOf]; omega
    · obtain rfl : k = n := by omega
      go_wp2_with fail
      go_ret
      exact ⟨rfl, HQ.out⟩
theorem set_take {l : List Gr} {i k : Nat} {x : Gr} (h : k < l.length) : (l.set i x).take (k + 1) = (l.set i x).take k ++ [if k = i then x else l.getD k gr0] := by
  have h' : k < (l.set i x).length := by simpa using h
  rw [List.take_succ_eq_append_getElem h']
  congr 2
  by_cases hk : k = i
  · subst hk; simp
  · rw [if_neg hk, List.getElem_set_ne (by omega)]
    simp [List.getElem?_eq_getElem h]
set_option maxRecDepth 100000 in
set_option maxHeartbeats 4000000 in
theorem rwith_any (A : Option Addr) (n c i : Nat) (l : List Gr) (xi xn xf xs xg xr xt : Int) (xw : Bool) (w : World) (hr : Strs Gr.cells 8 w w.heap.size A n l) (hl : l.length = n) (hn : n ≤ 16) (hi : i < n) :
    Calls Try.prog 47 #[.slice A n c, .int .i64 i, .agg #[.int .i64 xi, .int .i64 xn, .int .i64 xf, .int .i64 xs, .int .i64 xg, .int .i64 xr, .int .i64 xt, .bool xw]] w fun e w' => ∃ v, e = .returned v ∧ OwnGr w' w.heap.size v (l.set i ⟨xi, xn, xf, xs, xg, xr, xt, xw⟩) ∧ Below w.heap.size w w' := by
  have HR := Lib.hid hr
  have HL := Lib.hid hl
  have HF : Hid (∀ (v : Value) (w' : World), OwnGr w' w.heap.size v (l.set i ⟨xi, xn, xf, xs, xg, xr, xt, xw⟩) → Below w.heap.size w w' → ∃ v', Ending.returned v = .returned v' ∧ OwnGr w' w.heap.size v' (l.set i ⟨xi, xn, xf, xs, xg, xr, xt, xw⟩) ∧ Below w.heap.size w w') := fun v w' h1 h2 => ⟨v, rfl, h1, h2⟩
  clear hr hl
  go_enter Try.func47, Try.ntmps47
  go_wp2_with fail
  have HBwb := (Blk.new w 51 #[.int .i64 xi, .int .i64 xn, .int .i64 xf, .int .i64 xs, .int .i64 xg, .int .i64 xr, .int .i64 xt, .bool xw])
  have HLwb := (below_new w (.cells #[.int .i64 xi, .int .i64 xn, .int .i64 xf, .int .i64 xs, .int .i64 xg, .int .i64 xr, .int .i64 xt, .bool xw] 51))
  have hswb : (w.alloc (.cells #[.int .i64 xi, .int .i64 xn, .int .i64 xf, .int .i64 xs, .int .i64 xg, .int .i64 xr, .int .i64 xt, .bool xw] 51)).heap.size = w.heap.size + 1 := by simp
  generalize w.alloc (.cells #[.int .i64 xi, .int .i64 xn, .int .i64 xf, .int .i64 xs, .int .i64 xg, .int .i64 xr, .int .i64 xt, .bool xw] 51) = wb at HBwb HLwb hswb ⊢
  replace HBwb := Lib.hid HBwb
  replace HLwb := Lib.hid HLwb
  have hlwb : w.heap.size < wb.heap.size := by omega
  replace hswb := Lib.hid hswb
  have HXb := HBwb
  have HWb := HLwb
  have hlb := hlwb
  clear HBwb HLwb hswb hlwb
  go_loopw [7, 8] (fun s j wr => ∃ k : Nat, k ≤ n ∧ j = .int .i64 k ∧ OwnGr wr w.heap.size s ((l.set i ⟨xi, xn, xf, xs, xg, xr, xt, xw⟩).take k) ∧ Below w.heap.size w wr ∧ Blk wr w.heap.size 51 #[.int .i64 xi, .int .i64 xn, .int .i64 xf, .int .i64 xs, .int .i64 xg, .int .i64 xr, .int .i64 xt, .bool xw] ∧ s.ownBlock ≠ some w.heap.size) (fun _ j _ => n - (intOf j).toNat)
  case atStart => exact ⟨0, by omega, rfl, OwnT.nil _ _ _ _ _, HWb.out, HXb.out, by simp [Value.ownBlock]⟩
  case round =>
    obtain ⟨k, hk, rfl, hO, hbr, hX, hnb⟩ := hrel
    obtain ⟨wo, rfl⟩ : ∃ wo : World, wo = wr := ⟨_, rfl⟩
    have HX := Lib.hid hX
    have HB := Lib.hid hbr
    have hbw : w.heap.size ≤ wo.heap.size := hbr.size
    have hlen : ((l.set i ⟨xi, xn, xf, xs, xg, xr, xt, xw⟩).take k).length = k := by rw [List.length_take, List.length_set, HL.out]; omega
    obtain ⟨Av, nv, cv, rfl, HLv, hv1, hv2, _⟩ := hO.nam
    obtain rfl : nv = k := by rw [← HLv.out, hlen]
    by_cases hlt : nv < n
    · have HS := Lib.hid (set_take (l := l) (i := i) (k := nv) (x := ⟨xi, xn, xf, xs, xg, xr, xt, xw⟩) (by rw [HL.out]; exact hlt))
      have HO := Lib.hid (hO.row HLv.out)
      generalize (l.set i ⟨xi, xn, xf, xs, xg, xr, xt, xw⟩).take nv = acc at *
      clear hO hbr hX hlen
      by_cases hki : nv = i
      · subst hki
        have HS2 : Hid (∀ v W, W.ownsRow w.heap.size 51 8 v (nv + 1) ((acc.map Gr.cells).flatten ++ [.int .i64 xi, .int .i64 xn, .int .i64 xf, .int .i64 xs, .int .i64 xg, .int .i64 xr, .int .i64 xt, .bool xw]) → OwnGr W w.heap.size v ((l.set nv ⟨xi, xn, xf, xs, xg, xr, xt, xw⟩).take (nv + 1))) := fun v W h => by
          rw [HS.out, if_pos rfl]
          exact OwnT.snoc h (by rw [HLv.out]) rfl
        clear HS
        go_wp2_with (first
          | (refine wpList_load_g 51 (.tmp 5) rfl rfl w.heap.size rfl _ _ HX.out _ Try.underlying51 rfl (by kernel_rfl) ?_)
          | (at_builtin
             refine wpList_app_lit ei_gr rfl (.tmp 18) (.tmp 20) rfl w.heap.size (.slice Av nv cv) nv (acc.map Gr.cells).flatten rfl HO.out 1 rfl rfl (by simp [Value.oneCell']) (by simp only [maxLen]; omega) (by omega) hbw ?_
             intro v1 w1 hown1 hb1 hg1 hat1
             have HO1 := Lib.hid (HS2.out v1 w1 hown1)
             have HB1 := Lib.hid (HB.out.trans hb1)
             have HX1 := Lib.hid (HX.out.grown (grown_alloc' hg1) (Ne.symm hnb))
             have hnb1 : v1.ownBlock ≠ some w.heap.size := by
               rcases hat1 with h | h
               · rw [h]; exact hnb
               · rw [h]; intro e; injection e with e; omega
             obtain ⟨A1, n1, c1, rfl, _, _, _, _⟩ := HO1.out.nam
             clear hown1 hb1 hg1 hat1))
        go_roundw
        case rel => exact ⟨nv + 1, by omega, by go_num, HO1.out, HB1.out, HX1.out, hnb1⟩
        case measure => simp [intOf]; omega
      · have hne : ((nv : Int) == (i : Int)) = false := beq_eq_false_iff_ne.2 (by omega)
        obtain ⟨ad, rfl, hab, hcl⟩ := strs_at (HR.out.below HB.out) (fun _ => rfl) HL.out hlt gr0
        have HS2 : Hid (∀ v W, W.ownsRow w.heap.size 51 8 v (nv + 1) ((acc.map Gr.cells).flatten ++ Gr.cells (l.getD nv gr0)) → OwnGr W w.heap.size v ((l.set i ⟨xi, xn, xf, xs, xg, xr, xt, xw⟩).take (nv + 1))) := fun v W h => by
          rw [HS.out, if_neg hki]
          exact OwnT.snoc h (by rw [HLv.out]) rfl
        clear HS
        generalize l.getD nv gr0 = q at *
        obtain ⟨id, nod, fuel, st, tg, run, til, win⟩ := q
        have HCl : Hid (∀ i u, ([.int .i64 id, .int .i64 nod, .int .i64 fuel, .int .i64 st, .int .i64 tg, .int .i64 run, .int .i64 til, .bool win] : List Value)[i]? = some u → wo.cell? ((ad.add (nv * 8)).add i) = some u) := hcl
        clear hcl
        go_wp2_with (first
          | (refine wpList_load_at 51 (.tmp 25) rfl rfl (ad.add (nv * 8)) rfl [.int .i64 id, .int .i64 nod, .int .i64 fuel, .int .i64 st, .int .i64 tg, .int .i64 run, .int .i64 til, .bool win] HCl.out _ Try.underlying51 rfl (by kernel_rfl) ?_)
          | (at_builtin
             refine wpList_app_lit ei_gr rfl (.tmp 22) (.tmp 27) rfl w.heap.size (.slice Av nv cv) nv (acc.map Gr.cells).flatten rfl HO.out 1 rfl rfl (by simp [Value.oneCell']) (by simp only [maxLen]; omega) (by omega) hbw ?_
             intro v1 w1 hown1 hb1 hg1 hat1
             have HO1 := Lib.hid (HS2.out v1 w1 hown1)
             have HB1 := Lib.hid (HB.out.trans hb1)
             have HX1 := Lib.hid (HX.out.grown (grown_alloc' hg1) (Ne.symm hnb))
             have hnb1 : v1.ownBlock ≠ some w.heap.size := by
               rcases hat1 with h | h
               · rw [h]; exact hnb
               · rw [h]; intro e; injection e with e; omega
             obtain ⟨A1, n1, c1, rfl, _, _, _, _⟩ := HO1.out.nam
             clear hown1 hb1 hg1 hat1))
        go_roundw
        case rel => exact ⟨nv + 1, by omega, by go_num, HO1.out, HB1.out, HX1.out, hnb1⟩
        case measure => simp [intOf]; omega
    · obtain rfl : nv = n := by omega
      have hOf : OwnGr wo w.heap.size (.slice Av nv cv) (l.set i ⟨xi, xn, xf, xs, xg, xr, xt, xw⟩) := by
        rw [List.take_of_length_le (by rw [List.length_set, HL.out]; exact Nat.le_refl _)] at hO
        exact hO
      have HO := Lib.hid hOf
      clear hO hOf hbr hX hlen
      go_wp2_with fail
      go_ret
      exact HF.out _ _ HO.out HB.out
end Go.Proofs.Ytegijfmdjaehjaa
