/-
  Chapter 55: On and Count of the program and of its reference, walked.
-/
import Derived.Test.YtihmboibpjfohaaCenB
namespace Go.Proofs.Ytihmboibpjfohaa
open Go.RowKit

set_option maxRecDepth 100000 in
set_option maxHeartbeats 2000000 in
theorem on_any (v : Value) (l : List Cr) (t : Int) (w : World) (hv : StrV Cr.cells 4 w w.heap.size v l) (hlen : l.length ≤ 2000) (hin : ∀ c ∈ l, inC c = true) :
    Calls Try.prog 15 #[v, .int .i64 t] w fun e w' => e = .returned (.int .i64 (onC l t)) ∧ Below w.heap.size w w' := by
  obtain ⟨A, n, c, rfl, HN, hc1, hc2, hr⟩ := hv.nam
  have HR := Lib.hid hr
  have hn : n ≤ 2000 := by rw [← HN.out]; exact hlen
  have HIn := Lib.hid hin
  have HBn : Hid (∀ k : Nat, -(1000 * (k : Int)) ≤ sumF (onF t) (l.take k) ∧ sumF (onF t) (l.take k) ≤ 1000 * (k : Int)) := fun k => sumF_take _ l k fun c hc => onF_bound (HIn.out c hc) t
  have HAll : Hid (onC l t = sumF (onF t) (l.take n)) := by show _ = _; rw [← HN.out, List.take_length]; rfl
  have HZ : Hid (sumF (onF t) (l.take 0) = 0) := by show _ = _; simp [sumF]
  have HSn : Hid (∀ k, k < n → sumF (onF t) (l.take (k + 1)) = sumF (onF t) (l.take k) + (onF t) (l.getD k cr0)) := fun k hk => sumF_snoc _ (by rw [HN.out]; exact hk)
  have HGd : Hid (∀ kd pl nm at_ : Int, (onF t) ⟨kd, pl, nm, at_⟩ = if at_ ≤ t then chC ⟨kd, pl, nm, at_⟩ else 0) := fun _ _ _ _ => rfl
  have HGb : Hid (∀ c ∈ l, -1000 ≤ (onF t) c ∧ (onF t) c ≤ 1000) := fun c hc => onF_bound (HIn.out c hc) t
  generalize (onC l t) = res at *
  generalize (onF t) = g at *
  obtain ⟨sm, hsm⟩ : ∃ sm : Nat → Int, (fun k => sumF g (l.take k)) = sm := ⟨_, rfl⟩
  have hsm2 : ∀ k, sumF g (l.take k) = sm k := fun k => by rw [← hsm]
  simp only [hsm2] at HBn HAll HZ HSn
  clear hsm hsm2 hv hr hin hlen
  go_enter Try.func15, Try.ntmps15
  go_wp2_with fail
  go_loopw [5, 10] (fun on i wr => ∃ k : Nat, k ≤ n ∧ i = .int .i64 k ∧ on = .int .i64 (sm k) ∧ Below w.heap.size w wr) (fun _ i _ => n - (intOf i).toNat)
  case atStart => exact ⟨0, by omega, rfl, by rw [HZ.out], Below.refl _ _⟩
  case round =>
    obtain ⟨k, hk, rfl, rfl, hbr⟩ := hrel
    obtain ⟨wo, rfl⟩ : ∃ wo : World, wo = wr := ⟨_, rfl⟩
    have HB := Lib.hid (hbr)
    have hsz := HB.out.size
    clear hbr
    have hbk := HBn.out k
    by_cases hlt : k < n
    · obtain ⟨ad, rfl, hadb, hcl⟩ := strs_at (HR.out.below HB.out) (fun _ => rfl) HN.out hlt cr0
      have hadw : ad.block < w.heap.size := hadb
      have hsn := HSn.out k hlt
      have hmem : l.getD k cr0 ∈ l := cr_mem (by rw [HN.out]; exact hlt)
      have hib := HIn.out _ hmem
      have hgb := HGb.out _ hmem
      obtain ⟨⟨kd, pl, nm, at_⟩, hq⟩ : ∃ q, l.getD k cr0 = q := ⟨_, rfl⟩
      rw [hq] at hcl hsn hib hgb
      rw [HGd.out] at hsn hgb
      have hnm := of_decide_eq_true hib
      simp only at hnm
      obtain ⟨S, hS⟩ : ∃ x, sm k = x := ⟨_, rfl⟩
      rw [hS] at hbk hsn ⊢
      have HCl : Hid (∀ j u, ([.int .i64 kd, .int .i64 pl, .int .i64 nm, .int .i64 at_] : List Value)[j]? = some u → wo.cell? ((ad.add (k * 4)).add j) = some u) := hcl
      have HCv : Hid (∀ (W : World), Below wo.heap.size wo W → ∀ j u, ([.int .i64 kd, .int .i64 pl, .int .i64 nm, .int .i64 at_] : List Value)[j]? = some u → W.cell? ((ad.add (k * 4)).add j) = some u) := fun W hW j u hu => (hW.cell (p := (ad.add (k * 4)).add j) (by rw [block_of_add, block_of_add]; omega)).trans (HCl.out j u hu)
      clear hq hS hmem hib
      have HCh : Hid (∀ W, Calls Try.prog 31 #[.agg #[.int .i64 kd, .int .i64 pl, .int .i64 nm, .int .i64 at_]] W fun e w' => e = .returned (.int .i64 (chC ⟨kd, pl, nm, at_⟩)) ∧ Below W.heap.size W w') := fun W => change_any _ _ _ _ W (by omega)
      generalize chC ⟨kd, pl, nm, at_⟩ = ch at *
      clear hcl
      by_cases h : at_ ≤ t
      · have d1 : decide (at_ ≤ t) = true := decide_eq_true h
        rw [if_pos h] at hsn hgb
        have hwr : IntKind.i64.wrap (S + ch) = S + ch := IntWalk.i64_in _ (by omega)
        go_wp2_with (first
          | (refine wpList_load_at 24 (.tmp 12) rfl rfl (ad.add (k * 4)) rfl [.int .i64 kd, .int .i64 pl, .int .i64 nm, .int .i64 at_] (HCv.out _ (Below.refl _ _)) _ Try.underlying24 rfl (by kernel_rfl) ?_)
          | (refine wpList_store_blk rfl 24 (.tmp 7) (.tmp 13) rfl wo.heap.size #[.int .i64 kd, .int .i64 pl, .int .i64 nm, .int .i64 at_] rfl rfl _ _ (Blk.new wo 24 #[.int .i64 0, .int .i64 0, .int .i64 0, .int .i64 0]) (by kernel_rfl) rfl (by simp [Value.oneCell']) ?_
             intro w2 hx2 hon2
             have HX2 := Lib.hid hx2
             have c0 : w2.cell? ⟨wo.heap.size, 0, none⟩ = some (.int .i64 kd) := hx2.cell 0
             have c1 : w2.cell? ⟨wo.heap.size, 1, none⟩ = some (.int .i64 pl) := hx2.cell 1
             have c2 : w2.cell? ⟨wo.heap.size, 2, none⟩ = some (.int .i64 nm) := hx2.cell 2
             have c3 : w2.cell? ⟨wo.heap.size, 3, none⟩ = some (.int .i64 at_) := hx2.cell 3
             have hb2 := hon2.below (below_new wo (.cells #[.int .i64 0, .int .i64 0, .int .i64 0, .int .i64 0] 24)) (Nat.le_refl _)
             have hs2 : wo.heap.size < w2.heap.size := hx2.lt
             have HB2 := Lib.hid (HB.out.trans (hb2.mono hsz))
             clear hx2 hon2 hb2)
          | (refine wpList_load_g 24 (.tmp 7) rfl rfl wo.heap.size rfl _ _ HX2.out _ Try.underlying24 rfl (by kernel_rfl) ?_))
        with_reducible refine (HCh.out _).mono ?_
        rintro e w5 ⟨rfl, hb5⟩
        have HB5 := Lib.hid (HB2.out.trans (hb5.mono HB2.out.size))
        clear hb5
        go_wp2_with fail
        go_roundw
        case rel => exact ⟨k + 1, by omega, by go_num, by first | (rw [hsn]; done) | (rw [hsn]; simp only [hwr]), HB5.out⟩
        case measure => simp [intOf]; omega
      · have d1 : decide (at_ ≤ t) = false := decide_eq_false h
        rw [if_neg h] at hsn hgb
        go_wp2_with (first
          | (refine wpList_load_at 24 (.tmp 12) rfl rfl (ad.add (k * 4)) rfl [.int .i64 kd, .int .i64 pl, .int .i64 nm, .int .i64 at_] (HCv.out _ (Below.refl _ _)) _ Try.underlying24 rfl (by kernel_rfl) ?_)
          | (refine wpList_store_blk rfl 24 (.tmp 7) (.tmp 13) rfl wo.heap.size #[.int .i64 kd, .int .i64 pl, .int .i64 nm, .int .i64 at_] rfl rfl _ _ (Blk.new wo 24 #[.int .i64 0, .int .i64 0, .int .i64 0, .int .i64 0]) (by kernel_rfl) rfl (by simp [Value.oneCell']) ?_
             intro w2 hx2 hon2
             have HX2 := Lib.hid hx2
             have c0 : w2.cell? ⟨wo.heap.size, 0, none⟩ = some (.int .i64 kd) := hx2.cell 0
             have c1 : w2.cell? ⟨wo.heap.size, 1, none⟩ = some (.int .i64 pl) := hx2.cell 1
             have c2 : w2.cell? ⟨wo.heap.size, 2, none⟩ = some (.int .i64 nm) := hx2.cell 2
             have c3 : w2.cell? ⟨wo.heap.size, 3, none⟩ = some (.int .i64 at_) := hx2.cell 3
             have hb2 := hon2.below (below_new wo (.cells #[.int .i64 0, .int .i64 0, .int .i64 0, .int .i64 0] 24)) (Nat.le_refl _)
             have hs2 : wo.heap.size < w2.heap.size := hx2.lt
             have HB2 := Lib.hid (HB.out.trans (hb2.mono hsz))
             clear hx2 hon2 hb2)
          | (refine wpList_load_g 24 (.tmp 7) rfl rfl wo.heap.size rfl _ _ HX2.out _ Try.underlying24 rfl (by kernel_rfl) ?_))
        go_roundw
        case rel => exact ⟨k + 1, by omega, by go_num, by rw [hsn, Int.add_zero], HB2.out⟩
        case measure => simp [intOf]; omega
    · obtain rfl : k = n := by omega
      go_wp2_with fail
      go_ret
      exact ⟨ret_int (by rw [HAll.out]), HB.out⟩

set_option maxRecDepth 100000 in
set_option maxHeartbeats 2000000 in
theorem rOn_any (v : Value) (l : List Cr) (t : Int) (w : World) (hv : StrV Cr.cells 4 w w.heap.size v l) (hlen : l.length ≤ 2000) (hin : ∀ c ∈ l, inC c = true) :
    Calls Try.prog 16 #[v, .int .i64 t] w fun e w' => e = .returned (.int .i64 (onC l t)) ∧ Below w.heap.size w w' := by
  obtain ⟨A, n, c, rfl, HN, hc1, hc2, hr⟩ := hv.nam
  have HR := Lib.hid hr
  have hn : n ≤ 2000 := by rw [← HN.out]; exact hlen
  have HIn := Lib.hid hin
  have HBn : Hid (∀ k : Nat, -(1000 * (k : Int)) ≤ sumF (onF t) (l.take k) ∧ sumF (onF t) (l.take k) ≤ 1000 * (k : Int)) := fun k => sumF_take _ l k fun c hc => onF_bound (HIn.out c hc) t
  have HAll : Hid (onC l t = sumF (onF t) (l.take n)) := by show _ = _; rw [← HN.out, List.take_length]; rfl
  have HZ : Hid (sumF (onF t) (l.take 0) = 0) := by show _ = _; simp [sumF]
  have HSn : Hid (∀ k, k < n → sumF (onF t) (l.take (k + 1)) = sumF (onF t) (l.take k) + (onF t) (l.getD k cr0)) := fun k hk => sumF_snoc _ (by rw [HN.out]; exact hk)
  have HGd : Hid (∀ kd pl nm at_ : Int, (onF t) ⟨kd, pl, nm, at_⟩ = if at_ ≤ t then chC ⟨kd, pl, nm, at_⟩ else 0) := fun _ _ _ _ => rfl
  have HGb : Hid (∀ c ∈ l, -1000 ≤ (onF t) c ∧ (onF t) c ≤ 1000) := fun c hc => onF_bound (HIn.out c hc) t
  generalize (onC l t) = res at *
  generalize (onF t) = g at *
  obtain ⟨sm, hsm⟩ : ∃ sm : Nat → Int, (fun k => sumF g (l.take k)) = sm := ⟨_, rfl⟩
  have hsm2 : ∀ k, sumF g (l.take k) = sm k := fun k => by rw [← hsm]
  simp only [hsm2] at HBn HAll HZ HSn
  clear hsm hsm2 hv hr hin hlen
  go_enter Try.func16, Try.ntmps16
  go_wp2_with fail
  go_loopw [5, 6] (fun on i wr => ∃ k : Nat, k ≤ n ∧ i = .int .i64 k ∧ on = .int .i64 (sm k) ∧ Below w.heap.size w wr) (fun _ i _ => n - (intOf i).toNat)
  case atStart => exact ⟨0, by omega, rfl, by rw [HZ.out], Below.refl _ _⟩
  case round =>
    obtain ⟨k, hk, rfl, rfl, hbr⟩ := hrel
    obtain ⟨wo, rfl⟩ : ∃ wo : World, wo = wr := ⟨_, rfl⟩
    have HB := Lib.hid (hbr)
    have hsz := HB.out.size
    clear hbr
    have hbk := HBn.out k
    by_cases hlt : k < n
    · obtain ⟨ad, rfl, hadb, hcl⟩ := strs_at (HR.out.below HB.out) (fun _ => rfl) HN.out hlt cr0
      have hadw : ad.block < w.heap.size := hadb
      have hsn := HSn.out k hlt
      have hmem : l.getD k cr0 ∈ l := cr_mem (by rw [HN.out]; exact hlt)
      have hib := HIn.out _ hmem
      have hgb := HGb.out _ hmem
      obtain ⟨⟨kd, pl, nm, at_⟩, hq⟩ : ∃ q, l.getD k cr0 = q := ⟨_, rfl⟩
      rw [hq] at hcl hsn hib hgb
      rw [HGd.out] at hsn hgb
      have hnm := of_decide_eq_true hib
      simp only at hnm
      obtain ⟨S, hS⟩ : ∃ x, sm k = x := ⟨_, rfl⟩
      rw [hS] at hbk hsn ⊢
      have HCl : Hid (∀ j u, ([.int .i64 kd, .int .i64 pl, .int .i64 nm, .int .i64 at_] : List Value)[j]? = some u → wo.cell? ((ad.add (k * 4)).add j) = some u) := hcl
      have HCv : Hid (∀ (W : World), Below wo.heap.size wo W → ∀ j u, ([.int .i64 kd, .int .i64 pl, .int .i64 nm, .int .i64 at_] : List Value)[j]? = some u → W.cell? ((ad.add (k * 4)).add j) = some u) := fun W hW j u hu => (hW.cell (p := (ad.add (k * 4)).add j) (by rw [block_of_add, block_of_add]; omega)).trans (HCl.out j u hu)
      clear hq hS hmem hib
      have HCh : Hid (∀ W, Calls Try.prog 32 #[.agg #[.int .i64 kd, .int .i64 pl, .int .i64 nm, .int .i64 at_]] W fun e w' => e = .returned (.int .i64 (chC ⟨kd, pl, nm, at_⟩)) ∧ Below W.heap.size W w') := fun W => rchange_any _ _ _ _ W (by omega)
      generalize chC ⟨kd, pl, nm, at_⟩ = ch at *
      have cp : wo.cell? ⟨(ad.add (k * 4)).block, (ad.add (k * 4)).off + 3, none⟩ = some (.int .i64 at_) := hcl 3 _ rfl
      clear hcl
      by_cases h : at_ ≤ t
      · have d1 : decide (at_ ≤ t) = true := decide_eq_true h
        rw [if_pos h] at hsn hgb
        have hwr : IntKind.i64.wrap (S + ch) = S + ch := IntWalk.i64_in _ (by omega)
        go_wp2_with (first
          | (refine wpList_load_at 24 (.tmp 23) rfl rfl (ad.add (k * 4)) rfl [.int .i64 kd, .int .i64 pl, .int .i64 nm, .int .i64 at_] (HCv.out _ (Below.refl _ _)) _ Try.underlying24 rfl (by kernel_rfl) ?_))
        with_reducible refine (HCh.out _).mono ?_
        rintro e w5 ⟨rfl, hb5⟩
        have HB5 := Lib.hid (HB.out.trans (hb5.mono HB.out.size))
        clear hb5
        go_wp2_with fail
        go_roundw
        case rel => exact ⟨k + 1, by omega, by go_num, by first | (rw [hsn]; done) | (rw [hsn]; simp only [hwr]), HB5.out⟩
        case measure => simp [intOf]; omega
      · have d1 : decide (at_ ≤ t) = false := decide_eq_false h
        rw [if_neg h] at hsn hgb
        go_wp2_with fail
        go_roundw
        case rel => exact ⟨k + 1, by omega, by go_num, by rw [hsn, Int.add_zero], HB.out⟩
        case measure => simp [intOf]; omega
    · obtain rfl : k = n := by omega
      go_wp2_with fail
      go_ret
      exact ⟨ret_int (by rw [HAll.out]), HB.out⟩

set_option maxRecDepth 100000 in
set_option maxHeartbeats 2000000 in
theorem count_any (v : Value) (l : List Cr) (kk pp a b : Int) (w : World) (hv : StrV Cr.cells 4 w w.heap.size v l) (hlen : l.length ≤ 2000) (hin : ∀ c ∈ l, inC c = true) :
    Calls Try.prog 19 #[v, .int .i64 kk, .int .i64 pp, .agg #[.int .i64 a, .int .i64 b]] w fun e w' => e = .returned (.int .i64 (cntC l kk pp a b)) ∧ Below w.heap.size w w' := by
  obtain ⟨A, n, c, rfl, HN, hc1, hc2, hr⟩ := hv.nam
  have HR := Lib.hid hr
  have hn : n ≤ 2000 := by rw [← HN.out]; exact hlen
  have HIn := Lib.hid hin
  have HBn : Hid (∀ k : Nat, -(1000 * (k : Int)) ≤ sumF (cntF kk pp a b) (l.take k) ∧ sumF (cntF kk pp a b) (l.take k) ≤ 1000 * (k : Int)) := fun k => sumF_take _ l k fun c hc => cntF_bound (HIn.out c hc) kk pp a b
  have HAll : Hid (cntC l kk pp a b = sumF (cntF kk pp a b) (l.take n)) := by show _ = _; rw [← HN.out, List.take_length]; rfl
  have HZ : Hid (sumF (cntF kk pp a b) (l.take 0) = 0) := by show _ = _; simp [sumF]
  have HSn : Hid (∀ k, k < n → sumF (cntF kk pp a b) (l.take (k + 1)) = sumF (cntF kk pp a b) (l.take k) + (cntF kk pp a b) (l.getD k cr0)) := fun k hk => sumF_snoc _ (by rw [HN.out]; exact hk)
  have HGd : Hid (∀ kd pl nm at_ : Int, (cntF kk pp a b) ⟨kd, pl, nm, at_⟩ = if kd = kk ∧ pl = pp ∧ a ≤ at_ ∧ at_ < b then nm else 0) := fun _ _ _ _ => rfl
  have HGb : Hid (∀ c ∈ l, -1000 ≤ (cntF kk pp a b) c ∧ (cntF kk pp a b) c ≤ 1000) := fun c hc => cntF_bound (HIn.out c hc) kk pp a b
  generalize (cntC l kk pp a b) = res at *
  generalize (cntF kk pp a b) = g at *
  obtain ⟨sm, hsm⟩ : ∃ sm : Nat → Int, (fun k => sumF g (l.take k)) = sm := ⟨_, rfl⟩
  have hsm2 : ∀ k, sumF g (l.take k) = sm k := fun k => by rw [← hsm]
  simp only [hsm2] at HBn HAll HZ HSn
  clear hsm hsm2 hv hr hin hlen
  go_enter Try.func19, Try.ntmps19
  go_wp2_with fail
  have HBw0 := (Blk.new w 34 #[.int .i64 a, .int .i64 b])
  have HLw0 := (below_new w (.cells #[.int .i64 a, .int .i64 b] 34))
  have hsw0 : (w.alloc (.cells #[.int .i64 a, .int .i64 b] 34)).heap.size = w.heap.size + 1 := by simp
  generalize w.alloc (.cells #[.int .i64 a, .int .i64 b] 34) = w0 at HBw0 HLw0 hsw0 ⊢
  replace HBw0 := Lib.hid HBw0
  replace HLw0 := Lib.hid HLw0
  have hlw0 : w.heap.size < w0.heap.size := by omega
  replace hsw0 := Lib.hid hsw0
  go_loopw [9, 14] (fun on i wr => ∃ k : Nat, k ≤ n ∧ i = .int .i64 k ∧ on = .int .i64 (sm k) ∧ Below w0.heap.size w0 wr) (fun _ i _ => n - (intOf i).toNat)
  case atStart => exact ⟨0, by omega, rfl, by rw [HZ.out], Below.refl _ _⟩
  case round =>
    obtain ⟨k, hk, rfl, rfl, hbr⟩ := hrel
    obtain ⟨wo, rfl⟩ : ∃ wo : World, wo = wr := ⟨_, rfl⟩
    have HB := Lib.hid (HLw0.out.trans (hbr.mono HLw0.out.size))
    have hsz := HB.out.size
    have HZo := Lib.hid (HBw0.out.below hbr hlw0)
    have HBr := Lib.hid hbr
    have hszr := hbr.size
    clear hbr
    have hbk := HBn.out k
    by_cases hlt : k < n
    · obtain ⟨ad, rfl, hadb, hcl⟩ := strs_at (HR.out.below HB.out) (fun _ => rfl) HN.out hlt cr0
      have hadw : ad.block < w.heap.size := hadb
      have hsn := HSn.out k hlt
      have hmem : l.getD k cr0 ∈ l := cr_mem (by rw [HN.out]; exact hlt)
      have hib := HIn.out _ hmem
      have hgb := HGb.out _ hmem
      obtain ⟨⟨kd, pl, nm, at_⟩, hq⟩ : ∃ q, l.getD k cr0 = q := ⟨_, rfl⟩
      rw [hq] at hcl hsn hib hgb
      rw [HGd.out] at hsn hgb
      have hnm := of_decide_eq_true hib
      simp only at hnm
      obtain ⟨S, hS⟩ : ∃ x, sm k = x := ⟨_, rfl⟩
      rw [hS] at hbk hsn ⊢
      have HCl : Hid (∀ j u, ([.int .i64 kd, .int .i64 pl, .int .i64 nm, .int .i64 at_] : List Value)[j]? = some u → wo.cell? ((ad.add (k * 4)).add j) = some u) := hcl
      have HCv : Hid (∀ (W : World), Below wo.heap.size wo W → ∀ j u, ([.int .i64 kd, .int .i64 pl, .int .i64 nm, .int .i64 at_] : List Value)[j]? = some u → W.cell? ((ad.add (k * 4)).add j) = some u) := fun W hW j u hu => (hW.cell (p := (ad.add (k * 4)).add j) (by rw [block_of_add, block_of_add]; omega)).trans (HCl.out j u hu)
      clear hq hS hmem hib
      clear hcl
      by_cases h1 : kd = kk
      · have d_h1 : (kd == kk) = true := beq_iff_eq.2 h1
        subst h1
        by_cases h2 : pl = pp
        · have d_h2 : (pl == pp) = true := beq_iff_eq.2 h2
          subst h2
          by_cases h3 : a ≤ at_
          · have d_h3 : decide (a ≤ at_) = true := decide_eq_true h3
            by_cases h4 : at_ < b
            · have d_h4 : decide (at_ < b) = true := decide_eq_true h4
              rw [if_pos ⟨rfl, rfl, h3, h4⟩] at hsn hgb
              have hwr : IntKind.i64.wrap (S + nm) = S + nm := IntWalk.i64_in _ (by omega)
              go_wp2_with (first
                | (refine wpList_load_at 24 (.tmp 16) rfl rfl (ad.add (k * 4)) rfl [.int .i64 kd, .int .i64 pl, .int .i64 nm, .int .i64 at_] (HCv.out _ (Below.refl _ _)) _ Try.underlying24 rfl (by kernel_rfl) ?_)
                | (refine wpList_store_blk rfl 24 (.tmp 11) (.tmp 17) rfl wo.heap.size #[.int .i64 kd, .int .i64 pl, .int .i64 nm, .int .i64 at_] rfl rfl _ _ (Blk.new wo 24 #[.int .i64 0, .int .i64 0, .int .i64 0, .int .i64 0]) (by kernel_rfl) rfl (by simp [Value.oneCell']) ?_
                   intro w2 hx2 hon2
                   have HX2 := Lib.hid hx2
                   have c0 : w2.cell? ⟨wo.heap.size, 0, none⟩ = some (.int .i64 kd) := hx2.cell 0
                   have c1 : w2.cell? ⟨wo.heap.size, 1, none⟩ = some (.int .i64 pl) := hx2.cell 1
                   have c2 : w2.cell? ⟨wo.heap.size, 2, none⟩ = some (.int .i64 nm) := hx2.cell 2
                   have c3 : w2.cell? ⟨wo.heap.size, 3, none⟩ = some (.int .i64 at_) := hx2.cell 3
                   have hb2 := hon2.below (below_new wo (.cells #[.int .i64 0, .int .i64 0, .int .i64 0, .int .i64 0] 24)) (Nat.le_refl _)
                   have hs2 : wo.heap.size < w2.heap.size := hx2.lt
                   have HB2 := Lib.hid (HBr.out.trans (hb2.mono hszr))
                   have z0 : w2.cell? ⟨w.heap.size, 0, none⟩ = some (.int .i64 a) := (HZo.out.below hb2 HZo.out.lt).cell 0
                   have z1 : w2.cell? ⟨w.heap.size, 1, none⟩ = some (.int .i64 b) := (HZo.out.below hb2 HZo.out.lt).cell 1
                   clear hx2 hon2 hb2)
                | (refine wpList_load_g 24 (.tmp 11) rfl rfl wo.heap.size rfl _ _ HX2.out _ Try.underlying24 rfl (by kernel_rfl) ?_))
              go_roundw
              case rel => exact ⟨k + 1, by omega, by go_num, by first | (rw [hsn]; done) | (rw [hsn]; simp only [hwr]), HB2.out⟩
              case measure => simp [intOf]; omega
            · have d_h4 : decide (at_ < b) = false := decide_eq_false h4
              rw [if_neg (by omega)] at hsn hgb
              go_wp2_with (first
                | (refine wpList_load_at 24 (.tmp 16) rfl rfl (ad.add (k * 4)) rfl [.int .i64 kd, .int .i64 pl, .int .i64 nm, .int .i64 at_] (HCv.out _ (Below.refl _ _)) _ Try.underlying24 rfl (by kernel_rfl) ?_)
                | (refine wpList_store_blk rfl 24 (.tmp 11) (.tmp 17) rfl wo.heap.size #[.int .i64 kd, .int .i64 pl, .int .i64 nm, .int .i64 at_] rfl rfl _ _ (Blk.new wo 24 #[.int .i64 0, .int .i64 0, .int .i64 0, .int .i64 0]) (by kernel_rfl) rfl (by simp [Value.oneCell']) ?_
                   intro w2 hx2 hon2
                   have HX2 := Lib.hid hx2
                   have c0 : w2.cell? ⟨wo.heap.size, 0, none⟩ = some (.int .i64 kd) := hx2.cell 0
                   have c1 : w2.cell? ⟨wo.heap.size, 1, none⟩ = some (.int .i64 pl) := hx2.cell 1
                   have c2 : w2.cell? ⟨wo.heap.size, 2, none⟩ = some (.int .i64 nm) := hx2.cell 2
                   have c3 : w2.cell? ⟨wo.heap.size, 3, none⟩ = some (.int .i64 at_) := hx2.cell 3
                   have hb2 := hon2.below (below_new wo (.cells #[.int .i64 0, .int .i64 0, .int .i64 0, .int .i64 0] 24)) (Nat.le_refl _)
                   have hs2 : wo.heap.size < w2.heap.size := hx2.lt
                   have HB2 := Lib.hid (HBr.out.trans (hb2.mono hszr))
                   have z0 : w2.cell? ⟨w.heap.size, 0, none⟩ = some (.int .i64 a) := (HZo.out.below hb2 HZo.out.lt).cell 0
                   have z1 : w2.cell? ⟨w.heap.size, 1, none⟩ = some (.int .i64 b) := (HZo.out.below hb2 HZo.out.lt).cell 1
                   clear hx2 hon2 hb2)
                | (refine wpList_load_g 24 (.tmp 11) rfl rfl wo.heap.size rfl _ _ HX2.out _ Try.underlying24 rfl (by kernel_rfl) ?_))
              go_roundw
              case rel => exact ⟨k + 1, by omega, by go_num, by rw [hsn, Int.add_zero], HB2.out⟩
              case measure => simp [intOf]; omega
          · have d_h3 : decide (a ≤ at_) = false := decide_eq_false h3
            rw [if_neg (by omega)] at hsn hgb
            go_wp2_with (first
              | (refine wpList_load_at 24 (.tmp 16) rfl rfl (ad.add (k * 4)) rfl [.int .i64 kd, .int .i64 pl, .int .i64 nm, .int .i64 at_] (HCv.out _ (Below.refl _ _)) _ Try.underlying24 rfl (by kernel_rfl) ?_)
              | (refine wpList_store_blk rfl 24 (.tmp 11) (.tmp 17) rfl wo.heap.size #[.int .i64 kd, .int .i64 pl, .int .i64 nm, .int .i64 at_] rfl rfl _ _ (Blk.new wo 24 #[.int .i64 0, .int .i64 0, .int .i64 0, .int .i64 0]) (by kernel_rfl) rfl (by simp [Value.oneCell']) ?_
                 intro w2 hx2 hon2
                 have HX2 := Lib.hid hx2
                 have c0 : w2.cell? ⟨wo.heap.size, 0, none⟩ = some (.int .i64 kd) := hx2.cell 0
                 have c1 : w2.cell? ⟨wo.heap.size, 1, none⟩ = some (.int .i64 pl) := hx2.cell 1
                 have c2 : w2.cell? ⟨wo.heap.size, 2, none⟩ = some (.int .i64 nm) := hx2.cell 2
                 have c3 : w2.cell? ⟨wo.heap.size, 3, none⟩ = some (.int .i64 at_) := hx2.cell 3
                 have hb2 := hon2.below (below_new wo (.cells #[.int .i64 0, .int .i64 0, .int .i64 0, .int .i64 0] 24)) (Nat.le_refl _)
                 have hs2 : wo.heap.size < w2.heap.size := hx2.lt
                 have HB2 := Lib.hid (HBr.out.trans (hb2.mono hszr))
                 have z0 : w2.cell? ⟨w.heap.size, 0, none⟩ = some (.int .i64 a) := (HZo.out.below hb2 HZo.out.lt).cell 0
                 have z1 : w2.cell? ⟨w.heap.size, 1, none⟩ = some (.int .i64 b) := (HZo.out.below hb2 HZo.out.lt).cell 1
                 clear hx2 hon2 hb2)
              | (refine wpList_load_g 24 (.tmp 11) rfl rfl wo.heap.size rfl _ _ HX2.out _ Try.underlying24 rfl (by kernel_rfl) ?_))
            go_roundw
            case rel => exact ⟨k + 1, by omega, by go_num, by rw [hsn, Int.add_zero], HB2.out⟩
            case measure => simp [intOf]; omega
        · have d_h2 : (pl == pp) = false := beq_eq_false_iff_ne.2 h2
          rw [if_neg (by omega)] at hsn hgb
          go_wp2_with (first
            | (refine wpList_load_at 24 (.tmp 16) rfl rfl (ad.add (k * 4)) rfl [.int .i64 kd, .int .i64 pl, .int .i64 nm, .int .i64 at_] (HCv.out _ (Below.refl _ _)) _ Try.underlying24 rfl (by kernel_rfl) ?_)
            | (refine wpList_store_blk rfl 24 (.tmp 11) (.tmp 17) rfl wo.heap.size #[.int .i64 kd, .int .i64 pl, .int .i64 nm, .int .i64 at_] rfl rfl _ _ (Blk.new wo 24 #[.int .i64 0, .int .i64 0, .int .i64 0, .int .i64 0]) (by kernel_rfl) rfl (by simp [Value.oneCell']) ?_
               intro w2 hx2 hon2
               have HX2 := Lib.hid hx2
               have c0 : w2.cell? ⟨wo.heap.size, 0, none⟩ = some (.int .i64 kd) := hx2.cell 0
               have c1 : w2.cell? ⟨wo.heap.size, 1, none⟩ = some (.int .i64 pl) := hx2.cell 1
               have c2 : w2.cell? ⟨wo.heap.size, 2, none⟩ = some (.int .i64 nm) := hx2.cell 2
               have c3 : w2.cell? ⟨wo.heap.size, 3, none⟩ = some (.int .i64 at_) := hx2.cell 3
               have hb2 := hon2.below (below_new wo (.cells #[.int .i64 0, .int .i64 0, .int .i64 0, .int .i64 0] 24)) (Nat.le_refl _)
               have hs2 : wo.heap.size < w2.heap.size := hx2.lt
               have HB2 := Lib.hid (HBr.out.trans (hb2.mono hszr))
               have z0 : w2.cell? ⟨w.heap.size, 0, none⟩ = some (.int .i64 a) := (HZo.out.below hb2 HZo.out.lt).cell 0
               have z1 : w2.cell? ⟨w.heap.size, 1, none⟩ = some (.int .i64 b) := (HZo.out.below hb2 HZo.out.lt).cell 1
               clear hx2 hon2 hb2)
            | (refine wpList_load_g 24 (.tmp 11) rfl rfl wo.heap.size rfl _ _ HX2.out _ Try.underlying24 rfl (by kernel_rfl) ?_))
          go_roundw
          case rel => exact ⟨k + 1, by omega, by go_num, by rw [hsn, Int.add_zero], HB2.out⟩
          case measure => simp [intOf]; omega
      · have d_h1 : (kd == kk) = false := beq_eq_false_iff_ne.2 h1
        rw [if_neg (by omega)] at hsn hgb
        go_wp2_with (first
          | (refine wpList_load_at 24 (.tmp 16) rfl rfl (ad.add (k * 4)) rfl [.int .i64 kd, .int .i64 pl, .int .i64 nm, .int .i64 at_] (HCv.out _ (Below.refl _ _)) _ Try.underlying24 rfl (by kernel_rfl) ?_)
          | (refine wpList_store_blk rfl 24 (.tmp 11) (.tmp 17) rfl wo.heap.size #[.int .i64 kd, .int .i64 pl, .int .i64 nm, .int .i64 at_] rfl rfl _ _ (Blk.new wo 24 #[.int .i64 0, .int .i64 0, .int .i64 0, .int .i64 0]) (by kernel_rfl) rfl (by simp [Value.oneCell']) ?_
             intro w2 hx2 hon2
             have HX2 := Lib.hid hx2
             have c0 : w2.cell? ⟨wo.heap.size, 0, none⟩ = some (.int .i64 kd) := hx2.cell 0
             have c1 : w2.cell? ⟨wo.heap.size, 1, none⟩ = some (.int .i64 pl) := hx2.cell 1
             have c2 : w2.cell? ⟨wo.heap.size, 2, none⟩ = some (.int .i64 nm) := hx2.cell 2
             have c3 : w2.cell? ⟨wo.heap.size, 3, none⟩ = some (.int .i64 at_) := hx2.cell 3
             have hb2 := hon2.below (below_new wo (.cells #[.int .i64 0, .int .i64 0, .int .i64 0, .int .i64 0] 24)) (Nat.le_refl _)
             have hs2 : wo.heap.size < w2.heap.size := hx2.lt
             have HB2 := Lib.hid (HBr.out.trans (hb2.mono hszr))
             have z0 : w2.cell? ⟨w.heap.size, 0, none⟩ = some (.int .i64 a) := (HZo.out.below hb2 HZo.out.lt).cell 0
             have z1 : w2.cell? ⟨w.heap.size, 1, none⟩ = some (.int .i64 b) := (HZo.out.below hb2 HZo.out.lt).cell 1
             clear hx2 hon2 hb2)
          | (refine wpList_load_g 24 (.tmp 11) rfl rfl wo.heap.size rfl _ _ HX2.out _ Try.underlying24 rfl (by kernel_rfl) ?_))
        go_roundw
        case rel => exact ⟨k + 1, by omega, by go_num, by rw [hsn, Int.add_zero], HB2.out⟩
        case measure => simp [intOf]; omega
    · obtain rfl : k = n := by omega
      go_wp2_with fail
      go_ret
      exact ⟨ret_int (by rw [HAll.out]), HB.out⟩

set_option maxRecDepth 100000 in
set_option maxHeartbeats 2000000 in
theorem rCount_any (v : Value) (l : List Cr) (kk pp a b : Int) (w : World) (hv : StrV Cr.cells 4 w w.heap.size v l) (hlen : l.length ≤ 2000) (hin : ∀ c ∈ l, inC c = true) :
    Calls Try.prog 20 #[v, .int .i64 kk, .int .i64 pp, .agg #[.int .i64 a, .int .i64 b]] w fun e w' => e = .returned (.int .i64 (cntC l kk pp a b)) ∧ Below w.heap.size w w' := by
  obtain ⟨A, n, c, rfl, HN, hc1, hc2, hr⟩ := hv.nam
  have HR := Lib.hid hr
  have hn : n ≤ 2000 := by rw [← HN.out]; exact hlen
  have HIn := Lib.hid hin
  have HBn : Hid (∀ k : Nat, -(1000 * (k : Int)) ≤ sumF (cntF kk pp a b) (l.take k) ∧ sumF (cntF kk pp a b) (l.take k) ≤ 1000 * (k : Int)) := fun k => sumF_take _ l k fun c hc => cntF_bound (HIn.out c hc) kk pp a b
  have HAll : Hid (cntC l kk pp a b = sumF (cntF kk pp a b) (l.take n)) := by show _ = _; rw [← HN.out, List.take_length]; rfl
  have HZ : Hid (sumF (cntF kk pp a b) (l.take 0) = 0) := by show _ = _; simp [sumF]
  have HSn : Hid (∀ k, k < n → sumF (cntF kk pp a b) (l.take (k + 1)) = sumF (cntF kk pp a b) (l.take k) + (cntF kk pp a b) (l.getD k cr0)) := fun k hk => sumF_snoc _ (by rw [HN.out]; exact hk)
  have HGd : Hid (∀ kd pl nm at_ : Int, (cntF kk pp a b) ⟨kd, pl, nm, at_⟩ = if kd = kk ∧ pl = pp ∧ a ≤ at_ ∧ at_ < b then nm else 0) := fun _ _ _ _ => rfl
  have HGb : Hid (∀ c ∈ l, -1000 ≤ (cntF kk pp a b) c ∧ (cntF kk pp a b) c ≤ 1000) := fun c hc => cntF_bound (HIn.out c hc) kk pp a b
  generalize (cntC l kk pp a b) = res at *
  generalize (cntF kk pp a b) = g at *
  obtain ⟨sm, hsm⟩ : ∃ sm : Nat → Int, (fun k => sumF g (l.take k)) = sm := ⟨_, rfl⟩
  have hsm2 : ∀ k, sumF g (l.take k) = sm k := fun k => by rw [← hsm]
  simp only [hsm2] at HBn HAll HZ HSn
  clear hsm hsm2 hv hr hin hlen
  go_enter Try.func20, Try.ntmps20
  go_wp2_with fail
  have HBw0 := (Blk.new w 34 #[.int .i64 a, .int .i64 b])
  have HLw0 := (below_new w (.cells #[.int .i64 a, .int .i64 b] 34))
  have hsw0 : (w.alloc (.cells #[.int .i64 a, .int .i64 b] 34)).heap.size = w.heap.size + 1 := by simp
  generalize w.alloc (.cells #[.int .i64 a, .int .i64 b] 34) = w0 at HBw0 HLw0 hsw0 ⊢
  replace HBw0 := Lib.hid HBw0
  replace HLw0 := Lib.hid HLw0
  have hlw0 : w.heap.size < w0.heap.size := by omega
  replace hsw0 := Lib.hid hsw0
  go_loopw [9, 10] (fun on i wr => ∃ k : Nat, k ≤ n ∧ i = .int .i64 k ∧ on = .int .i64 (sm k) ∧ Below w0.heap.size w0 wr) (fun _ i _ => n - (intOf i).toNat)
  case atStart => exact ⟨0, by omega, rfl, by rw [HZ.out], Below.refl _ _⟩
  case round =>
    obtain ⟨k, hk, rfl, rfl, hbr⟩ := hrel
    obtain ⟨wo, rfl⟩ : ∃ wo : World, wo = wr := ⟨_, rfl⟩
    have HB := Lib.hid (HLw0.out.trans (hbr.mono HLw0.out.size))
    have hsz := HB.out.size
    have HZo := Lib.hid (HBw0.out.below hbr hlw0)
    have HBr := Lib.hid hbr
    have hszr := hbr.size
    clear hbr
    have hbk := HBn.out k
    by_cases hlt : k < n
    · obtain ⟨ad, rfl, hadb, hcl⟩ := strs_at (HR.out.below HB.out) (fun _ => rfl) HN.out hlt cr0
      have hadw : ad.block < w.heap.size := hadb
      have hsn := HSn.out k hlt
      have hmem : l.getD k cr0 ∈ l := cr_mem (by rw [HN.out]; exact hlt)
      have hib := HIn.out _ hmem
      have hgb := HGb.out _ hmem
      obtain ⟨⟨kd, pl, nm, at_⟩, hq⟩ : ∃ q, l.getD k cr0 = q := ⟨_, rfl⟩
      rw [hq] at hcl hsn hib hgb
      rw [HGd.out] at hsn hgb
      have hnm := of_decide_eq_true hib
      simp only at hnm
      obtain ⟨S, hS⟩ : ∃ x, sm k = x := ⟨_, rfl⟩
      rw [hS] at hbk hsn ⊢
      have HCl : Hid (∀ j u, ([.int .i64 kd, .int .i64 pl, .int .i64 nm, .int .i64 at_] : List Value)[j]? = some u → wo.cell? ((ad.add (k * 4)).add j) = some u) := hcl
      have HCv : Hid (∀ (W : World), Below wo.heap.size wo W → ∀ j u, ([.int .i64 kd, .int .i64 pl, .int .i64 nm, .int .i64 at_] : List Value)[j]? = some u → W.cell? ((ad.add (k * 4)).add j) = some u) := fun W hW j u hu => (hW.cell (p := (ad.add (k * 4)).add j) (by rw [block_of_add, block_of_add]; omega)).trans (HCl.out j u hu)
      clear hq hS hmem hib
      have p0 : wo.cell? (ad.add (k * 4)) = some (.int .i64 kd) := hcl 0 _ rfl
      have p1 : wo.cell? ⟨(ad.add (k * 4)).block, (ad.add (k * 4)).off + 1, none⟩ = some (.int .i64 pl) := hcl 1 _ rfl
      have p2 : wo.cell? ⟨(ad.add (k * 4)).block, (ad.add (k * 4)).off + 2, none⟩ = some (.int .i64 nm) := hcl 2 _ rfl
      have p3 : wo.cell? ⟨(ad.add (k * 4)).block, (ad.add (k * 4)).off + 3, none⟩ = some (.int .i64 at_) := hcl 3 _ rfl
      have z0 : wo.cell? ⟨w.heap.size, 0, none⟩ = some (.int .i64 a) := HZo.out.cell 0
      have z1 : wo.cell? ⟨w.heap.size, 1, none⟩ = some (.int .i64 b) := HZo.out.cell 1
      clear hcl
      by_cases h1 : kd = kk
      · have d_h1 : (kd == kk) = true := beq_iff_eq.2 h1
        subst h1
        by_cases h2 : pl = pp
        · have d_h2 : (pl == pp) = true := beq_iff_eq.2 h2
          subst h2
          by_cases h3 : a ≤ at_
          · have d_h3 : decide (a ≤ at_) = true := decide_eq_true h3
            by_cases h4 : at_ < b
            · have d_h4 : decide (at_ < b) = true := decide_eq_true h4
              rw [if_pos ⟨rfl, rfl, h3, h4⟩] at hsn hgb
              have hwr : IntKind.i64.wrap (S + nm) = S + nm := IntWalk.i64_in _ (by omega)
              go_wp2_with fail
              go_quiet (fail)
              go_wp2_with fail
              go_roundw
              case rel => exact ⟨k + 1, by omega, by go_num, by first | (rw [hsn]; done) | (rw [hsn]; simp only [hwr]), below_drewN HBr.out _⟩
              case measure => simp [intOf]; omega
            · have d_h4 : decide (at_ < b) = false := decide_eq_false h4
              rw [if_neg (by omega)] at hsn hgb
              go_wp2_with fail
              go_quiet (fail)
              go_wp2_with fail
              go_roundw
              case rel => exact ⟨k + 1, by omega, by go_num, by rw [hsn, Int.add_zero], below_drewN HBr.out _⟩
              case measure => simp [intOf]; omega
          · have d_h3 : decide (a ≤ at_) = false := decide_eq_false h3
            rw [if_neg (by omega)] at hsn hgb
            go_wp2_with fail
            go_quiet (fail)
            go_wp2_with fail
            go_roundw
            case rel => exact ⟨k + 1, by omega, by go_num, by rw [hsn, Int.add_zero], below_drewN HBr.out _⟩
            case measure => simp [intOf]; omega
        · have d_h2 : (pl == pp) = false := beq_eq_false_iff_ne.2 h2
          rw [if_neg (by omega)] at hsn hgb
          go_wp2_with fail
          go_quiet (fail)
          go_wp2_with fail
          go_roundw
          case rel => exact ⟨k + 1, by omega, by go_num, by rw [hsn, Int.add_zero], below_drewN HBr.out _⟩
          case measure => simp [intOf]; omega
      · have d_h1 : (kd == kk) = false := beq_eq_false_iff_ne.2 h1
        rw [if_neg (by omega)] at hsn hgb
        go_wp2_with fail
        go_quiet (fail)
        go_wp2_with fail
        go_roundw
        case rel => exact ⟨k + 1, by omega, by go_num, by rw [hsn, Int.add_zero], below_drewN HBr.out _⟩
        case measure => simp [intOf]; omega
    · obtain rfl : k = n := by omega
      go_wp2_with fail
      go_ret
      exact ⟨ret_int (by rw [HAll.out]), HB.out⟩

end Go.Proofs.Ytihmboibpjfohaa
