/-
  The search of route: what it holds in memory; earliest, walked.
-/
import Derived.Test.YtbegehooefhiiaaRouC
namespace Go.Proofs.Ytbegehooefhiiaa
open Go.RowKit

/-- where the search's blocks lie -/
structure SeaK (lo gS gC gP gB n : Nat) (rw_ : Nat → Nat) : Prop where
  low : lo ≤ gS ∧ lo ≤ gC ∧ lo ≤ gP ∧ lo ≤ gB
  sp : gS ≠ gP
  sb : gS ≠ gB
  pb : gP ≠ gB
  cs : gC ≠ gS ∧ gC ≠ gP ∧ gC ≠ gB
  rs : ∀ i, i < n → rw_ i ≠ gS ∧ rw_ i ≠ gP ∧ rw_ i ≠ gB
abbrev OwnSh (w : World) (lo g n : Nat) (l : List Sh) : Prop := w.ownsRow lo 50 4 (.slice (some ⟨g, 0, none⟩) n n) n (l.map Sh.cells).flatten
structure SeaM (w : World) (lo gS gC gP gB : Nat) (A : Option Addr) (n c : Nat) (B : Option Addr) (nw cw : Nat) (rw_ rc : Nat → Nat) (ts : List Tk) (ws : List Bool) (plan best : List Sh) (en : Int) : Prop where
  st : Blk w gS 46 #[.slice A n c, .slice B nw cw, .slice (some ⟨gC, 0, none⟩) n n, .slice (some ⟨gP, 0, none⟩) n n, .slice (some ⟨gB, 0, none⟩) n n, .int .i64 en]
  pl : OwnSh w lo gP n plan
  be : OwnSh w lo gB n best
  co : ∀ i, i < n → w.cell? ⟨gC, i, none⟩ = some (.slice (some ⟨rw_ i, 0, none⟩) n (rc i))
  cr : ∀ i, i < n → ∀ j, j < n → w.cell? ⟨rw_ i, j, none⟩ = some (.bool (clashT (ts.getD i tk0) (ts.getD j tk0)))
  cl : ∀ i, i < n → gC < w.heap.size ∧ rw_ i < w.heap.size
  ts : Tks w lo A n ts
  ws : Bools w lo B nw ws
  lp : plan.length = n
  lb : best.length = n
  low : lo ≤ w.heap.size
section
variable {w w' : World} {lo gS gC gP gB : Nat} {A : Option Addr} {n c : Nat} {B : Option Addr} {nw cw : Nat} {rw_ rc : Nat → Nat} {ts : List Tk} {ws : List Bool} {plan best : List Sh} {en : Int}
theorem SeaM.below (h : SeaM w lo gS gC gP gB A n c B nw cw rw_ rc ts ws plan best en) (hb : Below w.heap.size w w') : SeaM w' lo gS gC gP gB A n c B nw cw rw_ rc ts ws plan best en :=
  ⟨h.st.below hb h.st.lt, own_below h.pl hb (Nat.le_refl _), own_below h.be hb (Nat.le_refl _), fun i hi => (hb.cell (h.cl i hi).1).trans (h.co i hi), fun i hi j hj => (hb.cell (h.cl i hi).2).trans (h.cr i hi j hj),
    fun i hi => ⟨Nat.lt_of_lt_of_le (h.cl i hi).1 hb.size, Nat.lt_of_lt_of_le (h.cl i hi).2 hb.size⟩, h.ts.below (hb.mono h.low), h.ws.below (hb.mono h.low), h.lp, h.lb, Nat.le_trans h.low hb.size⟩
end
theorem get_own {w : World} {lo g n : Nat} {l : List Sh} (h : OwnSh w lo g n l) (hl : l.length = n) {k : Nat} (hk : k < n) : ∀ j u, ((l.getD k sh0).cells)[j]? = some u → w.cell? ((⟨g, k * 4, none⟩ : Addr).add j) = some u := by
  obtain ⟨ad, e, _, hc⟩ := strs_at (f := Sh.cells) (s := 4) (Reads.of_own h) (fun _ => rfl) hl hk sh0
  injection e with e
  subst e
  rwa [show (⟨g, 0, none⟩ : Addr).add (k * 4) = ⟨g, k * 4, none⟩ by unfold Addr.add; split <;> simp_all] at hc
def cl_ (ts : List Tk) (i j : Nat) : Bool := clashT (ts.getD i tk0) (ts.getD j tk0)
theorem earlN_yes {p : Prob} {plan : List Sh} {i : Nat} {g : Int} {j : Nat} (h0 : (plan.getD j sh0).g ≠ 0) (h1 : (plan.getD j sh0).g = g ∨ p.cl i j = true) : earlN p plan i g (j + 1) = max (earlN p plan i g j) (plan.getD j sh0).tt := by rw [earlN, if_pos ⟨h0, h1⟩]
theorem earlN_no {p : Prob} {plan : List Sh} {i : Nat} {g : Int} {j : Nat} (h : ¬ ((plan.getD j sh0).g ≠ 0 ∧ ((plan.getD j sh0).g = g ∨ p.cl i j = true))) : earlN p plan i g (j + 1) = earlN p plan i g j := by rw [earlN, if_neg h]
set_option maxRecDepth 100000 in
set_option maxHeartbeats 8000000 in
theorem earliest_any (lo gS gC gP gB : Nat) (A : Option Addr) (n c : Nat) (B : Option Addr) (nw cw : Nat) (rw_ rc : Nat → Nat) (ts : List Tk) (ws : List Bool) (plan best : List Sh) (en : Int) (i : Nat) (g : Int) (w : World) (h : SeaM w lo gS gC gP gB A n c B nw cw rw_ rc ts ws plan best en) (hi : i < n) (hn : n ≤ 1000) (hrc : n ≤ rc i) :
    Calls Try.prog 24 #[.pointer (some ⟨gS, 0, none⟩), .int .i64 (i : Int), .int .i64 g] w fun e w' => e = .returned (.int .i64 (earl (probOf ts ws) plan i g)) ∧ Below w.heap.size w w' := by
  have HM := Lib.hid h
  have HLp := Lib.hid h.lp
  have H0 : Hid (earlN (probOf ts ws) plan i g 0 = 0) := hide rfl
  have HEn : Hid (earl (probOf ts ws) plan i g = earlN (probOf ts ws) plan i g n) := hide (by unfold earl; rw [h.lp])
  have HY : Hid (∀ j, (plan.getD j sh0).g ≠ 0 → ((plan.getD j sh0).g = g ∨ clashT (ts.getD i tk0) (ts.getD j tk0) = true) → earlN (probOf ts ws) plan i g (j + 1) = max (earlN (probOf ts ws) plan i g j) (plan.getD j sh0).tt) := fun j h1 h2 => earlN_yes h1 h2
  have HN : Hid (∀ j, ¬ ((plan.getD j sh0).g ≠ 0 ∧ ((plan.getD j sh0).g = g ∨ clashT (ts.getD i tk0) (ts.getD j tk0) = true)) → earlN (probOf ts ws) plan i g (j + 1) = earlN (probOf ts ws) plan i g j) := fun j h1 => earlN_no h1
  rw [HEn.out]
  generalize earlN (probOf ts ws) plan i g = E at *
  clear h HEn
  go_enter Try.func24, Try.ntmps24
  have c3 : w.cell? ⟨gS, 3, none⟩ = some (.slice (some ⟨gP, 0, none⟩) n n) := HM.out.st.cell 3
  go_wp2_with fail
  clear c3
  go_loopw [7, 15] (fun t q wr => ∃ j : Nat, j ≤ n ∧ q = .int .i64 j ∧ t = .int .i64 (E j) ∧ Below w.heap.size w wr) (fun _ q _ => n - (intOf q).toNat)
  case atStart => exact ⟨0, by omega, rfl, by rw [H0.out], Below.refl _ _⟩
  case round =>
    obtain ⟨j, hj, rfl, rfl, hbr⟩ := hrel
    obtain ⟨wo, rfl⟩ : ∃ wo : World, wo = wr := ⟨_, rfl⟩
    have HB := Lib.hid hbr
    have HMo := Lib.hid (HM.out.below hbr)
    clear hbr
    by_cases hlt : j < n
    · have HCl : Hid (∀ a u, ((plan.getD j sh0).cells)[a]? = some u → wo.cell? ((⟨gP, j * 4, none⟩ : Addr).add a) = some u) := hide (get_own HMo.out.pl HLp.out hlt)
      have HYj := Lib.hid (HY.out j)
      have HNj := Lib.hid (HN.out j)
      have HCo : Hid (wo.cell? ⟨gC, i, none⟩ = some (.slice (some ⟨rw_ i, 0, none⟩) n (rc i))) := hide (HMo.out.co i hi)
      have HCr : Hid (wo.cell? ⟨rw_ i, j, none⟩ = some (.bool (clashT (ts.getD i tk0) (ts.getD j tk0)))) := hide (HMo.out.cr i hi j hlt)
      have hcl := HMo.out.cl i hi
      generalize plan.getD j sh0 = q at *
      obtain ⟨qg, qrun, qfr, qtt⟩ := q
      generalize clashT (ts.getD i tk0) (ts.getD j tk0) = cb at *
      have HCl2 : Hid (∀ a u, ([.int .i64 qg, .int .i64 qrun, .int .i64 qfr, .int .i64 qtt] : List Value)[a]? = some u → wo.cell? ((⟨gP, j * 4, none⟩ : Addr).add a) = some u) := hide HCl.out
      simp only at HYj HNj
      obtain ⟨T, hT⟩ : ∃ x, E j = x := ⟨_, rfl⟩
      rw [hT] at HYj HNj ⊢
      clear HCl hT
      go_upto_region 5 with (refine wpList_load_at 50 (.tmp 18) rfl rfl ⟨gP, j * 4, none⟩ rfl [.int .i64 qg, .int .i64 qrun, .int .i64 qfr, .int .i64 qtt] HCl2.out _ Try.underlying50 rfl (by kernel_rfl) ?_)
      have HBw3 := (Blk.new wo 50 #[.int .i64 qg, .int .i64 qrun, .int .i64 qfr, .int .i64 qtt])
      have HLw3 := (below_new wo (.cells #[.int .i64 qg, .int .i64 qrun, .int .i64 qfr, .int .i64 qtt] 50))
      have hsw3 : (wo.alloc (.cells #[.int .i64 qg, .int .i64 qrun, .int .i64 qfr, .int .i64 qtt] 50)).heap.size = wo.heap.size + 1 := by simp
      generalize wo.alloc (.cells #[.int .i64 qg, .int .i64 qrun, .int .i64 qfr, .int .i64 qtt] 50) = w3 at HBw3 HLw3 hsw3 ⊢
      replace HBw3 := Lib.hid HBw3
      replace HLw3 := Lib.hid HLw3
      have hlw3 : wo.heap.size < w3.heap.size := by omega
      replace hsw3 := Lib.hid hsw3
      have HB3 := Lib.hid (HB.out.trans (HLw3.out.mono HB.out.size))
      have y0 : w3.cell? ⟨wo.heap.size, 0, none⟩ = some (.int .i64 qg) := HBw3.out.cell 0
      have y3 : w3.cell? ⟨wo.heap.size, 3, none⟩ = some (.int .i64 qtt) := HBw3.out.cell 3
      have s2 : w3.cell? ⟨gS, 2, none⟩ = some (.slice (some ⟨gC, 0, none⟩) n n) := (HMo.out.st.below HLw3.out HMo.out.st.lt).cell 2
      have cc : w3.cell? ⟨gC, i, none⟩ = some (.slice (some ⟨rw_ i, 0, none⟩) n (rc i)) := (HLw3.out.cell hcl.1).trans HCo.out
      have cr : w3.cell? ⟨rw_ i, j, none⟩ = some (.bool cb) := (HLw3.out.cell hcl.2).trans HCr.out
      clear HBw3 HLw3 hsw3 hlw3 HCl2 HCo HCr hcl
      by_cases h0 : qg = 0
      · have d1 : (qg != 0) = false := by rw [h0]; rfl
        have HE : Hid (E (j + 1) = T) := hide (HNj.out fun h => h.1 h0)
        clear h0
        go_wp2_with fail
        go_roundw
        case rel => exact ⟨j + 1, by omega, by go_num, by rw [HE.out], HB3.out⟩
        case measure => simp [intOf]; omega
      have d1 : (qg != 0) = true := bne_iff_ne.2 h0
      by_cases hc : qg = g ∨ cb = true
      · have HE : Hid (E (j + 1) = max T qtt) := hide (HYj.out h0 hc)
        by_cases h3 : T < qtt
        · have HE2 : Hid (E (j + 1) = qtt) := hide (by rw [HE.out]; omega)
          have h4 : ¬ qtt < T := by omega
          by_cases h5 : qg = g
          · have d2 : (qg == g) = true := beq_iff_eq.2 h5
            clear h5 hc h0
            go_wp2_with fail
            go_roundw
            case rel => exact ⟨j + 1, by omega, by go_num, by rw [HE2.out], HB3.out⟩
            case measure => simp [intOf]; omega
          · have d2 : (qg == g) = false := beq_eq_false_iff_ne.2 h5
            obtain rfl : cb = true := hc.resolve_left h5
            clear h5 hc h0
            go_wp2_with fail
            go_roundw
            case rel => exact ⟨j + 1, by omega, by go_num, by rw [HE2.out], HB3.out⟩
            case measure => simp [intOf]; omega
        · have HE2 : Hid (E (j + 1) = T) := hide (by rw [HE.out]; omega)
          by_cases h5 : qg = g
          · have d2 : (qg == g) = true := beq_iff_eq.2 h5
            clear h5 hc h0
            go_wp2_with fail
            go_roundw
            case rel => exact ⟨j + 1, by omega, by go_num, by rw [HE2.out], HB3.out⟩
            case measure => simp [intOf]; omega
          · have d2 : (qg == g) = false := beq_eq_false_iff_ne.2 h5
            obtain rfl : cb = true := hc.resolve_left h5
            clear h5 hc h0
            go_wp2_with fail
            go_roundw
            case rel => exact ⟨j + 1, by omega, by go_num, by rw [HE2.out], HB3.out⟩
            case measure => simp [intOf]; omega
      · have HE : Hid (E (j + 1) = T) := hide (HNj.out fun h => hc h.2)
        have d2 : (qg == g) = false := beq_eq_false_iff_ne.2 fun h => hc (.inl h)
        have d3 : cb = false := by
          cases hb : cb with
          | false => rfl
          | true => exact absurd (.inr hb) hc
        subst d3
        clear hc h0
        go_wp2_with fail
        go_roundw
        case rel => exact ⟨j + 1, by omega, by go_num, by rw [HE.out], HB3.out⟩
        case measure => simp [intOf]; omega
    · obtain rfl : j = n := by omega
      go_wp2_with fail
      go_ret
      exact ⟨rfl, HB.out⟩
end Go.Proofs.Ytbegehooefhiiaa
