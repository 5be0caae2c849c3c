/-
  Send and Groom of chapter 45, of the program and of its reference, walked.
-/
import Derived.Test.YtegijfmdjaehjaaGruB
import Derived.Test.YtegijfmdjaehjaaGroI
import Derived.Test.YtegijfmdjaehjaaOwnU
import Derived.Test.YtegijfmdjaehjaaTerR
namespace Go.Proofs.Ytegijfmdjaehjaa
open Go.RowKit

/-- what Send and Groom return -/
def SdR (r : List Gr × Int) (w : World) (e : Ending) (w' : World) : Prop := ∃ v, e = .returned (.tuple #[v, .int .i64 r.2]) ∧ OwnGr w' w.heap.size v r.1 ∧ Below w.heap.size w w'
theorem SdR.fin {r : List Gr × Int} {w w' : World} {ls : List Gr} {c : Int} {v : Value} (h : r = (ls, c)) (h1 : OwnGr w' w.heap.size v ls) (h2 : Below w.heap.size w w') : SdR r w (.returned (.tuple #[v, .int .i64 c])) w' := by
  subst h
  exact ⟨v, rfl, h1, h2⟩
theorem findG_cases (l : List Gr) (i : Int) : findG l i = -1 ∨ ∃ k : Nat, findG l i = (k : Int) ∧ k < l.length ∧ (l.getD k gr0).id = i := by
  rcases idxG_is (fun x => x.id == i) l 0 with ⟨h1, _⟩ | ⟨k, h1, h2, h3, _⟩
  · exact .inl h1
  · exact .inr ⟨k, by rw [findG, h1]; simp, h2, by simpa using h3⟩
theorem sendG_no {o : Int → Option Int} {l : List Gr} {id tg t : Int} (h : findG l id = -1) : sendG o l id tg t = ([], 8) := by unfold sendG; rw [h]; rfl
theorem sendG_at {o : Int → Option Int} {l : List Gr} {id tg t : Int} {k : Nat} (h : findG l id = (k : Int)) : sendG o l id tg t = sendV (o (l.getD k gr0).nod) l k tg t := by unfold sendG; rw [h, if_neg (by omega)]; simp
theorem wayO_bnd {nd : List Nd} {lf : List Lf} {rs : List Rn} (h : WyOK nd lf rs) {u v n : Int} (hw : wayO nd lf rs u v = some n) : 0 ≤ n ∧ n ≤ 1000000000000 := by
  unfold wayO at hw
  split at hw
  · obtain ⟨M, h1, h2, h3⟩ := lengths_bnd (es := lnE lf rs) v (fun e he => (h.edges e he).2.2) _ rfl
    have hlen := lnE_len lf rs
    have hl1 := h.l1
    have hl2 := h.l2
    cases ha : lengthsD (lnE lf rs) v u with
    | none => rw [ha] at hw; cases hw
    | some a =>
      rw [ha] at hw
      simp only [Option.map_some, Option.some.injEq] at hw
      have hb := h3 _ _ ha
      have hN : ((lnE lf rs).length : Int) ≤ 192 := by omega
      have hNN : ((lnE lf rs).length : Int) * ((lnE lf rs).length : Int) ≤ 192 * 192 := Int.mul_le_mul hN hN (by omega) (by omega)
      generalize ((lnE lf rs).length : Int) * ((lnE lf rs).length : Int) = q at *
      omega
  · cases hw
theorem own_lo {e : TypeId} {α : Type} {f : α → List Value} {s : Nat} {w : World} {base n c i : Nat} {ad : Addr} {l : List α} (h : OwnT e f s w base (.slice (some ad) n c) l) (hl : l.length = n) (_ : i < n) : base ≤ ad.block := by
  obtain ⟨_, ⟨h0, _⟩ | ⟨g, cap, cur, hv, hbg, _⟩⟩ := h.row hl
  · cases h0
  · injection hv with hv _ _
    injection hv with hv
    rw [hv]
    exact hbg
set_option maxRecDepth 100000 in
set_option maxHeartbeats 8000000 in
theorem gsend_any (vn vl vr vb : Value) (nd : List Nd) (lf : List Lf) (rs : List Rn) (v : Value) (l : List Gr) (gi tgt t : Int) (w : World) (hm : StrV Nd.cells 2 w w.heap.size vn nd) (hl : StrV Lf.cells 8 w w.heap.size vl lf) (hr : StrV Rn.cells 7 w w.heap.size vr rs) (hv : GrV w w.heap.size v l) (hok : WyOK nd lf rs) (hin : ∀ x ∈ l, inG x = true) (hlen : l.length ≤ 16) :
    Calls Try.prog 18 #[.agg #[vn, vl, vr, vb], v, .int .i64 gi, .int .i64 tgt, .int .i64 t] w (SdR (sendG (fun u => wayO nd lf rs u tgt) l gi tgt t) w) := by
  obtain ⟨A, n, c, rfl, HN, h3, h4, hr'⟩ := hv.nam
  have HV := Lib.hid hv
  have HR := Lib.hid hr'
  have HIn := Lib.hid hin
  have hn16 : n ≤ 16 := by rw [← HN.out]; exact hlen
  have HWy : Hid (∀ (u : Int) (W : World), Below w.heap.size w W → Calls Try.prog 15 #[.agg #[vn, vl, vr, vb], .int .i64 u, .int .i64 tgt] W (WayR (wayO nd lf rs u tgt) W)) := fun u W hb => way_any vn vl vr vb nd lf rs u tgt W (hm.now hb) (hl.now hb) (hr.now hb) hok
  have HBd : Hid (∀ u m, wayO nd lf rs u tgt = some m → 0 ≤ m ∧ m ≤ 1000000000000) := fun u m h => wayO_bnd hok h
  obtain ⟨wo, hwo⟩ : ∃ f, (fun u => wayO nd lf rs u tgt) = f := ⟨_, rfl⟩
  have hwo' : ∀ u, wayO nd lf rs u tgt = wo u := fun u => congrFun hwo u
  simp only [hwo'] at HWy HBd
  rw [hwo]
  clear hwo hwo'
  have HFin : Hid (∀ (ls : List Gr) (x : Int) (v' : Value) (w' : World), sendG wo l gi tgt t = (ls, x) → OwnGr w' w.heap.size v' ls → Below w.heap.size w w' → SdR (sendG wo l gi tgt t) w (.returned (.tuple #[v', .int .i64 x])) w') := fun ls x v' w' h1 h2 h3 => SdR.fin h1 h2 h3
  generalize SdR (sendG wo l gi tgt t) w = RR at *
  clear hm hl hr hok hv hr' hin
  go_enter Try.func18, Try.ntmps18
  go_wp2_with fail
  have HBwb := (Blk.new w 32 #[vn, vl, vr, vb])
  have HLwb := (below_new w (.cells #[vn, vl, vr, vb] 32))
  have hswb : (w.alloc (.cells #[vn, vl, vr, vb] 32)).heap.size = w.heap.size + 1 := by simp
  generalize w.alloc (.cells #[vn, vl, vr, vb] 32) = wb at HBwb HLwb hswb ⊢
  replace HBwb := Lib.hid HBwb
  replace HLwb := Lib.hid HLwb
  have hlwb : w.heap.size < wb.heap.size := by omega
  replace hswb := Lib.hid hswb
  have HWb := Lib.hid (HLwb.out)
  have hl0 : w.heap.size ≤ wb.heap.size := HWb.out.size
  have HBb : Hid (Below wb.heap.size wb wb) := hide (Below.refl _ _)
  have hszb : wb.heap.size ≤ wb.heap.size := Nat.le_refl _
  have HX0b : Hid (Blk wb w.heap.size 32 #[vn, vl, vr, vb]) := hide HBwb.out
  have hxx0 : w.heap.size < wb.heap.size := HX0b.out.lt
  clear HBwb HLwb hswb hlwb
  with_reducible refine (gfind_any _ l gi wb (HV.out.now HWb.out)).mono ?_
  rintro e w1 ⟨rfl, hb1⟩
  have HB1 := Lib.hid (HBb.out.trans (hb1.mono hszb))
  have HW1 := Lib.hid (HWb.out.trans (hb1.mono HWb.out.size))
  have hsz1 : wb.heap.size ≤ w1.heap.size := Nat.le_trans hszb hb1.size
  have HX01 := Lib.hid (HX0b.out.below hb1 (Nat.lt_of_lt_of_le hxx0 hszb))
  clear hb1
  have hw1 : w.heap.size ≤ w1.heap.size := HW1.out.size
  rcases findG_cases l gi with hz | ⟨i, hz, hil, hid⟩
  · rw [hz]
    have HE := Lib.hid (sendG_no (o := wo) (tg := tgt) (t := t) hz)
    clear hz
    go_wp2_with fail
    try go_ret2
    exact HFin.out [] 8 _ _ HE.out (OwnT.nil _ _ _ _ _) HW1.out
  · rw [hz]
    have hin : i < n := by rw [← HN.out]; exact hil
    have HS := Lib.hid (sendG_at (o := wo) (tg := tgt) (t := t) hz)
    unfold sendV at HS
    clear hz hid
    obtain ⟨ad, rfl, hab, hcl⟩ := strs_at (HR.out.below HW1.out) (fun _ => rfl) HN.out hin gr0
    have HIg := Lib.hid (inG_iff (HIn.out _ (gr_mem (l := l) (k := i) hil)))
    generalize l.getD i gr0 = q at *
    obtain ⟨id, nod, fuel, st, tg, run, til, win⟩ := q
    simp only at HIg
    have HCl : Hid (∀ j u, ([.int .i64 id, .int .i64 nod, .int .i64 fuel, .int .i64 st, .int .i64 tg, .int .i64 run, .int .i64 til, .bool win] : List Value)[j]? = some u → w1.cell? ((ad.add (i * 8)).add j) = some u) := hcl
    clear hcl
    go_upto_region 5 with (refine wpList_load_at 51 (.tmp 25) rfl rfl (ad.add (i * 8)) rfl [.int .i64 id, .int .i64 nod, .int .i64 fuel, .int .i64 st, .int .i64 tg, .int .i64 run, .int .i64 til, .bool win] HCl.out _ Try.underlying51 rfl (by kernel_rfl) ?_)
    have HBw2 := (Blk.new w1 51 #[.int .i64 id, .int .i64 nod, .int .i64 fuel, .int .i64 st, .int .i64 tg, .int .i64 run, .int .i64 til, .bool win])
    have HLw2 := (below_new w1 (.cells #[.int .i64 id, .int .i64 nod, .int .i64 fuel, .int .i64 st, .int .i64 tg, .int .i64 run, .int .i64 til, .bool win] 51))
    have hsw2 : (w1.alloc (.cells #[.int .i64 id, .int .i64 nod, .int .i64 fuel, .int .i64 st, .int .i64 tg, .int .i64 run, .int .i64 til, .bool win] 51)).heap.size = w1.heap.size + 1 := by simp
    generalize w1.alloc (.cells #[.int .i64 id, .int .i64 nod, .int .i64 fuel, .int .i64 st, .int .i64 tg, .int .i64 run, .int .i64 til, .bool win] 51) = w2 at HBw2 HLw2 hsw2 ⊢
    replace HBw2 := Lib.hid HBw2
    replace HLw2 := Lib.hid HLw2
    have hlw2 : w1.heap.size < w2.heap.size := by omega
    replace hsw2 := Lib.hid hsw2
    have hb2 := HLw2.out
    have HLg2 := HBw2
    clear HBw2 HLw2 hsw2 hlw2 HCl
    have HB2 := Lib.hid (HB1.out.trans (hb2.mono hsz1))
    have HW2 := Lib.hid (HW1.out.trans (hb2.mono HW1.out.size))
    have hsz2 : wb.heap.size ≤ w2.heap.size := Nat.le_trans hsz1 hb2.size
    have HX02 := Lib.hid (HX01.out.below hb2 (Nat.lt_of_lt_of_le hxx0 hsz1))
    clear hb2
    have c0 : w2.cell? ⟨w1.heap.size, 0, none⟩ = some (.int .i64 id) := HLg2.out.cell 0
    have c1 : w2.cell? ⟨w1.heap.size, 1, none⟩ = some (.int .i64 nod) := HLg2.out.cell 1
    have c2 : w2.cell? ⟨w1.heap.size, 2, none⟩ = some (.int .i64 fuel) := HLg2.out.cell 2
    have c3 : w2.cell? ⟨w1.heap.size, 3, none⟩ = some (.int .i64 st) := HLg2.out.cell 3
    have c4 : w2.cell? ⟨w1.heap.size, 4, none⟩ = some (.int .i64 tg) := HLg2.out.cell 4
    have c5 : w2.cell? ⟨w1.heap.size, 5, none⟩ = some (.int .i64 run) := HLg2.out.cell 5
    have c6 : w2.cell? ⟨w1.heap.size, 6, none⟩ = some (.int .i64 til) := HLg2.out.cell 6
    have c7 : w2.cell? ⟨w1.heap.size, 7, none⟩ = some (.bool win) := HLg2.out.cell 7
    by_cases hst : st = 0
    · have ds : (st != 0) = false := by rw [hst]; rfl
      subst hst
      have HS1 := Lib.hid (HS.out.trans (if_neg (by simp)))
      clear HS
      obtain ⟨ow, how⟩ : ∃ o, wo nod = o := ⟨_, rfl⟩
      have HWn := Lib.hid (HWy.out nod)
      rw [how] at HWn HS1
      have HO := Lib.hid how
      clear how
      go_wp2_with
        (first
         | (refine wpList_load_g 32 (.tmp 5) rfl rfl w.heap.size rfl _ _ HX02.out _ Try.underlying32 rfl (by kernel_rfl) ?_))
      with_reducible refine (HWn.out _ HW2.out).mono ?_
      rintro e w3 ⟨rfl, hb3⟩
      have HB3 := Lib.hid (HB2.out.trans (hb3.mono hsz2))
      have HW3 := Lib.hid (HW2.out.trans (hb3.mono HW2.out.size))
      have hsz3 : wb.heap.size ≤ w3.heap.size := Nat.le_trans hsz2 hb3.size
      have HX03 := Lib.hid (HX02.out.below hb3 (Nat.lt_of_lt_of_le hxx0 hsz2))
      have HLg3 := Lib.hid (HLg2.out.below hb3 HLg2.out.lt)
      clear hb3
      cases ow with
      | none =>
        have HE := Lib.hid HS1.out
        go_wp2_with fail
        try go_ret2
        exact HFin.out [] 8 _ _ HE.out (OwnT.nil _ _ _ _ _) HW3.out
      | some m =>
        have hmb := HBd.out nod m HO.out
        have hig := HIg.out
        simp only at HS1
        clear c0 c1 c2 c3 c4 c5 c6 c7
        have c0 : w3.cell? ⟨w1.heap.size, 0, none⟩ = some (.int .i64 id) := HLg3.out.cell 0
        have c1 : w3.cell? ⟨w1.heap.size, 1, none⟩ = some (.int .i64 nod) := HLg3.out.cell 1
        have c2 : w3.cell? ⟨w1.heap.size, 2, none⟩ = some (.int .i64 fuel) := HLg3.out.cell 2
        have c3 : w3.cell? ⟨w1.heap.size, 3, none⟩ = some (.int .i64 0) := HLg3.out.cell 3
        have c4 : w3.cell? ⟨w1.heap.size, 4, none⟩ = some (.int .i64 tg) := HLg3.out.cell 4
        have c5 : w3.cell? ⟨w1.heap.size, 5, none⟩ = some (.int .i64 run) := HLg3.out.cell 5
        have c6 : w3.cell? ⟨w1.heap.size, 6, none⟩ = some (.int .i64 til) := HLg3.out.cell 6
        have c7 : w3.cell? ⟨w1.heap.size, 7, none⟩ = some (.bool win) := HLg3.out.cell 7
        by_cases hf : fuel < 2 * m
        · have df : decide (2 * m > fuel) = true := decide_eq_true hf
          have HE : Hid (sendG wo l gi tgt t = ([], 5)) := hide (by have h := HS1.out; rw [if_pos hf] at h; exact h)
          clear hig
          go_wp2_with fail
          try go_ret2
          exact HFin.out [] 5 _ _ HE.out (OwnT.nil _ _ _ _ _) HW3.out
        · have df : decide (2 * m > fuel) = false := decide_eq_false hf
          have HS2 := Lib.hid (HS1.out.trans (if_neg hf))
          clear HS1
          obtain ⟨sec, hsec⟩ : ∃ x, (m + 2) / 3 = x := ⟨_, rfl⟩
          have hsb : 0 ≤ sec ∧ sec ≤ 1000000000000 := by omega
          rw [hsec] at HS2
          have hse : Int.tdiv (m + 2) 3 = sec := by rw [Int.tdiv_eq_ediv_of_nonneg (by omega)]; exact hsec
          have HSec := Lib.hid hsec
          clear hsec
          by_cases ht0 : t < 0
          · have dt : decide (t < 0) = true := decide_eq_true ht0
            have HE : Hid (sendG wo l gi tgt t = ([], 2)) := hide (by have h := HS2.out; rw [if_pos (Or.inl ht0)] at h; exact h)
            go_wp2_with fail
            try go_ret2
            exact HFin.out [] 2 _ _ HE.out (OwnT.nil _ _ _ _ _) HW3.out
          · have dt : decide (t < 0) = false := decide_eq_false ht0
            by_cases ht1 : 20000000 - sec < t
            · have dt1 : decide (t > 20000000 - sec) = true := decide_eq_true ht1
              have HE : Hid (sendG wo l gi tgt t = ([], 2)) := hide (by have h := HS2.out; rw [if_pos (Or.inr ht1)] at h; exact h)
              go_wp2_with fail
              try go_ret2
              exact HFin.out [] 2 _ _ HE.out (OwnT.nil _ _ _ _ _) HW3.out
            · have dt1 : decide (t > 20000000 - sec) = false := decide_eq_false ht1
              have HE : Hid (sendG wo l gi tgt t = (l.set i ⟨id, nod, fuel - 2 * m, 1, tgt, run, t + sec, win⟩, 0)) := hide (by have h := HS2.out; rw [if_neg (by omega)] at h; simp only [sentG, HSec.out] at h; exact h)
              clear HS2 HSec
              go_upto_region 16 with (first
                | (refine wpList_store_field 3 (.tmp 60) (.const (.int .i64 1)) rfl rfl w1.heap.size 3 (.int .i64 1) rfl rfl _ _ HLg3.out (by kernel_rfl) (by simp) rfl rfl ?_
                   intro w4 hx4 hon4
                   have HLg4 : Hid (Blk w4 w1.heap.size 51 #[.int .i64 id, .int .i64 nod, .int .i64 fuel, .int .i64 1, .int .i64 tg, .int .i64 run, .int .i64 til, .bool win]) := hide hx4
                   have HW4 := Lib.hid (hon4.below HW3.out hw1)
                   clear hx4 hon4)
                | (refine wpList_store_field 3 (.tmp 61) (.tmp 56) rfl rfl w1.heap.size 4 (.int .i64 tgt) rfl rfl _ _ HLg4.out (by kernel_rfl) (by simp) rfl rfl ?_
                   intro w5 hx5 hon5
                   have HLg5 : Hid (Blk w5 w1.heap.size 51 #[.int .i64 id, .int .i64 nod, .int .i64 fuel, .int .i64 1, .int .i64 tgt, .int .i64 run, .int .i64 til, .bool win]) := hide hx5
                   have HW5 := Lib.hid (hon5.below HW4.out hw1)
                   clear hx5 hon5)
                | (refine wpList_store_field 3 (.tmp 62) (.tmp 59) rfl rfl w1.heap.size 6 (.int .i64 (t + sec)) rfl rfl _ _ HLg5.out (by kernel_rfl) (by simp) rfl rfl ?_
                   intro w6 hx6 hon6
                   have HLg6 : Hid (Blk w6 w1.heap.size 51 #[.int .i64 id, .int .i64 nod, .int .i64 fuel, .int .i64 1, .int .i64 tgt, .int .i64 run, .int .i64 (t + sec), .bool win]) := hide hx6
                   have HW6 := Lib.hid (hon6.below HW5.out hw1)
                   clear hx6 hon6))
              clear c0 c1 c2 c3 c4 c5 c6 c7
              have c0 : w6.cell? ⟨w1.heap.size, 0, none⟩ = some (.int .i64 id) := HLg6.out.cell 0
              have c1 : w6.cell? ⟨w1.heap.size, 1, none⟩ = some (.int .i64 nod) := HLg6.out.cell 1
              have c2 : w6.cell? ⟨w1.heap.size, 2, none⟩ = some (.int .i64 fuel) := HLg6.out.cell 2
              have c3 : w6.cell? ⟨w1.heap.size, 3, none⟩ = some (.int .i64 1) := HLg6.out.cell 3
              have c4 : w6.cell? ⟨w1.heap.size, 4, none⟩ = some (.int .i64 tgt) := HLg6.out.cell 4
              have c5 : w6.cell? ⟨w1.heap.size, 5, none⟩ = some (.int .i64 run) := HLg6.out.cell 5
              have c6 : w6.cell? ⟨w1.heap.size, 6, none⟩ = some (.int .i64 (t + sec)) := HLg6.out.cell 6
              have c7 : w6.cell? ⟨w1.heap.size, 7, none⟩ = some (.bool win) := HLg6.out.cell 7
              go_upto_region 17 with (refine wpList_store_field 3 (.tmp 68) (.tmp 67) rfl rfl w1.heap.size 2 (.int .i64 (fuel - 2 * m)) rfl rfl _ _ HLg6.out (by kernel_rfl) (by simp) rfl rfl ?_
                                      intro w7 hx7 hon7
                                      have HLg7 : Hid (Blk w7 w1.heap.size 51 #[.int .i64 id, .int .i64 nod, .int .i64 (fuel - 2 * m), .int .i64 1, .int .i64 tgt, .int .i64 run, .int .i64 (t + sec), .bool win]) := hide hx7
                                      have HW7 := Lib.hid (hon7.below HW6.out hw1)
                                      clear hx7 hon7)
              clear c0 c1 c2 c3 c4 c5 c6 c7 ds df dt dt1 hse
              go_wp2_with fail
              have hs9 := HR.out.now HW7.out
              with_reducible refine (gclone_any (some ad) n c l w7 w.heap.size hs9 HN.out h3 h4 (by omega) HW7.out.size).mono ?_
              rintro e w10 ⟨v10, rfl, hO10, hb10⟩
              have HLg10 := Lib.hid (HLg7.out.below hb10 HLg7.out.lt)
              have HW10 := Lib.hid (HW7.out.trans (hb10.mono HW7.out.size))
              obtain ⟨A10, n10, c10, rfl, HN10, h13, h14, hs10⟩ := hO10.nam
              obtain rfl : n = n10 := by rw [← HN10.out, HN.out]
              obtain ⟨ad10, rfl, hab10, _⟩ := strs_at hs10 (fun _ => rfl) HN10.out hin gr0
              have hlo10 : w.heap.size ≤ ad10.block := own_lo hO10 HN10.out hin
              have HO10 := Lib.hid hO10
              unfold maxLen at h14
              clear hO10 hs10 hs9 hb10
              go_wp2_with
                (first
                 | (refine wpList_load_g 51 (.tmp 13) rfl rfl w1.heap.size rfl _ _ HLg10.out _ Try.underlying51 rfl (by kernel_rfl) ?_)
                 | (refine wpList_store_ownT 51 (.tmp 74) (.tmp 73) rfl rfl HO10.out HN10.out i hin ⟨id, nod, fuel - 2 * m, 1, tgt, run, t + sec, win⟩ _ rfl rfl rfl (fun _ => rfl) (by kernel_rfl) (one_gr _) ?_
                    intro w11 hO11 hon11
                    have HO11 := Lib.hid hO11
                    have HW11 := Lib.hid (hon11.below HW10.out hlo10)
                    clear hO11 hon11))
              try go_ret2
              exact HFin.out _ _ _ _ HE.out HO11.out HW11.out
    · have ds : (st != 0) = true := bne_iff_ne.2 hst
      have HE := Lib.hid (HS.out.trans (if_pos (by simpa using hst)))
      go_wp2_with fail
      try go_ret2
      exact HFin.out [] 10 _ _ HE.out (OwnT.nil _ _ _ _ _) HW2.out
set_option maxRecDepth 100000 in
set_option maxHeartbeats 8000000 in
theorem rgsend_any (vn vl vr vb : Value) (nd : List Nd) (lf : List Lf) (rs : List Rn) (v : Value) (l : List Gr) (gi tgt t : Int) (w : World) (hm : StrV Nd.cells 2 w w.heap.size vn nd) (hl : StrV Lf.cells 8 w w.heap.size vl lf) (hr : StrV Rn.cells 7 w w.heap.size vr rs) (hv : GrV w w.heap.size v l) (hok : WyOK nd lf rs) (hrk : RwOK nd lf rs) (hin : ∀ x ∈ l, inG x = true) (hlen : l.length ≤ 16) :
    Calls Try.prog 19 #[.agg #[vn, vl, vr, vb], v, .int .i64 gi, .int .i64 tgt, .int .i64 t] w (SdR (sendG (fun u => wayO nd lf rs u tgt) l gi tgt t) w) := by
  obtain ⟨A, n, c, rfl, HN, h3, h4, hr'⟩ := hv.nam
  have HV := Lib.hid hv
  have HR := Lib.hid hr'
  have HIn := Lib.hid hin
  have hn16 : n ≤ 16 := by rw [← HN.out]; exact hlen
  have HWy : Hid (∀ (u : Int) (W : World), Below w.heap.size w W → Calls Try.prog 16 #[.agg #[vn, vl, vr, vb], .int .i64 u, .int .i64 tgt] W (WayR (wayO nd lf rs u tgt) W)) := fun u W hb => rway_any vn vl vr vb nd lf rs u tgt W (hm.now hb) (hl.now hb) (hr.now hb) hrk
  have HBd : Hid (∀ u m, wayO nd lf rs u tgt = some m → 0 ≤ m ∧ m ≤ 1000000000000) := fun u m h => wayO_bnd hok h
  obtain ⟨wo, hwo⟩ : ∃ f, (fun u => wayO nd lf rs u tgt) = f := ⟨_, rfl⟩
  have hwo' : ∀ u, wayO nd lf rs u tgt = wo u := fun u => congrFun hwo u
  simp only [hwo'] at HWy HBd
  rw [hwo]
  clear hwo hwo'
  have HFin : Hid (∀ (ls : List Gr) (x : Int) (v' : Value) (w' : World), sendG wo l gi tgt t = (ls, x) → OwnGr w' w.heap.size v' ls → Below w.heap.size w w' → SdR (sendG wo l gi tgt t) w (.returned (.tuple #[v', .int .i64 x])) w') := fun ls x v' w' h1 h2 h3 => SdR.fin h1 h2 h3
  generalize SdR (sendG wo l gi tgt t) w = RR at *
  clear hm hl hr hok hv hr' hin hrk
  go_enter Try.func19, Try.ntmps19
  go_wp2_with fail
  have HBwb := (Blk.new w 32 #[vn, vl, vr, vb])
  have HLwb := (below_new w (.cells #[vn, vl, vr, vb] 32))
  have hswb : (w.alloc (.cells #[vn, vl, vr, vb] 32)).heap.size = w.heap.size + 1 := by simp
  generalize w.alloc (.cells #[vn, vl, vr, vb] 32) = wb at HBwb HLwb hswb ⊢
  replace HBwb := Lib.hid HBwb
  replace HLwb := Lib.hid HLwb
  have hlwb : w.heap.size < wb.heap.size := by omega
  replace hswb := Lib.hid hswb
  have HWb := Lib.hid (HLwb.out)
  have hl0 : w.heap.size ≤ wb.heap.size := HWb.out.size
  have HBb : Hid (Below wb.heap.size wb wb) := hide (Below.refl _ _)
  have hszb : wb.heap.size ≤ wb.heap.size := Nat.le_refl _
  have HX0b : Hid (Blk wb w.heap.size 32 #[vn, vl, vr, vb]) := hide HBwb.out
  have hxx0 : w.heap.size < wb.heap.size := HX0b.out.lt
  clear HBwb HLwb hswb hlwb
  with_reducible refine (rindex_any _ l gi wb (HV.out.now HWb.out)).mono ?_
  rintro e w1 ⟨rfl, rfl⟩
  have hw1 : w.heap.size ≤ wb.heap.size := hl0
  rcases findG_cases l gi with hz | ⟨i, hz, hil, hid⟩
  · rw [hz]
    have HE := Lib.hid (sendG_no (o := wo) (tg := tgt) (t := t) hz)
    clear hz
    go_wp2_with fail
    try go_ret2
    exact HFin.out [] 8 _ _ HE.out (OwnT.nil _ _ _ _ _) HWb.out
  · rw [hz]
    have hin : i < n := by rw [← HN.out]; exact hil
    have HS := Lib.hid (sendG_at (o := wo) (tg := tgt) (t := t) hz)
    unfold sendV at HS
    clear hz hid
    obtain ⟨ad, rfl, hab, hcl⟩ := strs_at (HR.out.below HWb.out) (fun _ => rfl) HN.out hin gr0
    have HIg := Lib.hid (inG_iff (HIn.out _ (gr_mem (l := l) (k := i) hil)))
    generalize l.getD i gr0 = q at *
    obtain ⟨id, nod, fuel, st, tg, run, til, win⟩ := q
    simp only at HIg
    have HCl : Hid (∀ j u, ([.int .i64 id, .int .i64 nod, .int .i64 fuel, .int .i64 st, .int .i64 tg, .int .i64 run, .int .i64 til, .bool win] : List Value)[j]? = some u → wb.cell? ((ad.add (i * 8)).add j) = some u) := hcl
    clear hcl
    go_upto_region 5 with (refine wpList_load_at 51 (.tmp 24) rfl rfl (ad.add (i * 8)) rfl [.int .i64 id, .int .i64 nod, .int .i64 fuel, .int .i64 st, .int .i64 tg, .int .i64 run, .int .i64 til, .bool win] HCl.out _ Try.underlying51 rfl (by kernel_rfl) ?_)
    have HBw2 := (Blk.new wb 51 #[.int .i64 id, .int .i64 nod, .int .i64 fuel, .int .i64 st, .int .i64 tg, .int .i64 run, .int .i64 til, .bool win])
    have HLw2 := (below_new wb (.cells #[.int .i64 id, .int .i64 nod, .int .i64 fuel, .int .i64 st, .int .i64 tg, .int .i64 run, .int .i64 til, .bool win] 51))
    have hsw2 : (wb.alloc (.cells #[.int .i64 id, .int .i64 nod, .int .i64 fuel, .int .i64 st, .int .i64 tg, .int .i64 run, .int .i64 til, .bool win] 51)).heap.size = wb.heap.size + 1 := by simp
    generalize wb.alloc (.cells #[.int .i64 id, .int .i64 nod, .int .i64 fuel, .int .i64 st, .int .i64 tg, .int .i64 run, .int .i64 til, .bool win] 51) = w2 at HBw2 HLw2 hsw2 ⊢
    replace HBw2 := Lib.hid HBw2
    replace HLw2 := Lib.hid HLw2
    have hlw2 : wb.heap.size < w2.heap.size := by omega
    replace hsw2 := Lib.hid hsw2
    have hb2 := HLw2.out
    have HLg2 := HBw2
    clear HBw2 HLw2 hsw2 hlw2 HCl
    have HB2 := Lib.hid (HBb.out.trans (hb2.mono hszb))
    have HW2 := Lib.hid (HWb.out.trans (hb2.mono HWb.out.size))
    have hsz2 : wb.heap.size ≤ w2.heap.size := Nat.le_trans hszb hb2.size
    have HX02 := Lib.hid (HX0b.out.below hb2 (Nat.lt_of_lt_of_le hxx0 hszb))
    clear hb2
    have c0 : w2.cell? ⟨wb.heap.size, 0, none⟩ = some (.int .i64 id) := HLg2.out.cell 0
    have c1 : w2.cell? ⟨wb.heap.size, 1, none⟩ = some (.int .i64 nod) := HLg2.out.cell 1
    have c2 : w2.cell? ⟨wb.heap.size, 2, none⟩ = some (.int .i64 fuel) := HLg2.out.cell 2
    have c3 : w2.cell? ⟨wb.heap.size, 3, none⟩ = some (.int .i64 st) := HLg2.out.cell 3
    have c4 : w2.cell? ⟨wb.heap.size, 4, none⟩ = some (.int .i64 tg) := HLg2.out.cell 4
    have c5 : w2.cell? ⟨wb.heap.size, 5, none⟩ = some (.int .i64 run) := HLg2.out.cell 5
    have c6 : w2.cell? ⟨wb.heap.size, 6, none⟩ = some (.int .i64 til) := HLg2.out.cell 6
    have c7 : w2.cell? ⟨wb.heap.size, 7, none⟩ = some (.bool win) := HLg2.out.cell 7
    by_cases hst : st = 0
    · have ds : (st != 0) = false := by rw [hst]; rfl
      subst hst
      have HS1 := Lib.hid (HS.out.trans (if_neg (by simp)))
      clear HS
      obtain ⟨ow, how⟩ : ∃ o, wo nod = o := ⟨_, rfl⟩
      have HWn := Lib.hid (HWy.out nod)
      rw [how] at HWn HS1
      have HO := Lib.hid how
      clear how
      go_wp2_with
        (first
         | (refine wpList_load_g 32 (.tmp 5) rfl rfl w.heap.size rfl _ _ HX02.out _ Try.underlying32 rfl (by kernel_rfl) ?_))
      with_reducible refine (HWn.out _ HW2.out).mono ?_
      rintro e w3 ⟨rfl, hb3⟩
      have HB3 := Lib.hid (HB2.out.trans (hb3.mono hsz2))
      have HW3 := Lib.hid (HW2.out.trans (hb3.mono HW2.out.size))
      have hsz3 : wb.heap.size ≤ w3.heap.size := Nat.le_trans hsz2 hb3.size
      have HX03 := Lib.hid (HX02.out.below hb3 (Nat.lt_of_lt_of_le hxx0 hsz2))
      have HLg3 := Lib.hid (HLg2.out.below hb3 HLg2.out.lt)
      clear hb3
      cases ow with
      | none =>
        have HE := Lib.hid HS1.out
        go_wp2_with fail
        try go_ret2
        exact HFin.out [] 8 _ _ HE.out (OwnT.nil _ _ _ _ _) HW3.out
      | some m =>
        have hmb := HBd.out nod m HO.out
        have hig := HIg.out
        simp only at HS1
        clear c0 c1 c2 c3 c4 c5 c6 c7
        have c0 : w3.cell? ⟨wb.heap.size, 0, none⟩ = some (.int .i64 id) := HLg3.out.cell 0
        have c1 : w3.cell? ⟨wb.heap.size, 1, none⟩ = some (.int .i64 nod) := HLg3.out.cell 1
        have c2 : w3.cell? ⟨wb.heap.size, 2, none⟩ = some (.int .i64 fuel) := HLg3.out.cell 2
        have c3 : w3.cell? ⟨wb.heap.size, 3, none⟩ = some (.int .i64 0) := HLg3.out.cell 3
        have c4 : w3.cell? ⟨wb.heap.size, 4, none⟩ = some (.int .i64 tg) := HLg3.out.cell 4
        have c5 : w3.cell? ⟨wb.heap.size, 5, none⟩ = some (.int .i64 run) := HLg3.out.cell 5
        have c6 : w3.cell? ⟨wb.heap.size, 6, none⟩ = some (.int .i64 til) := HLg3.out.cell 6
        have c7 : w3.cell? ⟨wb.heap.size, 7, none⟩ = some (.bool win) := HLg3.out.cell 7
        by_cases hf : fuel < 2 * m
        · have df : decide (2 * m > fuel) = true := decide_eq_true hf
          have HE : Hid (sendG wo l gi tgt t = ([], 5)) := hide (by have h := HS1.out; rw [if_pos hf] at h; exact h)
          clear hig
          go_wp2_with fail
          try go_ret2
          exact HFin.out [] 5 _ _ HE.out (OwnT.nil _ _ _ _ _) HW3.out
        · have df : decide (2 * m > fuel) = false := decide_eq_false hf
          have HS2 := Lib.hid (HS1.out.trans (if_neg hf))
          clear HS1
          obtain ⟨sec, hsec⟩ : ∃ x, (m + 2) / 3 = x := ⟨_, rfl⟩
          have hsb : 0 ≤ sec ∧ sec ≤ 1000000000000 := by omega
          rw [hsec] at HS2
          have hse : Int.tdiv (m + 2) 3 = sec := by rw [Int.tdiv_eq_ediv_of_nonneg (by omega)]; exact hsec
          have HSec := Lib.hid hsec
          clear hsec
          by_cases ht0 : t < 0
          · have dt : decide (t < 0) = true := decide_eq_true ht0
            have HE : Hid (sendG wo l gi tgt t = ([], 2)) := hide (by have h := HS2.out; rw [if_pos (Or.inl ht0)] at h; exact h)
            go_wp2_with fail
            try go_ret2
            exact HFin.out [] 2 _ _ HE.out (OwnT.nil _ _ _ _ _) HW3.out
          · have dt : decide (t < 0) = false := decide_eq_false ht0
            by_cases ht1 : 20000000 - sec < t
            · have dt1 : decide (t > 20000000 - sec) = true := decide_eq_true ht1
              have HE : Hid (sendG wo l gi tgt t = ([], 2)) := hide (by have h := HS2.out; rw [if_pos (Or.inr ht1)] at h; exact h)
              go_wp2_with fail
              try go_ret2
              exact HFin.out [] 2 _ _ HE.out (OwnT.nil _ _ _ _ _) HW3.out
            · have dt1 : decide (t > 20000000 - sec) = false := decide_eq_false ht1
              have HE : Hid (sendG wo l gi tgt t = (l.set i ⟨id, nod, fuel - 2 * m, 1, tgt, run, t + sec, win⟩, 0)) := hide (by have h := HS2.out; rw [if_neg (by omega)] at h; simp only [sentG, HSec.out] at h; exact h)
              clear HS2 HSec
              go_upto_region 18 with (first
                | (refine wpList_store_field 3 (.tmp 55) (.const (.int .i64 1)) rfl rfl wb.heap.size 3 (.int .i64 1) rfl rfl _ _ HLg3.out (by kernel_rfl) (by simp) rfl rfl ?_
                   intro w4 hx4 hon4
                   have HLg4 : Hid (Blk w4 wb.heap.size 51 #[.int .i64 id, .int .i64 nod, .int .i64 fuel, .int .i64 1, .int .i64 tg, .int .i64 run, .int .i64 til, .bool win]) := hide hx4
                   have HW4 := Lib.hid (hon4.below HW3.out hw1)
                   clear hx4 hon4)
                | (refine wpList_store_field 3 (.tmp 57) (.tmp 56) rfl rfl wb.heap.size 4 (.int .i64 tgt) rfl rfl _ _ HLg4.out (by kernel_rfl) (by simp) rfl rfl ?_
                   intro w5 hx5 hon5
                   have HLg5 : Hid (Blk w5 wb.heap.size 51 #[.int .i64 id, .int .i64 nod, .int .i64 fuel, .int .i64 1, .int .i64 tgt, .int .i64 run, .int .i64 til, .bool win]) := hide hx5
                   have HW5 := Lib.hid (hon5.below HW4.out hw1)
                   clear hx5 hon5)
                | (refine wpList_store_field 3 (.tmp 61) (.tmp 60) rfl rfl wb.heap.size 6 (.int .i64 (t + sec)) rfl rfl _ _ HLg5.out (by kernel_rfl) (by simp) rfl rfl ?_
                   intro w6 hx6 hon6
                   have HLg6 : Hid (Blk w6 wb.heap.size 51 #[.int .i64 id, .int .i64 nod, .int .i64 fuel, .int .i64 1, .int .i64 tgt, .int .i64 run, .int .i64 (t + sec), .bool win]) := hide hx6
                   have HW6 := Lib.hid (hon6.below HW5.out hw1)
                   clear hx6 hon6))
              clear c0 c1 c2 c3 c4 c5 c6 c7
              have c0 : w6.cell? ⟨wb.heap.size, 0, none⟩ = some (.int .i64 id) := HLg6.out.cell 0
              have c1 : w6.cell? ⟨wb.heap.size, 1, none⟩ = some (.int .i64 nod) := HLg6.out.cell 1
              have c2 : w6.cell? ⟨wb.heap.size, 2, none⟩ = some (.int .i64 fuel) := HLg6.out.cell 2
              have c3 : w6.cell? ⟨wb.heap.size, 3, none⟩ = some (.int .i64 1) := HLg6.out.cell 3
              have c4 : w6.cell? ⟨wb.heap.size, 4, none⟩ = some (.int .i64 tgt) := HLg6.out.cell 4
              have c5 : w6.cell? ⟨wb.heap.size, 5, none⟩ = some (.int .i64 run) := HLg6.out.cell 5
              have c6 : w6.cell? ⟨wb.heap.size, 6, none⟩ = some (.int .i64 (t + sec)) := HLg6.out.cell 6
              have c7 : w6.cell? ⟨wb.heap.size, 7, none⟩ = some (.bool win) := HLg6.out.cell 7
              go_upto_region 19 with (refine wpList_store_field 3 (.tmp 67) (.tmp 66) rfl rfl wb.heap.size 2 (.int .i64 (fuel - 2 * m)) rfl rfl _ _ HLg6.out (by kernel_rfl) (by simp) rfl rfl ?_
                                      intro w7 hx7 hon7
                                      have HLg7 : Hid (Blk w7 wb.heap.size 51 #[.int .i64 id, .int .i64 nod, .int .i64 (fuel - 2 * m), .int .i64 1, .int .i64 tgt, .int .i64 run, .int .i64 (t + sec), .bool win]) := hide hx7
                                      have HW7 := Lib.hid (hon7.below HW6.out hw1)
                                      clear hx7 hon7)
              clear c0 c1 c2 c3 c4 c5 c6 c7 ds df dt dt1 hse
              have hs9 := HR.out.now HW7.out
              go_wp2_with
                (first
                 | (refine wpList_load_g 51 (.tmp 13) rfl rfl wb.heap.size rfl _ _ HLg7.out _ Try.underlying51 rfl (by kernel_rfl) ?_))
              with_reducible refine (rwith_any (some ad) n c i l id nod (fuel - 2 * m) 1 tgt run (t + sec) win w7 hs9 HN.out hn16 hin).mono ?_
              rintro e w10 ⟨v10, rfl, hO10, hb10⟩
              have HW10 := Lib.hid (HW7.out.trans (hb10.mono HW7.out.size))
              have HO10 := Lib.hid (hO10.mono HW7.out.size)
              clear hO10 hb10 hs9
              go_wp2_with fail
              try go_ret2
              exact HFin.out _ _ _ _ HE.out HO10.out HW10.out
    · have ds : (st != 0) = true := bne_iff_ne.2 hst
      have HE := Lib.hid (HS.out.trans (if_pos (by simpa using hst)))
      go_wp2_with fail
      try go_ret2
      exact HFin.out [] 10 _ _ HE.out (OwnT.nil _ _ _ _ _) HW2.out
end Go.Proofs.Ytegijfmdjaehjaa
