/-
  The search of Best of chapter 8, walked: the closure that tries the columns of one row.
-/
import Derived.Test.YtgmefnddbiofkaaAssignB
namespace Go.Proofs.Ytgmefnddbiofkaa
open Go.RowKit

def vfC (g : Nat) : Value := .func (.func 23) #[] #[.pointer (some ⟨g + 4, 0, none⟩), .pointer (some ⟨g + 3, 0, none⟩), .pointer (some ⟨g + 2, 0, none⟩), .pointer (some ⟨g, 0, none⟩), .pointer (some ⟨g + 1, 0, none⟩), .pointer (some ⟨g + 5, 0, none⟩)]
def TryPost (g : Nat) (A : Option Addr) (n c : Nat) (rows : List (List Int)) (P : List Nat) (st : St) (w : World) (e : Ending) (w' : World) : Prop :=
  e = .returned (.tuple #[]) ∧ Below g w w' ∧ ∃ vb vp least found, DSt w' g A n c rows vb vp (vfC g) least found P st

theorem drop_head {rows : List (List Int)} {m : Nat} {r : List Int} {rs : List (List Int)} (h : rows.drop m = r :: rs) : m < rows.length ∧ rows.getD m [] = r ∧ rows.drop (m + 1) = rs := by
  have hl : m < rows.length := by
    rcases Nat.lt_or_ge m rows.length with h1 | h1
    · exact h1
    · rw [List.drop_eq_nil_of_le h1] at h; cases h
  rw [List.drop_eq_getElem_cons hl] at h
  injection h with h1 h2
  exact ⟨hl, by simp [List.getElem?_eq_getElem hl, h1], h2⟩

def stepK (C : Nat) (rs : List (List Int)) (r : List Int) (P : List Nat) (tot : Int) (st : St) (k : Nat) : St := if k ∈ P then st else dfsA C rs (P ++ [k]) (tot + r.getD k 0) st
def foldK (C : Nat) (rs : List (List Int)) (r : List Int) (P : List Nat) (tot : Int) (st : St) (k : Nat) : St := (List.range k).foldl (stepK C rs r P tot) st
theorem foldK_zero (C : Nat) (rs : List (List Int)) (r : List Int) (P : List Nat) (tot : Int) (st : St) : foldK C rs r P tot st 0 = st := rfl
theorem foldK_succ (C : Nat) (rs : List (List Int)) (r : List Int) (P : List Nat) (tot : Int) (st : St) (k : Nat) : foldK C rs r P tot st (k + 1) = stepK C rs r P tot (foldK C rs r P tot st k) k := by
  unfold foldK
  rw [List.range_succ, List.foldl_append]
  rfl
theorem dfsA_prune (C : Nat) (rs : List (List Int)) (P : List Nat) (tot : Int) (st : St) (h : pruneS st tot = true) : dfsA C rs P tot st = st := by
  cases rs <;> simp [dfsA, h]
theorem dfsA_nil (C : Nat) (P : List Nat) (tot : Int) (st : St) (h : pruneS st tot = false) : dfsA C [] P tot st = some (P, tot) := by simp [dfsA, h]
theorem dfsA_cons (C : Nat) (r : List Int) (rs : List (List Int)) (P : List Nat) (tot : Int) (st : St) (h : pruneS st tot = false) : dfsA C (r :: rs) P tot st = foldK C rs r P tot st C := by
  simp only [dfsA, h]
  rfl

set_option maxHeartbeats 1000000 in
theorem try_end (g : Nat) (A : Option Addr) (n c : Nat) (rows : List (List Int)) (hR : RightM rows) (hn : rows.length = n) (P : List Nat) (tot : Int) (st : St) (w : World) (vb vp : Value) (least : Int) (found : Bool)
    (h : DSt w g A n c rows vb vp (vfC g) least found P st) (hpr : pruneS st tot = true ∨ P.length = n) (st' : St) (hst : (if pruneS st tot then st else some (P, tot)) = st') :
    Calls Try.prog 23 #[.int .i64 tot, .pointer (some ⟨g + 4, 0, none⟩), .pointer (some ⟨g + 3, 0, none⟩), .pointer (some ⟨g + 2, 0, none⟩), .pointer (some ⟨g, 0, none⟩), .pointer (some ⟨g + 1, 0, none⟩), .pointer (some ⟨g + 5, 0, none⟩)] w
      (TryPost g A n c rows P st' w) := by
  have HD := Lib.hid h
  have cf : w.cell? ⟨g + 4, 0, none⟩ = some (.bool found) := h.fnd.cell 0
  have cl : w.cell? ⟨g + 3, 0, none⟩ = some (.int .i64 least) := h.lst.cell 0
  have cp : w.cell? ⟨g + 2, 0, none⟩ = some vp := h.pre.cell 0
  have cc : w.cell? ⟨g, 0, none⟩ = some (.slice A n c) := h.cost.cell 0
  have cb : w.cell? ⟨g + 1, 0, none⟩ = some vb := h.best.cell 0
  have fb : w.frozen? ⟨g + 1, 0, none⟩ = false := h.best.frozen 0
  have fl : w.frozen? ⟨g + 3, 0, none⟩ = false := h.lst.frozen 0
  have ff : w.frozen? ⟨g + 4, 0, none⟩ = false := h.fnd.frozen 0
  by_cases hp : pruneS st tot = true
  · have HP : Hid (st' = st) := by show _ = _; rw [← hst, if_pos hp]
    obtain ⟨b, l, rfl⟩ : ∃ b l, st = some (b, l) := by
      rcases st with _ | ⟨b, l⟩
      · simp [pruneS] at hp
      · exact ⟨b, l, rfl⟩
    obtain ⟨rfl, rfl, _, _⟩ := h.some_ b l rfl
    have hlt : least ≤ tot := by simpa [pruneS] using hp
    clear h hp hpr hst
    go_enter Try.func23, Try.ntmps23
    go_wp2_with fail
    refine bodyPost_ret (results_none rfl _ _ _) rfl ?_
    exact ⟨rfl, Below.refl _ _, _, _, _, _, by rw [HP.out]; exact HD.out⟩
  · have hlen : P.length = n := hpr.resolve_left hp
    have HP : Hid (st' = some (P, tot)) := by show _ = _; rw [← hst, if_neg hp]
    obtain ⟨pA, pc, rfl, hpc, _, hpr'⟩ := own_open h.own
    have hP8 : P.length ≤ 8 := by have := hR.few; omega
    have hcase : found = false ∨ found = true ∧ tot < least := by
      rcases st with _ | ⟨b, l⟩
      · exact .inl (h.none_ rfl)
      · obtain ⟨h1, h2, _⟩ := h.some_ b l rfl
        refine .inr ⟨h1, ?_⟩
        simp [pruneS] at hp
        omega
    have hsz := h.size
    have HPR := Lib.hid hpr'
    have HS := Lib.hid hsz
    clear h hp hpr hpr' hst
    subst hlen
    have hbeq : ((P.length : Int) == (P.length : Int)) = true := by simp
    rcases hcase with rfl | ⟨rfl, hlt⟩
    all_goals
      go_enter Try.func23, Try.ntmps23
      go_wp2_with fail
      with_reducible refine (clone_any _ _ _ _ _ _ HPR.out (by omega) (Nat.le_refl _)).mono ?_
      rintro e w1 ⟨v, rfl, hown, hbel⟩
      obtain ⟨vA, vc, rfl, _, _, _⟩ := own_open hown
      have HT := Lib.hid (HD.out.take tot hown hbel)
      have cb1 := (hbel.cell (p := ⟨g + 1, 0, none⟩) (by have := HS.out; show g + 1 < _; omega)).trans cb
      have fb1 := (hbel.frozen (p := ⟨g + 1, 0, none⟩) (by have := HS.out; show g + 1 < _; omega)).trans fb
      have cl1 := (hbel.cell (p := ⟨g + 3, 0, none⟩) (by have := HS.out; show g + 3 < _; omega)).trans cl
      have fl1 := (hbel.frozen (p := ⟨g + 3, 0, none⟩) (by have := HS.out; show g + 3 < _; omega)).trans fl
      have cf1 := (hbel.cell (p := ⟨g + 4, 0, none⟩) (by have := HS.out; show g + 4 < _; omega)).trans cf
      have ff1 := (hbel.frozen (p := ⟨g + 4, 0, none⟩) (by have := HS.out; show g + 4 < _; omega)).trans ff
      have HB := Lib.hid hbel
      clear hown hbel
      go_wp2_with fail
      refine bodyPost_ret (results_none rfl _ _ _) rfl ?_
      refine ⟨rfl, ?_, _, _, _, _, by rw [HP.out]; exact HT.out⟩
      exact (((HB.out.mono (by have := HS.out; omega)).setCell (p := ⟨g + 1, 0, none⟩) (by show g ≤ g + 1; omega) _).setCell (p := ⟨g + 3, 0, none⟩) (by show g ≤ g + 3; omega) _).setCell (p := ⟨g + 4, 0, none⟩) (by show g ≤ g + 4; omega) _

theorem intsN_mem_iff (P : List Nat) (k : Nat) : (decide (((k : Nat) : Int) ∈ intsN P)) = decide (k ∈ P) := decide_eq_decide.2 (intsN_mem P k)

set_option maxHeartbeats 2000000 in
theorem try_any (g : Nat) (A : Option Addr) (n c : Nat) (rows : List (List Int)) (hR : RightM rows) (hn : rows.length = n) (rs : List (List Int)) :
    ∀ (P : List Nat) (tot : Int) (st : St) (w : World) (vb vp : Value) (least : Int) (found : Bool), DSt w g A n c rows vb vp (vfC g) least found P st → rows.drop P.length = rs → P.length ≤ n → 0 ≤ tot → tot ≤ 1000000 * P.length →
    ∀ st', dfsA (colsR rows) rs P tot st = st' →
    Calls Try.prog 23 #[.int .i64 tot, .pointer (some ⟨g + 4, 0, none⟩), .pointer (some ⟨g + 3, 0, none⟩), .pointer (some ⟨g + 2, 0, none⟩), .pointer (some ⟨g, 0, none⟩), .pointer (some ⟨g + 1, 0, none⟩), .pointer (some ⟨g + 5, 0, none⟩)] w
      (TryPost g A n c rows P st' w) := by
  induction rs with
  | nil =>
    intro P tot st w vb vp least found h hrs hP _ _ st' hst
    have hl : P.length = n := by
      have := congrArg List.length hrs
      simp at this
      omega
    refine try_end g A n c rows hR hn P tot st w vb vp least found h (.inr hl) st' ?_
    rw [← hst]
    by_cases hp : pruneS st tot = true
    · rw [if_pos hp, dfsA_prune _ _ _ _ _ hp]
    · rw [if_neg hp, dfsA_nil _ _ _ _ (by simpa using hp)]
  | cons r rs ih =>
    intro P tot st w vb vp least found h hrs hP ht0 ht1 st' hst
    by_cases hp : pruneS st tot = true
    · refine try_end g A n c rows hR hn P tot st w vb vp least found h (.inl hp) st' ?_
      rw [if_pos hp, ← hst, dfsA_prune _ _ _ _ _ hp]
    · have hp' : pruneS st tot = false := by simpa using hp
      rw [dfsA_cons _ _ _ _ _ _ hp'] at hst
      obtain ⟨hlt, hrow, hdrop⟩ := drop_head hrs
      have hPn : P.length < n := by omega
      have h8 : n ≤ 8 := by rw [← hn]; exact hR.few
      have hrm : r ∈ rows := by
        rw [← hrow]
        simp [List.getElem?_eq_getElem hlt]
      have hC : colsR rows = r.length := (hR.same r hrm).1.symm
      have hcase : found = false ∨ found = true ∧ tot < least := by
        rcases st with _ | ⟨b, l⟩
        · exact .inl (h.none_ rfl)
        · obtain ⟨h1, h2, _⟩ := h.some_ b l rfl
          refine .inr ⟨h1, ?_⟩
          simp [pruneS] at hp
          omega
      have hx : ∀ k, 0 ≤ r.getD k 0 ∧ r.getD k 0 ≤ 1000000 := fun k => ⟨hR.nn r hrm k, hR.le r hrm k⟩
      obtain ⟨ad, a, rc, rfl, hadb, hc, hrl, hrc, hri⟩ := h.mat.row hPn
      rw [hrow] at hc hrl hri
      unfold maxLen at hrc
      have hr8 : r.length ≤ 8 := hR.wide r hrm
      have IH : Hid (∀ (k : Nat) (st2 : St) (W : World) (vb vp : Value) (least : Int) (found : Bool), DSt W g (some ad) n c rows vb vp (vfC g) least found (P ++ [k]) st2 → ∀ st3, dfsA (colsR rows) rs (P ++ [k]) (tot + r.getD k 0) st2 = st3 →
          Calls Try.prog 23 #[.int .i64 (tot + r.getD k 0), .pointer (some ⟨g + 4, 0, none⟩), .pointer (some ⟨g + 3, 0, none⟩), .pointer (some ⟨g + 2, 0, none⟩), .pointer (some ⟨g, 0, none⟩), .pointer (some ⟨g + 1, 0, none⟩), .pointer (some ⟨g + 5, 0, none⟩)] W
            (TryPost g (some ad) n c rows (P ++ [k]) st3 W)) := fun k st2 W vb vp least found hD st3 h3 =>
        ih (P ++ [k]) _ st2 W vb vp least found hD (by simpa using hdrop) (by simp; omega) (by have := (hx k).1; omega) (by have := (hx k).2; rw [List.length_append, List.length_singleton]; omega) st3 h3
      clear ih
      have cf : w.cell? ⟨g + 4, 0, none⟩ = some (.bool found) := h.fnd.cell 0
      have cl : w.cell? ⟨g + 3, 0, none⟩ = some (.int .i64 least) := h.lst.cell 0
      have cc : w.cell? ⟨g, 0, none⟩ = some (.slice (some ad) n c) := h.cost.cell 0
      have cp0 : w.cell? ⟨g + 2, 0, none⟩ = some vp := h.pre.cell 0
      obtain ⟨pA, pc, rfl, hpc, _, _⟩ := own_open h.own
      have HD := Lib.hid h
      have HX := Lib.hid hx
      have HRI := Lib.hid hri
      have HST := Lib.hid hst
      have HC := Lib.hid hC
      have hbeq : ((P.length : Int) == (n : Int)) = false := beq_eq_false_iff_ne.2 (by omega)
      clear h hp hp' hx hri hrs hst hrow hdrop hrm hC
      rcases hcase with rfl | ⟨rfl, hlt2⟩
      all_goals
        go_enter Try.func23, Try.ntmps23
        go_wp2_with fail
        go_loopw [30] (fun i wr => ∃ (k : Nat) (vb vp : Value) (least : Int) (found : Bool), k ≤ r.length ∧ i = .int .i64 k ∧ DSt wr g (some ad) n c rows vb vp (vfC g) least found P (foldK (colsR rows) rs r P tot st k) ∧ Below g w wr) (fun i _ => r.length - (intOf i).toNat)
        case atStart => exact ⟨0, _, _, _, _, by omega, rfl, HD.out, Below.refl _ _⟩
        case round =>
          obtain ⟨k, vb, vp, least, found, hk, rfl, hD, hbr⟩ := hrel
          obtain ⟨wo, rfl⟩ : ∃ wo : World, wo = wr := ⟨_, rfl⟩
          by_cases hkr : k < r.length
          · obtain ⟨ad2, rfl, hadb2, hck⟩ := (HRI.out.below hbr).int hkr
            have HS := Lib.hid (foldK_succ (colsR rows) rs r P tot st k)
            have hxk := HX.out k
            have cp : wo.cell? ⟨g + 2, 0, none⟩ = some vp := hD.pre.cell 0
            obtain ⟨pA2, pc2, rfl, hpc2, _, hpr2⟩ := own_open hD.own
            have hsz := hD.size
            have HPR2 := Lib.hid hpr2
            clear hpr2
            by_cases hmem : k ∈ P
            · have HM : Hid (true = decide (((k : Nat) : Int) ∈ intsN P)) := by show _ = _; rw [intsN_mem_iff]; simp [hmem]
              have HK : Hid (foldK (colsR rows) rs r P tot st (k + 1) = foldK (colsR rows) rs r P tot st k) := by show _ = _; rw [HS.out, stepK, if_pos hmem]
              have HD2 := Lib.hid hD
              generalize hxg : r.getD k 0 = x at *
              have HXG := Lib.hid hxg
              clear hmem hD hxg
              go_wp2_with fail
              with_reducible refine (contains_any true _ _ _ _ _ _ _ HPR2.out (by omega) HM.out).mono ?_
              rintro e w' ⟨rfl, rfl⟩
              go_wp2_with fail
              go_roundw
              case rel => exact ⟨k + 1, _, _, _, _, by omega, by go_num, by rw [HK.out]; exact HD2.out, hbr⟩
              case measure => simp [intOf]; omega
            · have HM : Hid (false = decide (((k : Nat) : Int) ∈ intsN P)) := by show _ = _; rw [intsN_mem_iff]; simp [hmem]
              have HK : Hid (foldK (colsR rows) rs r P tot st (k + 1) = dfsA (colsR rows) rs (P ++ [k]) (tot + r.getD k 0) (foldK (colsR rows) rs r P tot st k)) := by show _ = _; rw [HS.out, stepK, if_neg hmem]
              have IH2 : Hid (∀ (W : World) (vb vp : Value) (least : Int) (found : Bool), DSt W g (some ad) n c rows vb vp (vfC g) least found (P ++ [k]) (foldK (colsR rows) rs r P tot st k) →
                  Calls Try.prog 23 #[.int .i64 (tot + r.getD k 0), .pointer (some ⟨g + 4, 0, none⟩), .pointer (some ⟨g + 3, 0, none⟩), .pointer (some ⟨g + 2, 0, none⟩), .pointer (some ⟨g, 0, none⟩), .pointer (some ⟨g + 1, 0, none⟩), .pointer (some ⟨g + 5, 0, none⟩)] W
                    (TryPost g (some ad) n c rows (P ++ [k]) (foldK (colsR rows) rs r P tot st (k + 1)) W)) := fun W vb vp least found hD3 => IH.out k _ W vb vp least found hD3 _ HK.out.symm
              have fp : wo.frozen? ⟨g + 2, 0, none⟩ = false := hD.pre.frozen 0
              have HD2 := Lib.hid hD
              generalize hxg : r.getD k 0 = x at *
              have HXG := Lib.hid hxg
              clear hmem hD hxg
              go_wp2_with fail
              with_reducible refine (contains_any false _ _ _ _ _ _ _ HPR2.out (by omega) HM.out).mono ?_
              rintro e w' ⟨rfl, rfl⟩
              go_wp2_with
                (at_builtin
                 refine wpList_app _ ei_int rfl (.tmp 39) (.tmp 41) rfl (g + 6) (.slice pA2 P.length pc2) P.length ((intsN P).map (Value.int .i64)) rfl (HD2.out.own.alloc _) (wo.heap.size + 1) (some ⟨wo.heap.size, 0, none⟩) 1 1 [.int .i64 (k : Int)] rfl (Reads.new wo 3 #[.int .i64 (k : Int)] 1 1 rfl) (by simp [Value.oneCell']) (by simp only [maxLen]; omega) (by omega) (by simp; omega) ?_
                 intro v3 w3 hown3 hg3 hbw3 hat3
                 obtain ⟨A3, c3, rfl, _, _, _⟩ := own_open hown3
                 have HP3 := Lib.hid (HD2.out.push k _ hown3 hg3 hat3)
                 have hb3 : Below (g + 6) wo w3 := ((Below.refl _ _).alloc hsz _).trans hbw3
                 have cp3 := (hb3.cell (p := ⟨g + 2, 0, none⟩) (by show g + 2 < _; omega)).trans cp
                 have fp3 := (hb3.frozen (p := ⟨g + 2, 0, none⟩) (by show g + 2 < _; omega)).trans fp
                 have ct3 : (w3.setCell ⟨g + 2, 0, none⟩ (.slice A3 (P.length + 1) c3)).cell? ⟨g + 5, 0, none⟩ = some (vfC g) := HP3.out.fn.cell 0
                 unfold vfC at ct3
                 have HB3 := Lib.hid hb3
                 clear hown3 hg3 hbw3 hat3 hb3)
              with_reducible refine (IH2.out _ _ _ _ _ HP3.out).mono ?_
              rintro e w5 ⟨rfl, hb5, vb5, vp5, l5, f5, hD5⟩
              obtain ⟨q, cap, rfl, _, _, hqc, hqm⟩ := own_form hD5.own (by simp)
              rw [List.length_append, List.length_singleton] at hqc
              unfold maxLen at hqm
              have cp5 : w5.cell? ⟨g + 2, 0, none⟩ = some (.slice (some ⟨q, 0, none⟩) (P.length + 1) cap) := by have := hD5.pre.cell 0; simpa using this
              have fp5 : w5.frozen? ⟨g + 2, 0, none⟩ = false := hD5.pre.frozen 0
              have HP5 : Hid (DSt (w5.setCell ⟨g + 2, 0, none⟩ (.slice (some ⟨q, 0, none⟩) P.length cap)) g (some ad) n c rows vb5 (.slice (some ⟨q, 0, none⟩) P.length cap) (vfC g) l5 f5 P (foldK (colsR rows) rs r P tot st (k + 1))) := DSt.pop (k := k) (by simpa using hD5)
              have HB5 : Hid (Below g w (w5.setCell ⟨g + 2, 0, none⟩ (.slice (some ⟨q, 0, none⟩) P.length cap))) := by
                have h1 : Below g wo w3 := HB3.out.mono (by omega)
                have h2 := h1.setCell (p := ⟨g + 2, 0, none⟩) (by show g ≤ g + 2; omega) (.slice A3 (P.length + 1) c3)
                exact (hbr.trans (h2.trans hb5)).setCell (p := ⟨g + 2, 0, none⟩) (by show g ≤ g + 2; omega) _
              clear hb5 hD5
              go_wp2_with fail
              go_roundw
              case rel => exact ⟨k + 1, _, _, _, _, by omega, by go_num, HP5.out, HB5.out⟩
              case measure => simp [intOf]; omega
          · obtain rfl : k = r.length := by omega
            have HD2 := Lib.hid hD
            clear hD
            go_wp2_with fail
            refine bodyPost_ret (results_none rfl _ _ _) rfl ?_
            exact ⟨rfl, hbr, _, _, _, _, by rw [← HST.out]; have := HD2.out; rwa [← HC.out] at this⟩
end Go.Proofs.Ytgmefnddbiofkaa
