/-
  The table of the reference of chapter 8, walked: rest.
-/
import Derived.Test.YtgmefnddbiofkaaAssignE
import Derived.Test.YtgmefnddbiofkaaAssignP
namespace Go.Proofs.Ytgmefnddbiofkaa
open Go.RowKit

/-- what it holds while the set s is under way: acc at s, zeros before it -/
def contV (C : Nat) (rows : List (List Int)) (s : Nat) (acc : Int) (x : Nat) : Int := if s < x then tabV C rows x else if x = s then acc else 0
def contL (N : Nat) (f : Nat → Int) : List Value := (List.range N).map fun x => .int .i64 (f x)
theorem contL_getD (N : Nat) (f : Nat → Int) (x : Nat) (h : x < N) : (contL N f)[x]? = some (.int .i64 (f x)) := by simp [contL, h]
theorem contL_set (N C : Nat) (rows : List (List Int)) (s : Nat) (acc acc' : Int) (h : s < N) : (contL N (contV C rows s acc)).set s (.int .i64 acc') = contL N (contV C rows s acc') := by
  apply List.ext_getElem?
  intro x
  by_cases hx : x < N
  · rw [contL_getD N _ x hx]
    by_cases e : x = s
    · subst e
      rw [List.getElem?_set_self (by simpa [contL] using h)]
      simp [contV]
    · rw [List.getElem?_set_ne (fun e' => e e'.symm), contL_getD N _ x hx]
      simp [contV, e]
  · rw [List.getElem?_eq_none (by simp [contL]; omega), List.getElem?_eq_none (by simp [contL]; omega)]
/-- what it holds when the sets from t on are done -/
def contT (C : Nat) (rows : List (List Int)) (t x : Nat) : Int := if t ≤ x then tabV C rows x else 0
theorem contT_succ (N C : Nat) (rows : List (List Int)) (s : Nat) : contL N (contT C rows (s + 1)) = contL N (contV C rows s 0) := by
  unfold contL
  refine List.map_congr_left fun x _ => ?_
  congr 1
  unfold contT contV
  by_cases h : s < x
  · rw [if_pos (by omega), if_pos h]
  · rw [if_neg (by omega), if_neg h]
    split <;> rfl
theorem contV_done (N C : Nat) (rows : List (List Int)) (s : Nat) : contL N (contV C rows s (tabV C rows s)) = contL N (contT C rows s) := by
  unfold contL
  refine List.map_congr_left fun x _ => ?_
  congr 1
  unfold contT contV
  by_cases h : s < x
  · rw [if_pos h, if_pos (by omega)]
  · rw [if_neg h]
    by_cases e : x = s
    · subst e
      rw [if_pos rfl, if_pos (Nat.le_refl _)]
    · rw [if_neg e, if_neg (by omega)]
theorem contT_zero (N C : Nat) (rows : List (List Int)) : contL N (contT C rows 0) = contL N (tabV C rows) := by
  unfold contL
  refine List.map_congr_left fun x _ => ?_
  congr 1
/-- the entry of a set after its first k columns -/
def accK (C : Nat) (rows : List (List Int)) (s k : Nat) : Int := (List.range k).foldl (fun acc k => if s / 2 ^ k % 2 = 0 then (if acc < 0 ∨ stepT C rows s k < acc then stepT C rows s k else acc) else acc) (-1)
theorem accK_zero (C : Nat) (rows : List (List Int)) (s : Nat) : accK C rows s 0 = -1 := rfl
theorem accK_succ (C : Nat) (rows : List (List Int)) (s k : Nat) : accK C rows s (k + 1) = if s / 2 ^ k % 2 = 0 then (if accK C rows s k < 0 ∨ stepT C rows s k < accK C rows s k then stepT C rows s k else accK C rows s k) else accK C rows s k := by
  unfold accK
  rw [List.range_succ, List.foldl_append]
  rfl
theorem accK_done (C : Nat) (rows : List (List Int)) (s : Nat) (h : popC C s < rows.length) : accK C rows s C = tabV C rows s := by
  unfold tabV
  rw [if_pos (by omega), tabN_step C rows s h]
  rfl

theorem bit_bool (s k : Nat) : (((s : Int) / 2 ^ k).tmod 2 == 0) = decide (s / 2 ^ k % 2 = 0) := by
  have e : ((s : Int) / 2 ^ k) = ((s / 2 ^ k : Nat) : Int) := by simp
  rw [e, Int.tmod_eq_emod_of_nonneg (Int.natCast_nonneg _), Bool.eq_iff_iff]
  simp only [beq_iff_eq, decide_eq_true_eq]
  omega
theorem leastS_bd (C : Nat) (p : List Nat) (f : Nat → Int) (M : Int) (hM : -1 ≤ M) (h : ∀ k, -1 ≤ f k ∧ f k ≤ M) : -1 ≤ leastS C p f ∧ leastS C p f ≤ M := by
  unfold leastS
  induction C with
  | zero => simp; omega
  | succ C ih =>
    rw [List.range_succ, List.foldl_append]
    simp only [List.foldl_cons, List.foldl_nil]
    split
    · exact ih
    · split
      · exact h C
      · exact ih
theorem minR_bd (C : Nat) (rs : List (List Int)) (h : ∀ r ∈ rs, ∀ k, 0 ≤ r.getD k 0 ∧ r.getD k 0 ≤ 1000000) : ∀ p, -1 ≤ minR C rs p ∧ minR C rs p ≤ 1000000 * rs.length := by
  induction rs with
  | nil => intro p; simp [minR]
  | cons r rs ih =>
    intro p
    refine leastS_bd C p _ _ (by omega) fun k => ?_
    have h1 := h r (by simp) k
    have h2 := ih (fun r' hr => h r' (by simp [hr])) (p ++ [k])
    simp only [List.length_cons]
    omega
theorem tabV_bd {rows : List (List Int)} (hR : RightM rows) (C x : Nat) : -1 ≤ tabV C rows x ∧ tabV C rows x ≤ 8000000 := by
  unfold tabV
  split
  · have h := minR_bd C (rows.drop (popC C x)) (fun r hr k => ⟨hR.nn r (List.mem_of_mem_drop hr) k, hR.le r (List.mem_of_mem_drop hr) k⟩) (bitsS C x)
    have h8 := hR.few
    have hl : (rows.drop (popC C x)).length ≤ 8 := by rw [List.length_drop]; omega
    unfold tabN
    omega
  · omega
theorem stepT_tab {rows : List (List Int)} {C s k : Nat} (hk : k < C) (hb : s / 2 ^ k % 2 = 0) (hp : popC C s < rows.length) : stepT C rows s k = (rows.getD (popC C s) []).getD k 0 + tabV C rows (s + 2 ^ k) := by
  unfold stepT tabV
  rw [if_pos (by rw [popC_add C s k hk hb]; omega)]
theorem accK_bd {rows : List (List Int)} (hR : RightM rows) (C s k : Nat) (hkC : k ≤ C) (hp : popC C s < rows.length) : -1 ≤ accK C rows s k ∧ accK C rows s k ≤ 9000000 := by
  induction k with
  | zero => simp [accK_zero]
  | succ k ih =>
    have ih := ih (by omega)
    rw [accK_succ]
    split
    · rename_i hb
      split
      · rw [stepT_tab (by omega) hb hp]
        have h1 := tabV_bd hR C (s + 2 ^ k)
        have hm : rows.getD (popC C s) [] ∈ rows := by simp [List.getElem?_eq_getElem hp]
        have h2 := hR.nn _ hm k
        have h3 := hR.le _ hm k
        omega
      · exact ih
    · exact ih

set_option maxHeartbeats 1000000 in
theorem rest_any (A : Option Addr) (n c B : Nat) (rows : List (List Int)) (w : World) (hm : Mat w w.heap.size A n rows) (hR : RightM rows) :
    Calls Try.prog 25 #[.slice A n c] w fun e w' => ∃ v, e = .returned v ∧ w'.ownsRow w.heap.size 3 1 v (2 ^ colsR rows) (contL (2 ^ colsR rows) (tabV (colsR rows) rows)) ∧ Below w.heap.size w w' := by
  have HM := Lib.hid hm
  have HL := Lib.hid hm.len
  have HR := Lib.hid hR
  have h8 : n ≤ 8 := by rw [← hm.len]; exact hR.few
  have hC8 := hR.cols_le.2
  have HC2 := Lib.hid hR.cols_le.1
  obtain ⟨C, hC⟩ : ∃ C, colsR rows = C := ⟨_, rfl⟩
  rw [hC] at hC8 HC2 ⊢
  have HCol : Hid (∀ W B, Mat W B A n rows → Calls Try.prog 22 #[.slice A n c] W fun e w' => e = .returned (.int .i64 (C : Int)) ∧ W = w') := fun W B hW => by
    rw [← hC]; exact cols_any A n c B rows W hW (by omega)
  have HC := Lib.hid hC
  obtain ⟨N, hN⟩ : ∃ N, 2 ^ C = N := ⟨_, rfl⟩
  have hN256 : N ≤ 256 := by rw [← hN]; exact Nat.pow_le_pow_right (show 0 < 2 by omega) hC8
  have hN0 : 0 < N := by rw [← hN]; exact Nat.two_pow_pos C
  rw [hN]
  have hsh : wrap64 ((2 : Int) ^ C) = (N : Int) := by
    have e : (2 : Int) ^ C = (N : Int) := by rw [← hN]; simp
    rw [e, IntWalk.wrap64_in _ (by omega)]
  have HN := Lib.hid hN
  have HSH := Lib.hid hsh
  obtain ⟨i0, hi0, hz0, hz1, hz2⟩ := info_parts (show (Try.prog.info? 3).map (fun i => (i.zero, i.size, i.bytes)) = some (some (.int .i64 0), 1, 8) by kernel_rfl)
  have HI := Lib.hid (And.intro hi0 (And.intro hz0 (And.intro hz1 hz2)))
  clear hm hR hC hN hsh hi0 hz0 hz1 hz2
  go_enter Try.func25, Try.ntmps25
  go_wp2_with fail
  with_reducible refine (HCol.out _ _ HM.out).mono ?_
  rintro e w' ⟨rfl, rfl⟩
  go_wp2_with
    (at_make
     refine wpList_make_full _ rfl (.tmp 13) (.tmp 13) _ rfl w.heap.size 3 i0 (.int .i64 0) 1 Try.underlying27 HI.out.1 HI.out.2.1 HI.out.2.2.1 .i64 .i64 _ _ N rfl rfl HSH.out HSH.out (by rw [HI.out.2.2.2]; omega) (by simp only [maxLen]; omega) (Nat.le_refl _) ?_
     intro w2 hown2 hg2
     have hb2 : Below w.heap.size w w2 := (Below.refl _ _).grown hg2 (Nat.le_refl _) (fun k hk => by cases hk)
     have HO2 : Hid (w2.ownsRow w.heap.size 3 1 (.slice (some ⟨w.heap.size, 0, none⟩) N N) N (contL N (contT C rows N))) := by
       rw [Nat.mul_one, show (Value.int .i64 0).cells = #[.int .i64 0] from rfl, toList_madeCells_one] at hown2
       have e : List.replicate N (Value.int .i64 0) = contL N (contT C rows N) := by
         apply List.ext_getElem?
         intro x
         by_cases hx : x < N
         · rw [contL_getD N _ x hx, List.getElem?_replicate, if_pos hx]
           unfold contT
           rw [if_neg (by omega)]
         · rw [List.getElem?_eq_none (by simp; omega), List.getElem?_eq_none (by simp [contL]; omega)]
       rw [e] at hown2
       exact hide hown2
     clear hown2 hg2
     rw [HSH.out])
  go_loopw [5] (fun i wr => ∃ t : Nat, t ≤ N ∧ i = .int .i64 ((t : Int) - 1) ∧ wr.ownsRow w.heap.size 3 1 (.slice (some ⟨w.heap.size, 0, none⟩) N N) N (contL N (contT C rows t)) ∧ Below w.heap.size w wr) (fun i _ => (intOf i + 1).toNat)
  case atStart => exact ⟨N, Nat.le_refl _, rfl, HO2.out, hb2⟩
  case round =>
    obtain ⟨t, ht, hi, hown, hbr⟩ := hrel
    obtain ⟨wo, rfl⟩ : ∃ wo : World, wo = wr := ⟨_, rfl⟩
    by_cases h0 : t = 0
    · subst h0
      have hi' : u5 = .int .i64 (-1) := hi
      clear hi
      subst hi'
      have HO := Lib.hid hown
      clear hown
      go_wp2_with fail
      go_ret
      exact ⟨_, rfl, by rw [← contT_zero]; exact HO.out, hbr⟩
    · obtain ⟨s, rfl⟩ : ∃ s, t = s + 1 := ⟨t - 1, by omega⟩
      have hi' : u5 = .int .i64 (s : Int) := by rw [hi]; congr 1; omega
      clear hi
      subst hi'
      have HO := Lib.hid hown
      clear hown
      have HSC : Hid (s < 2 ^ C) := by show s < _; rw [HN.out]; omega
      have hsN : s < N := by omega
      have HO0 : Hid (wo.ownsRow w.heap.size 3 1 (.slice (some ⟨w.heap.size, 0, none⟩) N N) N (contL N (contV C rows s 0))) := by
        show World.ownsRow _ _ _ _ _ _ _
        rw [← contT_succ]
        exact HO.out
      have HS1 : Hid ((wo.setCell ⟨w.heap.size, s, none⟩ (.int .i64 (-1))).ownsRow w.heap.size 3 1 (.slice (some ⟨w.heap.size, 0, none⟩) N N) N (contL N (contV C rows s (-1)))) := by
        have h := (HO0.out.stored s (.int .i64 (-1))).1
        rwa [contL_set N C rows s 0 (-1) hsN] at h
      have HB1 : Hid (Below w.heap.size w (wo.setCell ⟨w.heap.size, s, none⟩ (.int .i64 (-1)))) := hbr.setCell (Nat.le_refl _) _
      have hc0 : wo.cell? ⟨w.heap.size, s, none⟩ = some (.int .i64 (contV C rows s 0 s)) := by
        rw [HO0.out.cellAt s (by omega), contL_getD _ _ _ hsN]
      have hf0 : wo.frozen? ⟨w.heap.size, s, none⟩ = false := HO0.out.frozenAt s
      have HM1 := Lib.hid (HM.out.below hbr)
      clear hbr
      have htk := taken_any C s hC8 HSC.out
      obtain ⟨p, hp⟩ : ∃ p, p = popC C s := ⟨_, rfl⟩
      rw [← hp] at htk
      have HTK := Lib.hid htk
      have hp8 : p ≤ 8 := by rw [hp]; exact Nat.le_trans (popC_le C s) hC8
      have HP := Lib.hid hp
      clear hp htk
      by_cases hlt : p < n
      · have dq : ((p : Int) == (n : Int)) = false := beq_eq_false_iff_ne.2 (by omega)
        have dn : decide (n ≤ p) = false := by simp; omega
        go_wp2_with fail
        with_reducible refine (HTK.out _).mono ?_
        rintro e w' ⟨rfl, rfl⟩
        go_wp2_with fail
        obtain ⟨w1, hw1⟩ : ∃ w1, wo.setCell ⟨w.heap.size, s, none⟩ (.int .i64 (-1)) = w1 := ⟨_, rfl⟩
        rw [hw1] at HS1 HB1 ⊢
        have HM2 := Lib.hid (HM.out.below HB1.out)
        clear hw1 hc0 hf0
        go_loopw [7, 8] (fun k _ wr => ∃ kk : Nat, kk ≤ C ∧ k = .int .i64 kk ∧ wr.ownsRow w.heap.size 3 1 (.slice (some ⟨w.heap.size, 0, none⟩) N N) N (contL N (contV C rows s (accK C rows s kk))) ∧ Below w.heap.size w wr) (fun k _ _ => C - (intOf k).toNat)
        case atStart => exact ⟨0, by omega, rfl, HS1.out, HB1.out⟩
        case round =>
          obtain ⟨k, hk, rfl, hownk, hbk⟩ := hrel
          obtain ⟨wi, rfl⟩ : ∃ wi : World, wi = wr := ⟨_, rfl⟩
          have HOK := Lib.hid hownk
          have HMK := Lib.hid (HM.out.below hbk)
          have HBK := Lib.hid hbk
          clear hownk hbk
          by_cases hkC : k < C
          · obtain ⟨ad, a1, rc, rfl, hadb, hc, hrl, hrc, hri⟩ := HMK.out.row (k := p) hlt
            unfold maxLen at hrc
            have hplt : popC C s < rows.length := by rw [← HP.out, HL.out]; exact hlt
            have hrm : rows.getD p [] ∈ rows := by simp [List.getElem?_eq_getElem (show p < rows.length by rw [HL.out]; exact hlt)]
            have hrlen : (rows.getD p []).length = C := by rw [← HC.out]; exact (HR.out.same _ hrm).1
            obtain ⟨adr, rfl, _, hcx⟩ := hri.int (k := k) (by omega)
            rw [hrlen] at hc hrl
            have hxb : 0 ≤ (rows.getD p []).getD k 0 ∧ (rows.getD p []).getD k 0 ≤ 1000000 := ⟨HR.out.nn _ hrm _, HR.out.le _ hrm _⟩
            have hab := accK_bd HR.out C s k (by omega) hplt
            have hyb := tabV_bd HR.out C (s + 2 ^ k)
            have HAS := Lib.hid (accK_succ C rows s k)
            have hcs : wi.cell? ⟨w.heap.size, s, none⟩ = some (.int .i64 (contV C rows s (accK C rows s k) s)) := by
              rw [HOK.out.cellAt s (by omega), contL_getD _ _ _ hsN]
            have hfs : wi.frozen? ⟨w.heap.size, s, none⟩ = false := HOK.out.frozenAt s
            have HST := fun acc' => Lib.hid (HOK.out.stored s (.int .i64 acc')).1
            have hself : contV C rows s (accK C rows s k) s = accK C rows s k := by simp [contV]
            rw [hself] at hcs
            have hbit := bit_bool s k
            by_cases hb : s / 2 ^ k % 2 = 0
            · have hsk := bit_bound C s k HSC.out hkC hb
              have HSk : Hid (s + 2 ^ k < N) := by show _ < N; rw [← HN.out]; exact hsk
              have HSP : Hid (stepT C rows s k = (rows.getD p []).getD k 0 + tabV C rows (s + 2 ^ k)) := by show _ = _; rw [stepT_tab hkC hb hplt, HP.out]
              have hcy : wi.cell? ⟨w.heap.size, s + 2 ^ k, none⟩ = some (.int .i64 (tabV C rows (s + 2 ^ k))) := by
                rw [HOK.out.cellAt (s + 2 ^ k) (by have := HSk.out; omega), contL_getD _ _ _ HSk.out]
                have : 0 < 2 ^ k := Nat.two_pow_pos k
                simp only [contV]
                rw [if_pos (by omega)]
              have hbit1 : (((s : Int) / 2 ^ k).tmod 2 == 0) = true := by rw [hbit]; simpa using hb
              have hpw : (2 : Int) ^ k = ((2 ^ k : Nat) : Int) := by simp
              have hp256 : 2 ^ k ≤ 256 := Nat.le_trans (Nat.pow_le_pow_right (show 0 < 2 by omega) (show k ≤ 8 by omega)) (by decide)
              have hp0 : 0 < 2 ^ k := Nat.two_pow_pos k
              have hskN := HSk.out
              generalize accK C rows s k = acc at *
              generalize hst : stepT C rows s k = st at *
              generalize (rows.getD p []).getD k 0 = x at *
              generalize tabV C rows (s + 2 ^ k) = y at *
              generalize 2 ^ k = u at *
              have HSTe := Lib.hid hst
              rw [hpw] at hbit1
              have HPW := Lib.hid hpw
              have HB := Lib.hid hb
              have HAS2 : Hid (accK C rows s (k + 1) = if acc < 0 ∨ st < acc then st else acc) := by show _ = _; rw [HAS.out, if_pos HB.out]
              have HBIT := Lib.hid hbit1
              clear hst hbit hself hsk hplt hrm hri hb HAS hrlen hpw hbit1
              have e2 : (0 : Int) ≤ (s : Int) + (u : Int) := by omega
              have e3 : ((s : Int) + (u : Int)).toNat = s + u := by omega
              have e6 : (s : Int) + (u : Int) < (N : Int) := by omega
              have f1 : -9223372036854775808 ≤ (s : Int) + (u : Int) ∧ (s : Int) + (u : Int) ≤ 9223372036854775807 := by omega
              have f2 : -9223372036854775808 ≤ x + y ∧ x + y ≤ 9223372036854775807 := by omega
              have f3 : -9223372036854775808 ≤ (u : Int) ∧ (u : Int) ≤ 9223372036854775807 := by omega
              have E1 := Lib.hid (IntWalk.i64_in _ f1)
              have E4 := Lib.hid (IntWalk.i64_in _ f2)
              have E5 := Lib.hid (IntWalk.i64_in _ f3)
              have hpwr : wrap64 (u : Int) = (u : Int) := IntWalk.wrap64_in _ f3
              clear f1 f2 f3
              have hpw := HPW.out
              have hbit1 := HBIT.out
              go_wp2_with fail
              with_reducible refine (HCol.out _ _ HMK.out).mono ?_
              rintro e w' ⟨rfl, rfl⟩
              go_wp2_with fail
              have e1 := E1.out
              have e4 := E4.out
              have e5 := E5.out
              go_quiet (fail)
              clear e1 e4 e5
              have HS5 : Hid ((wi.setCell ⟨w.heap.size, s, none⟩ (.int .i64 (x + y))).ownsRow w.heap.size 3 1 (.slice (some ⟨w.heap.size, 0, none⟩) N N) N (contL N (contV C rows s (x + y)))) := by
                have h := (HST (x + y)).out
                rwa [contL_set N C rows s acc (x + y) hsN] at h
              go_wp2_with fail
              all_goals
                have hsp := HSP.out
                go_roundw
                case rel =>
                  first
                  | exact ⟨k + 1, by omega, by go_num, by rw [HAS2.out, if_neg (by omega)]; exact HOK.out, below_drewN HBK.out nq⟩
                  | exact ⟨k + 1, by omega, by go_num, by rw [HAS2.out, if_pos (by omega), hsp]; exact HS5.out, (below_drewN HBK.out nq).setCell (Nat.le_refl _) _⟩
                case measure => simp [intOf]; omega
            · have hbit0 : (((s : Int) / 2 ^ k).tmod 2 == 0) = false := by rw [hbit]; simpa using hb
              have HAS2 : Hid (accK C rows s (k + 1) = accK C rows s k) := by show _ = _; rw [HAS.out, if_neg hb]
              clear hbit hself hcs hfs hplt hrm hri hb
              go_wp2_with fail
              with_reducible refine (HCol.out _ _ HMK.out).mono ?_
              rintro e w' ⟨rfl, rfl⟩
              go_wp2_with fail
              go_roundw
              case rel => exact ⟨k + 1, by omega, by go_num, by rw [HAS2.out]; exact HOK.out, HBK.out⟩
              case measure => simp [intOf]; omega
          · obtain rfl : k = C := by omega
            go_wp2_with fail
            with_reducible refine (HCol.out _ _ HMK.out).mono ?_
            rintro e w' ⟨rfl, rfl⟩
            go_wp2_with fail
            go_roundw
            case rel =>
              refine ⟨s, by omega, by go_num, ?_, HBK.out⟩
              rw [← contV_done, ← accK_done k rows s (by rw [← HP.out, HL.out]; exact hlt)]
              exact HOK.out
            case measure => simp [intOf]
      · by_cases heq : p = n
        · have dq : ((p : Int) == (n : Int)) = true := beq_iff_eq.2 (by omega)
          have hc1 : (wo.setCell ⟨w.heap.size, s, none⟩ (.int .i64 (-1))).cell? ⟨w.heap.size, s, none⟩ = some (.int .i64 (contV C rows s (-1) s)) := by
            rw [HS1.out.cellAt s (by omega), contL_getD _ _ _ hsN]
          have hf1 : (wo.setCell ⟨w.heap.size, s, none⟩ (.int .i64 (-1))).frozen? ⟨w.heap.size, s, none⟩ = false := HS1.out.frozenAt s
          go_wp2_with fail
          with_reducible refine (HTK.out _).mono ?_
          rintro e w' ⟨rfl, rfl⟩
          go_wp2_with fail
          go_roundw
          case rel =>
            refine ⟨s, by omega, by go_num, ?_, HB1.out.setCell (Nat.le_refl _) _⟩
            have h := (HS1.out.stored s (.int .i64 0)).1
            rw [contL_set N C rows s (-1) 0 hsN] at h
            rw [← contV_done, show tabV C rows s = 0 by unfold tabV; rw [if_pos (by have := HP.out; have := HL.out; omega), tabN_full C rows s (by rw [← HP.out, HL.out]; exact heq)]]
            exact h
          case measure => simp [intOf]
        · have dq : ((p : Int) == (n : Int)) = false := beq_eq_false_iff_ne.2 (by omega)
          go_wp2_with fail
          with_reducible refine (HTK.out _).mono ?_
          rintro e w' ⟨rfl, rfl⟩
          go_wp2_with fail
          go_roundw
          case rel =>
            refine ⟨s, by omega, by go_num, ?_, HB1.out⟩
            rw [← contV_done, show tabV C rows s = -1 by unfold tabV; rw [if_neg (by have := HP.out; have := HL.out; omega)]]
            exact HS1.out
          case measure => simp [intOf]
end Go.Proofs.Ytgmefnddbiofkaa
