/-
  Contains, Total of chapter 8 and of its reference, walked.
-/
import Derived.Test.YtgmefnddbiofkaaAssignRR
import Derived.Test.YtgmefnddbiofkaaTotN
namespace Go.Proofs.Ytgmefnddbiofkaa
open Go.RowKit

def IdxPost (v : Int) (l : List Int) (w : World) (e : Ending) (w' : World) : Prop := ∃ r : Int, e = .returned (.int .i64 r) ∧ (v ∈ l ↔ 0 ≤ r) ∧ w = w'
theorem mem_take_succ (l : List Int) (k : Nat) (v : Int) (h : k < l.length) : v ∈ l.take (k + 1) ↔ v ∈ l.take k ∨ v = l.getD k 0 := by
  have e : l.getD k 0 = l[k] := by simp [List.getElem?_eq_getElem h]
  rw [List.take_succ_eq_append_getElem h, e, List.mem_append, List.mem_singleton]
theorem ret_ib {T : Int × Bool} {a : Int} {b : Bool} (h : T = (a, b)) : Ending.returned (.tuple #[.int .i64 a, .bool b]) = .returned (.tuple #[.int .i64 T.1, .bool T.2]) := by rw [h]

set_option maxHeartbeats 400000 in
theorem index_any (A : Option Addr) (n c B : Nat) (l : List Int) (v : Int) (w : World) (hr : Ints w B A n l) (hn : n ≤ 1000000) :
    Calls Try.prog 26 #[.slice A n c, .int .i64 v] w (IdxPost v l w) := by
  have HL := Lib.hid hr.ilen
  have HR := Lib.hid hr
  clear hr
  go_enter Try.func26, Try.ntmps26
  go_wp2_with fail
  go_loop [8] (fun i => ∃ k : Nat, k ≤ n ∧ i = .int .i64 k ∧ ¬ v ∈ l.take k) (fun i => n - (intOf i).toNat)
  case atStart => exact ⟨0, by omega, rfl, by simp⟩
  case round =>
    obtain ⟨k, hk, rfl, hno⟩ := hrel
    have HN := Lib.hid hno
    clear hno
    by_cases hlt : k < n
    · obtain ⟨ad, rfl, _, hc⟩ := HR.out.int hlt
      have HT := Lib.hid (mem_take_succ l k v (by rw [HL.out]; exact hlt))
      have HM : Hid (v = l.getD k 0 → v ∈ l) := fun e => by rw [e]; simp [List.getElem?_eq_getElem (show k < l.length by rw [HL.out]; exact hlt)]
      generalize hx : l.getD k 0 = x at *
      have HX := Lib.hid hx
      clear hx
      by_cases he : v = x
      · have hb : (v == x) = true := beq_iff_eq.2 he
        have hb' : (x == x) = true := by simp
        have HE := Lib.hid he
        clear he
        go_wp2
        go_ret
        exact ⟨_, rfl, ⟨fun _ => by omega, fun _ => HM.out HE.out⟩, rfl⟩
      · have hb : (v == x) = false := beq_eq_false_iff_ne.2 he
        have HE := Lib.hid he
        clear he
        go_wp2
        go_round
        case rel => exact ⟨k + 1, by omega, by go_num, fun h => (HT.out.1 h).elim HN.out HE.out⟩
        case measure => simp [intOf]; omega
    · go_wp2
      go_ret
      refine ⟨_, rfl, ⟨fun h => ?_, fun h => by simp at h⟩, rfl⟩
      exact (HN.out (by rw [List.take_of_length_le (by rw [HL.out]; omega)]; exact h)).elim

set_option maxHeartbeats 400000 in
theorem contains_any (b : Bool) (A : Option Addr) (n c B : Nat) (l : List Int) (v : Int) (w : World) (hr : Ints w B A n l) (hn : n ≤ 1000000) (hb : b = decide (v ∈ l)) :
    Calls Try.prog 21 #[.slice A n c, .int .i64 v] w fun e w' => e = .returned (.bool b) ∧ w = w' := by
  have HR := Lib.hid hr
  have HB := Lib.hid hb
  clear hr hb
  go_enter Try.func21, Try.ntmps21
  go_wp2_with fail
  with_reducible refine (index_any _ _ _ _ _ _ _ HR.out hn).mono ?_
  rintro e w' ⟨r, rfl, hiff, rfl⟩
  have HI := Lib.hid hiff
  clear hiff
  go_wp2_with fail
  go_ret
  refine ⟨?_, rfl⟩
  have : decide (0 ≤ r) = b := by rw [HB.out]; exact decide_eq_decide.2 HI.out.symm
  exact ret_bool (by simpa using this)

set_option maxHeartbeats 400000 in
theorem total_any (A : Option Addr) (n c B : Nat) (rows : List (List Int)) (pA : Option Addr) (pn pc : Nat) (p : List Int) (w : World) (hm : Mat w B A n rows) (hR : RightM rows)
    (hp : Ints w B pA pn p) (hpc : pn ≤ pc) (hpn : pn ≤ 1000000) :
    Calls Try.prog 15 #[.slice A n c, .slice pA pn pc] w fun e w' => e = .returned (.tuple #[.int .i64 (totP rows p).1, .bool (totP rows p).2]) ∧ w = w' := by
  have h8 : n ≤ 8 := by rw [← hm.len]; exact hR.few
  have HL := Lib.hid hm.len
  have HPL := Lib.hid hp.ilen
  have HM := Lib.hid hm
  have HP := Lib.hid hp
  have HR := Lib.hid hR
  clear hm hp hR
  by_cases hlen : pn = n
  · have hb1 : ((pn : Int) != (n : Int)) = false := by rw [bne_eq_false_iff_eq]; omega
    have hb1' : ((n : Int) != (n : Int)) = false := by simp
    subst hlen
    clear hb1
    go_enter Try.func15, Try.ntmps15
    go_wp2_with fail
    go_loop [6, 16] (fun s i => ∃ k : Nat, k ≤ pn ∧ i = .int .i64 k ∧ s = .int .i64 (sumT rows p k) ∧ okT (colsR rows) p k = true) (fun _ i => pn - (intOf i).toNat)
    case atStart => exact ⟨0, by omega, rfl, rfl, rfl⟩
    case round =>
      obtain ⟨k, hk, rfl, rfl, hok⟩ := hrel
      have HO := Lib.hid hok
      clear hok
      by_cases hlt : k < pn
      · obtain ⟨ad, a, rc, rfl, _, hc, hrl, hrc, hri⟩ := HM.out.row hlt
        obtain ⟨ad2, rfl, _, hcp⟩ := HP.out.int hlt
        unfold maxLen at hrc
        have HS : Hid (sumT rows p (k + 1) = sumT rows p k + (rows.getD k []).getD (p.getD k 0).toNat 0) := rfl
        have HC : Hid (colsR rows = (rows.getD k []).length) := by
          have hm : rows.getD k [] ∈ rows := by simp [List.getElem?_eq_getElem (show k < rows.length by rw [HL.out]; exact hlt)]
          exact (HR.out.same _ hm).1.symm
        have hsb := sumT_bd HR.out p k
        have HNo : Hid (okAt (colsR rows) p k = false → totP rows p = (0, false)) := fun h => totP_no (by rw [HPL.out]; exact hlt) h
        have HYes : Hid (okAt (colsR rows) p k = true → okT (colsR rows) p (k + 1) = true) := fun h => by simp only [okT, HO.out, h]; rfl
        have HAt : Hid (okAt (colsR rows) p k = (decide (0 ≤ p.getD k 0) && decide (p.getD k 0 < ((rows.getD k []).length : Int)) && !decide (p.getD k 0 ∈ p.take k))) := by rw [← HC.out]; rfl
        have hxb : ∀ j, 0 ≤ (rows.getD k []).getD j 0 ∧ (rows.getD k []).getD j 0 ≤ 1000000 := fun j => by
          have hm : rows.getD k [] ∈ rows := by simp [List.getElem?_eq_getElem (show k < rows.length by rw [HL.out]; exact hlt)]
          exact ⟨HR.out.nn _ hm _, HR.out.le _ hm _⟩
        generalize hr : rows.getD k [] = r at *
        generalize hv : p.getD k 0 = v at *
        generalize hs : sumT rows p k = s at *
        have HR1 := Lib.hid hr
        have HV1 := Lib.hid hv
        have HS1 := Lib.hid hs
        have HRI := Lib.hid hri
        have HXB := Lib.hid hxb
        clear hr hv hs hri hxb
        by_cases hv0 : v < 0
        · have HZ := Lib.hid (HNo.out (by rw [HAt.out]; simp; omega))
          go_wp2
          go_ret2
          exact ⟨ret_ib HZ.out, rfl⟩
        · by_cases hv1 : v < r.length
          · obtain ⟨x, rfl⟩ := Int.eq_ofNat_of_zero_le (show 0 ≤ v by omega)
            obtain ⟨ad3, rfl, _, hcx⟩ := HRI.out.int (k := x) (by omega)
            have hxx := HXB.out x
            generalize hy : r.getD x 0 = y at *
            have HY := Lib.hid hy
            clear hy
            by_cases hmem : (x : Int) ∈ p.take k
            · have HZ := Lib.hid (HNo.out (by rw [HAt.out]; simp [hmem]))
              have HB := Lib.hid (show true = decide ((x : Int) ∈ p.take k) by simp [hmem])
              clear hmem
              go_wp2_with fail
              with_reducible refine (contains_any true _ _ _ _ _ _ _ (HP.out.ifront hk) (by omega) HB.out).mono ?_
              rintro e w' ⟨rfl, rfl⟩
              go_wp2_with fail
              go_ret2
              exact ⟨ret_ib HZ.out, rfl⟩
            · have HZ := Lib.hid (HYes.out (by rw [HAt.out]; simp [hmem]; omega))
              have HB := Lib.hid (show false = decide ((x : Int) ∈ p.take k) by simp [hmem])
              clear hmem
              go_wp2_with fail
              with_reducible refine (contains_any false _ _ _ _ _ _ _ (HP.out.ifront hk) (by omega) HB.out).mono ?_
              rintro e w' ⟨rfl, rfl⟩
              go_wp2_with fail
              go_round
              case rel => exact ⟨k + 1, by omega, by go_num, by rw [HS.out, Int.toNat_natCast, HY.out], HZ.out⟩
              case measure => simp [intOf]; omega
          · have HZ := Lib.hid (HNo.out (by rw [HAt.out]; simp; omega))
            go_wp2
            go_ret2
            exact ⟨ret_ib HZ.out, rfl⟩
      · obtain rfl : pn = k := by omega
        have HZ := Lib.hid (totP_yes (by rw [HPL.out, HL.out]) (by rw [HPL.out]; exact HO.out))
        go_wp2
        go_ret2
        exact ⟨ret_ib (by rw [HZ.out, HPL.out]), rfl⟩
  · have hb1 : ((pn : Int) != (n : Int)) = true := by rw [bne_iff_ne]; omega
    have HZ := Lib.hid (totP_no_len (rows := rows) (p := p) (by rw [HPL.out, HL.out]; exact hlen))
    go_enter Try.func15, Try.ntmps15
    go_wp2_with fail
    go_ret2
    exact ⟨ret_ib HZ.out, rfl⟩
end Go.Proofs.Ytgmefnddbiofkaa
