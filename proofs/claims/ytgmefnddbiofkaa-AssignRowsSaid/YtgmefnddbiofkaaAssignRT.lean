/-
  Total of the reference of chapter 8, and the small functions about it, walked.
-/
import Derived.Test.YtgmefnddbiofkaaAssignT
namespace Go.Proofs.Ytgmefnddbiofkaa
open Go.RowKit

theorem colsR_zero {rows : List (List Int)} (h : rows.length = 0) : colsR rows = 0 := by
  have := List.eq_nil_of_length_eq_zero h
  subst this
  rfl

set_option maxHeartbeats 400000 in
theorem cols_any (A : Option Addr) (n c B : Nat) (rows : List (List Int)) (w : World) (hm : Mat w B A n rows) (hn : n ≤ 1000000) :
    Calls Try.prog 22 #[.slice A n c] w fun e w' => e = .returned (.int .i64 (colsR rows : Int)) ∧ w = w' := by
  have HL := Lib.hid hm.len
  have HM := Lib.hid hm
  clear hm
  by_cases h0 : n = 0
  · have hb : ((n : Int) == 0) = true := by rw [beq_iff_eq]; omega
    have HZ := Lib.hid (colsR_zero (rows := rows) (by rw [HL.out]; exact h0))
    clear h0
    go_enter Try.func22, Try.ntmps22
    go_wp2
    go_ret
    exact ⟨ret_int (by rw [HZ.out]; rfl), rfl⟩
  · have hb : ((n : Int) == 0) = false := beq_eq_false_iff_ne.2 (by omega)
    obtain ⟨ad, a, rc, rfl, _, hc, hrl, hrc, hri⟩ := HM.out.row (k := 0) (by omega)
    unfold maxLen at hrc
    have hc' : w.cell? ad = some (.slice a (rows.getD 0 []).length rc) := hc
    have HZ : Hid ((rows.getD 0 []).length = colsR rows) := rfl
    generalize hr : rows.getD 0 [] = r at *
    have HR := Lib.hid hr
    have hpos : 0 < n := by omega
    clear hr hc hri h0
    go_enter Try.func22, Try.ntmps22
    go_wp2
    go_ret
    exact ⟨ret_int (by rw [← HZ.out]), rfl⟩

set_option maxHeartbeats 1000000 in
theorem rtotal_any (A : Option Addr) (n c B : Nat) (rows : List (List Int)) (pA : Option Addr) (pn pc : Nat) (p : List Int) (w : World) (hm : Mat w B A n rows) (hR : RightM rows)
    (hp : Ints w B pA pn p) (hpn : pn ≤ 1000000) :
    Calls Try.prog 16 #[.slice A n c, .slice pA pn pc] w fun e w' => e = .returned (.tuple #[.int .i64 (totP rows p).1, .bool (totP rows p).2]) ∧ ∃ m, w' = w.drewN m := by
  have h8 : n ≤ 8 := by rw [← hm.len]; exact hR.few
  have HL := Lib.hid hm.len
  have HPL := Lib.hid hp.ilen
  have HM := Lib.hid hm
  have HP := Lib.hid hp
  have HR := Lib.hid hR
  clear hm hp hR
  by_cases hlen : pn = n
  · have hb1' : ((n : Int) != (n : Int)) = false := by simp
    subst hlen
    obtain ⟨C, hC⟩ : ∃ C, C = colsR rows := ⟨_, rfl⟩
    have HCol : Hid (∀ q, Calls Try.prog 22 #[.slice A pn c] (w.drewN q) fun e w' => e = .returned (.int .i64 (C : Int)) ∧ w.drewN q = w') := fun q => by
      rw [hC]; exact cols_any A pn c B rows _ (HM.out.drewN q) (by omega)
    have HC1 := Lib.hid hC
    clear hC
    go_enter Try.func16, Try.ntmps16
    go_wp2_with fail
    go_loopw [6, 7] (fun s i wr => ∃ k m : Nat, k ≤ pn ∧ i = .int .i64 k ∧ s = .int .i64 (sumT rows p k) ∧ okT (colsR rows) p k = true ∧ wr = w.drewN m) (fun _ i _ => pn - (intOf i).toNat)
    case atStart => exact ⟨0, 0, by omega, rfl, rfl, rfl, rfl⟩
    case round =>
      obtain ⟨k, m, hk, rfl, rfl, hok, rfl⟩ := hrel
      have HO := Lib.hid hok
      clear hok
      by_cases hlt : k < pn
      · obtain ⟨ad, a, rc, rfl, _, hc, hrl, hrc, hri⟩ := HM.out.row hlt
        obtain ⟨ad2, rfl, _, hcp⟩ := HP.out.int hlt
        unfold maxLen at hrc
        have HS : Hid (sumT rows p (k + 1) = sumT rows p k + (rows.getD k []).getD (p.getD k 0).toNat 0) := rfl
        have HC : Hid (C = (rows.getD k []).length) := by
          have hm : rows.getD k [] ∈ rows := by simp [List.getElem?_eq_getElem (show k < rows.length by rw [HL.out]; exact hlt)]
          rw [HC1.out]
          exact (HR.out.same _ hm).1.symm
        have hsb := sumT_bd HR.out p k
        have HNo : Hid (okAt (colsR rows) p k = false → totP rows p = (0, false)) := fun h => totP_no (by rw [HPL.out]; exact hlt) h
        have HYes : Hid (okAt (colsR rows) p k = true → okT (colsR rows) p (k + 1) = true) := fun h => by simp only [okT, HO.out, h]; rfl
        have HAt : Hid (okAt (colsR rows) p k = (decide (0 ≤ p.getD k 0) && decide (p.getD k 0 < (C : Int)) && !decide (p.getD k 0 ∈ p.take k))) := by rw [HC1.out]; rfl
        have hxb : ∀ j, 0 ≤ (rows.getD k []).getD j 0 ∧ (rows.getD k []).getD j 0 ≤ 1000000 := fun j => by
          have hm : rows.getD k [] ∈ rows := by simp [List.getElem?_eq_getElem (show k < rows.length by rw [HL.out]; exact hlt)]
          exact ⟨HR.out.nn _ hm _, HR.out.le _ hm _⟩
        generalize hr : rows.getD k [] = r at *
        generalize hv : p.getD k 0 = v at *
        generalize hs : sumT rows p k = s at *
        have HR1 := Lib.hid hr
        have HV1 := Lib.hid hv
        have HS1 := Lib.hid hs
        have HRI := Lib.hid hri
        have HXB := Lib.hid hxb
        clear hr hv hs hri hxb
        by_cases hv0 : v < 0
        · have hd0 : decide (v < 0) = true := by simp [hv0]
          have HZ := Lib.hid (HNo.out (by rw [HAt.out]; simp; omega))
          go_wp2_with fail
          go_quiet (fail)
          go_wp2_with fail
          go_ret2
          exact ⟨ret_ib HZ.out, _, by first | rfl | exact World.drewN_drewN _ _ _⟩
        · have hd0 : decide (v < 0) = false := by simp; omega
          by_cases hv1 : v < C
          · have hd1 : decide ((C : Int) ≤ v) = false := by simp; omega
            obtain ⟨x, rfl⟩ := Int.eq_ofNat_of_zero_le (show 0 ≤ v by omega)
            have hxr : x < r.length := by have := HC.out; omega
            obtain ⟨ad3, rfl, _, hcx⟩ := HRI.out.int hxr
            have hxx := HXB.out x
            generalize hy : r.getD x 0 = y at *
            have HY := Lib.hid hy
            clear hy
            go_wp2_with fail
            go_quiet ((go_at_call 22; exact quiet_add_left (HCol.out _)))
            go_wp2_with fail
            go_loopw [8] (fun i wr => ∃ j m : Nat, j ≤ k ∧ i = .int .i64 j ∧ ¬ (x : Int) ∈ p.take j ∧ wr = w.drewN m) (fun i _ => k - (intOf i).toNat)
            case atStart => exact ⟨0, _, by omega, rfl, by simp, World.drewN_drewN _ _ _⟩
            case round =>
              obtain ⟨j, m2, hj, rfl, hno, rfl⟩ := hrel
              have HN := Lib.hid hno
              clear hno
              by_cases hjk : j < k
              · obtain ⟨ad4, e4, _, hcj⟩ := HP.out.int (k := j) (by omega)
                injection e4 with e4
                subst e4
                have HT := Lib.hid (mem_take_succ p j (x : Int) (by rw [HPL.out]; omega))
                have HMem : Hid ((x : Int) = p.getD j 0 → (x : Int) ∈ p.take k) := fun e => by
                  rw [e]
                  have hjl : j < p.length := by rw [HPL.out]; omega
                  have e2 : p.getD j 0 = p[j] := by simp [List.getElem?_eq_getElem hjl]
                  rw [e2]
                  exact List.mem_iff_getElem.2 ⟨j, by rw [List.length_take]; omega, by rw [List.getElem_take]⟩
                generalize hz : p.getD j 0 = z at *
                have HZ1 := Lib.hid hz
                clear hz
                by_cases he : z = (x : Int)
                · have hb : (z == (x : Int)) = true := beq_iff_eq.2 he
                  have HE := Lib.hid he.symm
                  clear he
                  have HZ := Lib.hid (HNo.out (by rw [HAt.out]; have := HMem.out HE.out; simp [this]))
                  go_wp2_with fail
                  go_quiet (fail)
                  go_wp2_with fail
                  go_ret2
                  exact ⟨ret_ib HZ.out, _, by first | rfl | exact World.drewN_drewN _ _ _⟩
                · have hb : (z == (x : Int)) = false := beq_eq_false_iff_ne.2 he
                  have HE := Lib.hid (Ne.symm he)
                  clear he
                  go_wp2_with fail
                  go_quiet (fail)
                  go_wp2_with fail
                  go_roundw
                  case rel => exact ⟨j + 1, _, by omega, by go_num, fun h => (HT.out.1 h).elim HN.out HE.out, by first | rfl | exact World.drewN_drewN _ _ _⟩
                  case measure => simp [intOf]; omega
              · obtain rfl : j = k := by omega
                have HZ := Lib.hid (HYes.out (by rw [HAt.out]; have := HN.out; simp [this]; omega))
                have hxb2 : (x : Int) < (r.length : Int) := by omega
                go_wp2_with fail
                go_quiet (fail)
                go_wp2_with fail
                go_roundw
                case rel => exact ⟨j + 1, _, by omega, by go_num, by rw [HS.out, Int.toNat_natCast, HY.out], HZ.out, by first | rfl | exact World.drewN_drewN _ _ _⟩
                case measure => simp [intOf]; omega
          · have hd1 : decide ((C : Int) ≤ v) = true := by simp; omega
            have HZ := Lib.hid (HNo.out (by rw [HAt.out]; simp; omega))
            go_wp2_with fail
            go_quiet ((go_at_call 22; exact quiet_add_left (HCol.out _)))
            go_wp2_with fail
            go_ret2
            exact ⟨ret_ib HZ.out, _, by first | rfl | exact World.drewN_drewN _ _ _⟩
      · obtain rfl : pn = k := by omega
        have HZ := Lib.hid (totP_yes (by rw [HPL.out, HL.out]) (by rw [HPL.out]; exact HO.out))
        go_wp2_with fail
        go_ret2
        exact ⟨ret_ib (by rw [HZ.out, HPL.out]), _, rfl⟩
  · have hb1 : ((pn : Int) != (n : Int)) = true := by rw [bne_iff_ne]; omega
    have HZ := Lib.hid (totP_no_len (rows := rows) (p := p) (by rw [HPL.out, HL.out]; exact hlen))
    go_enter Try.func16, Try.ntmps16
    go_wp2_with fail
    go_ret2
    exact ⟨ret_ib HZ.out, 0, rfl⟩
end Go.Proofs.Ytgmefnddbiofkaa
