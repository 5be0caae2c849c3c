/-
  Right of chapter 8 and of its reference, walked: each returns what errR says.
-/
import Derived.Test.YtgmefnddbiofkaaRows
import Derived.Test.YtgmefnddbiofkaaMat
import Derived.Test.YtgmefnddbiofkaaRightN
namespace Go.Proofs.Ytgmefnddbiofkaa
open Go.RowKit

theorem ret_int {k : IntKind} {a b : Int} (h : a = b) : Ending.returned (.int k a) = .returned (.int k b) := by rw [h]
theorem ret_bool {a b : Bool} (h : a = b) : Ending.returned (.bool a) = .returned (.bool b) := by rw [h]

theorem err_long1 {rows : List (List Int)} (h : 8 < rows.length) : errR rows = 4 := by unfold errR; rw [if_pos h]
theorem err_long2 {rows : List (List Int)} (h : rows.any longB = true) : errR rows = 4 := by
  unfold errR
  by_cases h8 : 8 < rows.length
  · rw [if_pos h8]
  · rw [if_neg h8, if_pos h]
theorem err_form {rows : List (List Int)} (h : rows.length ≤ 8) (h1 : rows.any longB = false) (h2 : rows.any (formB rows) = true) : errR rows = 3 := by
  unfold errR
  rw [if_neg (by omega), if_neg (by simp [h1]), if_pos h2]
theorem err_range {rows : List (List Int)} (h : rows.length ≤ 8) (h1 : rows.any longB = false) (h2 : rows.any (formB rows) = false) (h3 : rows.any rangeB = true) : errR rows = 2 := by
  unfold errR
  rw [if_neg (by omega), if_neg (by simp [h1]), if_neg (by simp [h2]), if_pos h3]
theorem err_ok {rows : List (List Int)} (h : rows.length ≤ 8) (h1 : rows.any longB = false) (h2 : rows.any (formB rows) = false) (h3 : rows.any rangeB = false) : errR rows = 0 := by
  unfold errR
  rw [if_neg (by omega), if_neg (by simp [h1]), if_neg (by simp [h2]), if_neg (by simp [h3])]

set_option maxHeartbeats 400000 in
theorem right_any (A : Option Addr) (n c B : Nat) (rows : List (List Int)) (w : World) (hm : Mat w B A n rows) (hn : n ≤ 1000) :
    Calls Try.prog 12 #[.slice A n c] w fun e w' => e = .returned (.int .i64 (errR rows)) ∧ w = w' := by
  have HL := Lib.hid hm.len
  have HM := Lib.hid hm
  clear hm
  by_cases h8 : n ≤ 8
  · go_enter Try.func12, Try.ntmps12
    go_wp2_with fail
    go_loop [16] (fun i => ∃ k : Nat, k ≤ n ∧ i = .int .i64 k ∧ (rows.take k).any longB = false) (fun i => n - (intOf i).toNat)
    case atStart => exact ⟨0, by omega, rfl, by simp⟩
    case round =>
      obtain ⟨k, hk, rfl, hall⟩ := hrel
      have HA := Lib.hid hall
      clear hall
      by_cases hlt : k < n
      · obtain ⟨ad, a, rc, rfl, _, hc, hrl, hrc, hri⟩ := HM.out.row hlt
        unfold maxLen at hrc
        have HT := Lib.hid (any_take_succ longB [] rows k (by rw [HL.out]; exact hlt))
        have HAt := Lib.hid (any_of_at longB [] rows k (by rw [HL.out]; exact hlt))
        clear hri
        generalize hr : rows.getD k [] = r at *
        have HR := Lib.hid hr
        clear hr
        by_cases hl8 : 8 < r.length
        · go_wp2
          go_ret
          exact ⟨ret_int (err_long2 (HAt.out (by simp [longB, hl8]))).symm, rfl⟩
        · go_wp2
          go_round
          case rel => exact ⟨k + 1, by omega, by go_num, by rw [HT.out, HA.out]; simp [longB]; omega⟩
          case measure => simp [intOf]; omega
      · have H1 := Lib.hid (any_of_take longB rows k (by rw [HL.out]; omega) HA.out)
        clear HA
        go_wp2_with fail
        go_loop [26] (fun i => ∃ k : Nat, k ≤ n ∧ i = .int .i64 k ∧ (rows.take k).any (formB rows) = false) (fun i => n - (intOf i).toNat)
        case atStart => exact ⟨0, by omega, rfl, by simp⟩
        case round =>
          obtain ⟨k, hk, rfl, hall⟩ := hrel
          have HA := Lib.hid hall
          clear hall
          by_cases hlt : k < n
          · obtain ⟨ad, a, rc, rfl, _, hc, hrl, hrc, hri⟩ := HM.out.row hlt
            obtain ⟨ad', a0, rc0, e0, _, hc0, hrl0, hrc0, hri0⟩ := HM.out.row (k := 0) (by omega)
            injection e0 with e0
            subst e0
            have hc0' : w.cell? ad = some (.slice a0 (rows.getD 0 []).length rc0) := hc0
            clear hc0
            unfold maxLen at hrc hrc0
            have HT := Lib.hid (any_take_succ (formB rows) [] rows k (by rw [HL.out]; exact hlt))
            have HAt := Lib.hid (any_of_at (formB rows) [] rows k (by rw [HL.out]; exact hlt))
            have HF : Hid (formB rows (rows.getD k []) = (decide ((rows.getD k []).length ≠ (rows.getD 0 []).length) || decide ((rows.getD k []).length < n))) := by rw [← HL.out]; rfl
            clear hri hri0
            generalize hr : rows.getD k [] = r at *
            generalize hr0 : rows.getD 0 [] = r0 at *
            have HR := Lib.hid hr
            have HR0 := Lib.hid hr0
            clear hr hr0
            by_cases hf1 : r.length = r0.length
            · have hb1 : ((r.length : Int) != (r0.length : Int)) = false := by rw [bne_eq_false_iff_eq]; omega
              have hb1' : ((r0.length : Int) != (r0.length : Int)) = false := by simp
              by_cases hf2 : r.length < n
              · go_wp2
                go_ret
                exact ⟨ret_int (err_form (by rw [HL.out]; omega) H1.out (HAt.out (by rw [HF.out]; simp [hf2]))).symm, rfl⟩
              · go_wp2
                go_round
                case rel => exact ⟨k + 1, by omega, by go_num, by rw [HT.out, HA.out, HF.out]; simp [hf1]; omega⟩
                case measure => simp [intOf]; omega
            · have hb1 : ((r.length : Int) != (r0.length : Int)) = true := by rw [bne_iff_ne]; omega
              go_wp2
              go_ret
              exact ⟨ret_int (err_form (by rw [HL.out]; omega) H1.out (HAt.out (by rw [HF.out]; simp [hf1]))).symm, rfl⟩
          · have H2 := Lib.hid (any_of_take (formB rows) rows k (by rw [HL.out]; omega) HA.out)
            clear HA
            go_wp2_with fail
            go_loop [47] (fun i => ∃ k : Nat, k ≤ n ∧ i = .int .i64 k ∧ (rows.take k).any rangeB = false) (fun i => n - (intOf i).toNat)
            case atStart => exact ⟨0, by omega, rfl, by simp⟩
            case round =>
              obtain ⟨k, hk, rfl, hall⟩ := hrel
              have HA := Lib.hid hall
              clear hall
              by_cases hlt : k < n
              · obtain ⟨ad, a, rc, rfl, _, hc, hrl, hrc, hri⟩ := HM.out.row hlt
                unfold maxLen at hrc
                have HT := Lib.hid (any_take_succ rangeB [] rows k (by rw [HL.out]; exact hlt))
                have HAt := Lib.hid (any_of_at rangeB [] rows k (by rw [HL.out]; exact hlt))
                generalize hr : rows.getD k [] = r at *
                have HR := Lib.hid hr
                have HRI := Lib.hid hri
                clear hr hri
                go_wp2_with fail
                go_loop [53] (fun i => ∃ j : Nat, j ≤ r.length ∧ i = .int .i64 j ∧ (r.take j).any badB = false) (fun i => r.length - (intOf i).toNat)
                case atStart => exact ⟨0, by omega, rfl, by simp⟩
                case round =>
                  obtain ⟨j, hj, rfl, hallj⟩ := hrel
                  have HAJ := Lib.hid hallj
                  clear hallj
                  by_cases hjl : j < r.length
                  · obtain ⟨ad2, rfl, _, hcj⟩ := HRI.out.int hjl
                    have HTJ := Lib.hid (any_take_succ badB 0 r j hjl)
                    have HAtJ := Lib.hid (any_of_at badB 0 r j hjl)
                    generalize hx : r.getD j 0 = x at *
                    have HX := Lib.hid hx
                    clear hx
                    by_cases hx0 : x < 0
                    · go_wp2
                      go_ret
                      exact ⟨ret_int (err_range (by rw [HL.out]; omega) H1.out H2.out (HAt.out (HAtJ.out (by simp [badB, hx0])))).symm, rfl⟩
                    · by_cases hx1 : 1000000 < x
                      · go_wp2
                        go_ret
                        exact ⟨ret_int (err_range (by rw [HL.out]; omega) H1.out H2.out (HAt.out (HAtJ.out (by simp [badB, hx1])))).symm, rfl⟩
                      · go_wp2
                        go_round
                        case rel => exact ⟨j + 1, by omega, by go_num, by rw [HTJ.out, HAJ.out]; simp [badB]; omega⟩
                        case measure => simp [intOf]; omega
                  · have HJ := Lib.hid (any_of_take badB r j (by omega) HAJ.out)
                    go_wp2
                    go_round
                    case rel => exact ⟨k + 1, by omega, by go_num, by rw [HT.out, HA.out]; exact HJ.out⟩
                    case measure => simp [intOf]; omega
              · have H3 := Lib.hid (any_of_take rangeB rows k (by rw [HL.out]; omega) HA.out)
                go_wp2
                go_ret
                exact ⟨ret_int (err_ok (by rw [HL.out]; omega) H1.out H2.out H3.out).symm, rfl⟩
  · go_enter Try.func12, Try.ntmps12
    go_wp2
    go_ret
    exact ⟨ret_int (err_long1 (by rw [HL.out]; omega)).symm, rfl⟩
end Go.Proofs.Ytgmefnddbiofkaa
