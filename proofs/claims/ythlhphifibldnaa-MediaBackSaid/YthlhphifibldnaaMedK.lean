/-
  block of the law of chapter 25, walked.
-/
import Derived.Test.YthlhphifibldnaaCodecV
import Derived.Test.YthlhphifibldnaaMedP
import Derived.BigQuiet
namespace Go.Proofs.Ythlhphifibldnaa
open Go.RowKit

/-- the first i bytes differ only in block k, and they do there -/
def OneB (a b : List UInt8) (i k : Nat) : Prop := (∃ j, j < i ∧ j / 8 = k ∧ a.getD j 0 ≠ b.getD j 0) ∧ ∀ j, j < i → a.getD j 0 ≠ b.getD j 0 → j / 8 = k
/-- the first i bytes are looked at: the number of the block so far -/
def AtB (a b : List UInt8) (i : Nat) (z : Int) : Prop := (z = -1 ∧ ∀ j, j < i → a.getD j 0 = b.getD j 0) ∨ ∃ k : Nat, z = (k : Int) ∧ k ≤ i ∧ OneB a b i k
theorem atB_same {a b : List UInt8} {i : Nat} {z : Int} (h : AtB a b i z) (he : a.getD i 0 = b.getD i 0) : AtB a b (i + 1) z := by
  rcases h with ⟨rfl, h⟩ | ⟨k, rfl, hk, ⟨j, h1, h2, h3⟩, h4⟩
  · exact .inl ⟨rfl, fun j hj => by rcases Nat.lt_succ_iff_lt_or_eq.1 hj with h' | rfl <;> first | exact h j h' | exact he⟩
  · exact .inr ⟨k, rfl, by omega, ⟨j, by omega, h2, h3⟩, fun j hj hn => by rcases Nat.lt_succ_iff_lt_or_eq.1 hj with h' | rfl <;> first | exact h4 j h' hn | exact (hn he).elim⟩
theorem atB_in {a b : List UInt8} {i k : Nat} (h : AtB a b i (k : Int)) (he : i / 8 = k) : AtB a b (i + 1) (k : Int) := by
  rcases h with ⟨h, _⟩ | ⟨k', h0, hk, ⟨j, h1, h2, h3⟩, h4⟩
  · omega
  · obtain rfl : k = k' := by omega
    exact .inr ⟨k, rfl, by omega, ⟨j, by omega, h2, h3⟩, fun j hj hn => by rcases Nat.lt_succ_iff_lt_or_eq.1 hj with h' | rfl <;> first | exact h4 j h' hn | exact he⟩
theorem atB_new {a b : List UInt8} {i : Nat} (h : AtB a b i (-1)) (he : a.getD i 0 ≠ b.getD i 0) : AtB a b (i + 1) ((i / 8 : Nat) : Int) := by
  rcases h with ⟨_, h⟩ | ⟨k', h0, _⟩
  · exact .inr ⟨i / 8, rfl, by omega, ⟨i, by omega, rfl, he⟩, fun j hj hn => by rcases Nat.lt_succ_iff_lt_or_eq.1 hj with h' | rfl <;> first | exact (hn (h j h')).elim | exact rfl⟩
  · omega
/-- what block returns -/
def BlockR (a b : List UInt8) (w : World) (e : Ending) (w' : World) : Prop := ∃ z : Int, e = .returned (.int .i64 z) ∧ (z < 0 ∨ a.length = b.length ∧ ∃ k : Nat, OneB a b a.length k) ∧ Drew w w'

set_option maxRecDepth 100000 in
set_option maxHeartbeats 1000000 in
theorem mblock_any (A A' : Option Addr) (n c n' c' B B' : Nat) (a b : List UInt8) (w : World) (hr : Bytes w B A n a) (hr' : Bytes w B' A' n' b) (hn : n ≤ 1000000) :
    Calls Try.prog 26 #[.slice A n c, .slice A' n' c'] w (BlockR a b w) := by
  have HR := Lib.hid hr
  have HR' := Lib.hid hr'
  have HL := Lib.hid hr.blen
  have HL' := Lib.hid hr'.blen
  clear hr hr'
  by_cases hnn : n = n'
  · subst hnn
    go_enter Try.func26, Try.ntmps26
    go_wp2_with fail
    go_loopw [5, 6] (fun z i wr => ∃ (k : Nat) (x : Int), k ≤ n ∧ i = .int .i64 k ∧ z = .int .i64 x ∧ x ≤ 1000000 ∧ -1 ≤ x ∧ AtB a b k x ∧ Drew w wr) (fun _ i _ => n - (intOf i).toNat)
    case atStart => exact ⟨0, -1, by omega, rfl, rfl, by omega, by omega, .inl ⟨rfl, fun j hj => absurd hj (by omega)⟩, Drew.refl _⟩
    case round =>
      obtain ⟨k, x, hk, rfl, rfl, hx1, hx2, hat, hdr⟩ := hrel
      obtain ⟨wo, rfl⟩ : ∃ wo : World, wo = wr := ⟨_, rfl⟩
      have HRo : Hid (Bytes wo B A n a) := by obtain ⟨nq0, rfl⟩ := hdr; exact HR.out
      have HRo' : Hid (Bytes wo B' A' n b) := by obtain ⟨nq0, rfl⟩ := hdr; exact HR'.out
      have HD := Lib.hid hdr
      have HA := Lib.hid hat
      clear hat hdr
      by_cases hlt : k < n
      · obtain ⟨ad, rfl, _, hc⟩ := HRo.out.byte hlt
        obtain ⟨ad', rfl, _, hc'⟩ := HRo'.out.byte hlt
        have HE : Hid ((a.getD k 0).toNat = (b.getD k 0).toNat → a.getD k 0 = b.getD k 0) := fun h => toNat_ext h
        have HNE : Hid ((a.getD k 0).toNat ≠ (b.getD k 0).toNat → a.getD k 0 ≠ b.getD k 0) := fun h h2 => h (by rw [h2])
        generalize (a.getD k 0).toNat = p at *
        generalize (b.getD k 0).toNat = q at *
        by_cases hpq : p = q
        · have HS := Lib.hid (atB_same HA.out (HE.out hpq))
          have d1 : ((p : Int) == (q : Int)) = true := by rw [beq_iff_eq]; omega
          have d2 : (p == q) = true := by rw [beq_iff_eq]; exact hpq
          clear hpq HE HNE
          go_wp2_with fail
          go_quiet (fail)
          go_wp2_with fail
          go_roundw
          case rel => exact ⟨k + 1, x, by omega, by go_num, rfl, by omega, by omega, HS.out, HD.out.trans ⟨nq, rfl⟩⟩
          case measure => simp [intOf]; omega
        · have hNE := HNE.out hpq
          have HNEQ := Lib.hid hNE
          have d1 : ((p : Int) == (q : Int)) = false := by rw [beq_eq_false_iff_ne]; omega
          have d2 : (p == q) = false := by rw [beq_eq_false_iff_ne]; exact hpq
          clear hpq HE HNE hNE
          by_cases hx8 : x = ((k / 8 : Nat) : Int)
          · have HS : Hid (AtB a b (k + 1) x) := by
              rw [hx8] at HA ⊢
              exact hide (atB_in HA.out rfl)
            have d3 : (x == (k : Int) / 8) = true := by rw [beq_iff_eq]; omega
            clear hx8
            go_wp2_with fail
            go_quiet (fail)
            go_wp2_with fail
            go_roundw
            case rel => exact ⟨k + 1, x, by omega, by go_num, rfl, by omega, by omega, HS.out, HD.out.trans ⟨nq, rfl⟩⟩
            case measure => simp [intOf]; omega
          · have d3 : (x == (k : Int) / 8) = false := by rw [beq_eq_false_iff_ne]; omega
            clear hx8
            by_cases hx0 : 0 ≤ x
            · go_wp2_with fail
              go_quiet (fail)
              go_wp2_with fail
              go_ret
              exact ⟨-1, rfl, .inl (by omega), HD.out.trans ⟨nq, rfl⟩⟩
            · obtain rfl : x = -1 := by omega
              have HS := Lib.hid (atB_new HA.out HNEQ.out)
              go_wp2_with fail
              go_quiet (fail)
              go_wp2_with fail
              go_roundw
              case rel => exact ⟨k + 1, _, by omega, by go_num, by go_num, by omega, by omega, HS.out, HD.out.trans ⟨nq, rfl⟩⟩
              case measure => simp [intOf]; omega
      · obtain rfl : k = n := by omega
        go_wp2_with fail
        go_ret
        refine ⟨x, rfl, ?_, HD.out⟩
        rcases HA.out with ⟨h, _⟩ | ⟨j, h, _, h2⟩
        · exact .inl (by omega)
        · exact .inr ⟨by rw [HL.out, HL'.out], j, by rw [HL.out]; exact h2⟩
  · have d1 : ((n : Int) != (n' : Int)) = true := by rw [bne_iff_ne]; omega
    have d2 : (n != n') = true := by rw [bne_iff_ne]; exact hnn
    go_enter Try.func26, Try.ntmps26
    go_wp2_with fail
    go_ret
    exact ⟨-1, rfl, .inl (by omega), Drew.refl _⟩
end Go.Proofs.Ythlhphifibldnaa
