/-
  The laws of chapter 4, walked: the examples hold.
-/
import Derived.Test.YtkhdlcadahdbkaaSealW
namespace Go.Proofs.Ytkhdlcadahdbkaa
open Go.RowKit

theorem ei_u8 : EInfo Try.prog 28 5 1 1 := EInfo.mk' Try.underlying28 (z := .int .u8 0) (by kernel_rfl) rfl (by omega)
theorem mix0 : ((mixN (0 : Int).toNat : Nat) : Int) = 0 := by decide +kernel
theorem mix1 : ((mixN (11400714819323198485 : Int).toNat : Nat) : Int) = 16294208416658607535 := by decide +kernel
theorem key1 : ((keyN 0 1 : Nat) : Int) = 16294208416658607535 := by decide +kernel
theorem key1' : ((keyN (0 : Int).toNat 1 : Nat) : Int) = 16294208416658607535 := key1
def sampleB : List UInt8 := [21, 124, 74, 127, 185, 121, 55, 158]
theorem tag1 : ((tagN (0 : Int).toNat sampleB : Nat) : Int) = ((mixN (16294208416658607527 : Int).toNat : Nat) : Int) := by decide +kernel
theorem tag0 : ((tagN (0 : Int).toNat [] : Nat) : Int) = 0 := by decide +kernel

set_option maxHeartbeats 400000 in
theorem alive_any (w : World) :
    Calls Try.prog 11 #[] w fun e w' => e = .returned (.bool true) ∧ Below w.heap.size w w' := by
  go_enter Try.func11, Try.ntmps11
  go_wp2_with fail
  with_reducible refine (mix_any _ (by omega) (by omega) _).mono ?_
  rintro e w' ⟨rfl, rfl⟩
  rw [mix0]
  go_wp2_with fail
  with_reducible refine (mix_any _ (by omega) (by omega) _).mono ?_
  rintro e w' ⟨rfl, rfl⟩
  rw [mix1]
  go_wp2_with fail
  refine (key_any 0 1 _).mono ?_
  rintro e w' ⟨rfl, rfl⟩
  rw [key1]
  have hb := Reads.bnew w 5 #[.int .u8 21, .int .u8 124, .int .u8 74, .int .u8 127, .int .u8 185, .int .u8 121, .int .u8 55, .int .u8 158] sampleB 8 rfl rfl
  have HB := Lib.hid hb
  clear hb
  go_wp2_with fail
  with_reducible refine (tag_any _ (by omega) (by omega) _ _ _ _ _ _ HB.out (by omega) (by omega)).mono ?_
  rintro e w' ⟨rfl, rfl⟩
  rw [tag1]
  go_wp2_with fail
  with_reducible refine (mix_any _ (by omega) (by omega) _).mono ?_
  rintro e w' ⟨rfl, rfl⟩
  go_wp2_with fail
  with_reducible refine (tag_any _ (by omega) (by omega) _ _ _ 0 [] _ Reads.empty (by omega) (by omega)).mono ?_
  rintro e w' ⟨rfl, rfl⟩
  rw [tag0]
  go_wp2_with fail
  with_reducible refine (check_any _ _ (by omega) (by omega) _ _ _ 0 [] _ Reads.empty (by omega) (by omega)).mono ?_
  rintro e w' ⟨rfl, rfl⟩
  rw [tag0]
  go_wp2_with fail
  with_reducible refine (check_any _ _ (by omega) (by omega) _ _ _ 0 [] _ Reads.empty (by omega) (by omega)).mono ?_
  rintro e w' ⟨rfl, rfl⟩
  rw [tag0]
  go_wp2_with fail
  with_reducible refine (chain_any _ (by omega) (by omega) _ _ _ _ _ _ HB.out (by omega) (by omega)).mono ?_
  rintro e w' ⟨rfl, rfl⟩
  go_wp2_with fail
  with_reducible refine (tag_any _ (by omega) (by omega) _ _ _ _ _ _ HB.out (by omega) (by omega)).mono ?_
  rintro e w' ⟨rfl, rfl⟩
  go_wp2_with fail
  go_ret
  exact ⟨rfl, (Below.refl _ _).alloc (Nat.le_refl _) _⟩

theorem beq_mix (x y : Nat) (hx : x < 18446744073709551616) (hy : y < 18446744073709551616) : ((((mixN x : Nat) : Int) == ((mixN y : Nat) : Int)) == ((x : Int) == (y : Int))) = true := by
  by_cases h : x = y
  · subst h; simp
  · have h1 : mixN x ≠ mixN y := fun e => h (mixN_inj x y hx hy e)
    have e1 : (((mixN x : Nat) : Int) == ((mixN y : Nat) : Int)) = false := beq_eq_false_iff_ne.2 (by omega)
    have e2 : ((x : Int) == (y : Int)) = false := beq_eq_false_iff_ne.2 (by omega)
    rw [e1, e2]
    rfl

end Go.Proofs.Ytkhdlcadahdbkaa
