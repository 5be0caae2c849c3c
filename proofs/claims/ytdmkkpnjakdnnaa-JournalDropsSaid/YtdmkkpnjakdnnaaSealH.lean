/-
  Chain of chapter 4, walked.
-/
import Derived.Test.YtdmkkpnjakdnnaaSealB
namespace Go.Proofs.Ytdmkkpnjakdnnaa
open Go.RowKit

set_option maxHeartbeats 400000 in
theorem chain_any (key : Int) (h0 : 0 ≤ key) (h1 : key < 18446744073709551616) (A : Option Addr) (n c B : Nat) (l : List UInt8) (w : World) (hr : Bytes w B A n l) (hc : n ≤ c) (hn : n ≤ 1000000) :
    Calls Try.prog 23 #[.int .u64 key, .slice A n c] w fun e w' => e = .returned (.int .u64 ((tagN key.toNat l : Nat) : Int)) ∧ w = w' := by
  have HR := Lib.hid hr
  clear hr
  go_enter Try.func23, Try.ntmps23
  go_wp2_with fail
  with_reducible refine (tag_any _ h0 h1 _ _ _ _ _ _ HR.out hc hn).mono ?_
  rintro e w' ⟨rfl, rfl⟩
  go_wp2_with fail
  go_ret
  exact ⟨rfl, rfl⟩

set_option maxHeartbeats 400000 in
theorem rchain_any (key : Int) (h0 : 0 ≤ key) (h1 : key < 18446744073709551616) (A : Option Addr) (n c B : Nat) (l : List UInt8) (w : World) (hr : Bytes w B A n l) (hc : n ≤ c) (hn : n ≤ 1000000) :
    Calls Try.prog 37 #[.int .u64 key, .slice A n c] w fun e w' => e = .returned (.int .u64 ((tagN key.toNat l : Nat) : Int)) ∧ w = w' := by
  have HR := Lib.hid hr
  clear hr
  go_enter Try.func37, Try.ntmps37
  go_wp2_with fail
  with_reducible refine (rtag_any _ h0 h1 _ _ _ _ _ _ HR.out hn).mono ?_
  rintro e w' ⟨rfl, rfl⟩
  go_wp2_with fail
  go_ret
  exact ⟨rfl, rfl⟩

end Go.Proofs.Ytdmkkpnjakdnnaa
