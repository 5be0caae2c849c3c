/-
  The plain law of chapter 25: media. No program is in sight.
-/
import Derived.Test.YthlhphifibldnaaCodecM
import Derived.Test.YthlhphifibldnaaSealN
namespace Go.Proofs.Ythlhphifibldnaa

/-- the contents of a medium -/
structure Med where
  ser : Int
  cnt : Int
  prd : Int
  fst : Int
  lft : Int
  tdy : Int
  lif : Int
  at_ : Int
  tag : Int
def RangeM (m : Med) : Prop := 1 ≤ m.ser ∧ m.ser ≤ 9999 ∧ 1 ≤ m.prd ∧ m.prd ≤ 9999 ∧ 0 ≤ m.cnt ∧ m.cnt ≤ 1000000 ∧ -1 ≤ m.fst ∧ m.fst ≤ 20000000 ∧ -1 ≤ m.at_ ∧ m.at_ ≤ 20000000 ∧ 0 ≤ m.lft ∧ m.lft ≤ 100 ∧ -1 ≤ m.tdy ∧ m.tdy ≤ 231 ∧ 0 ≤ m.lif ∧ m.lif ≤ 9999
def StateM (m : Med) : Prop := ¬ (m.fst = -1 ∧ m.at_ ≠ -1) ∧ ¬ (m.at_ = -1 ∧ (m.lif ≠ 0 ∨ m.tdy ≠ -1)) ∧ m.fst ≤ m.at_
/-- the error of Right -/
def RightE (m : Med) (e : Int) : Prop := (¬ RangeM m ∧ e = 2) ∨ (RangeM m ∧ ¬ StateM m ∧ e = 10) ∨ (RangeM m ∧ StateM m ∧ e = 0)
theorem RightE.unique {m : Med} {e f : Int} (h : RightE m e) (k : RightE m f) : e = f := by
  rcases h with ⟨h1, rfl⟩ | ⟨h1, h2, rfl⟩ | ⟨h1, h2, rfl⟩ <;> rcases k with ⟨k1, rfl⟩ | ⟨k1, k2, rfl⟩ | ⟨k1, k2, rfl⟩ <;> first | rfl | exact (h1 k1).elim | exact (k1 h1).elim | exact (h2 k2).elim | exact (k2 h2).elim
theorem RightE.has (m : Med) : ∃ e, RightE m e := by
  by_cases h : RangeM m
  · by_cases k : StateM m
    · exact ⟨0, .inr (.inr ⟨h, k, rfl⟩)⟩
    · exact ⟨10, .inr (.inl ⟨h, k, rfl⟩)⟩
  · exact ⟨2, .inl ⟨h, rfl⟩⟩
theorem RightE.r2 {m : Med} (h : ¬ RangeM m) : RightE m 2 := .inl ⟨h, rfl⟩
theorem RightE.r10 {m : Med} (h : RangeM m) (k : ¬ StateM m) : RightE m 10 := .inr (.inl ⟨h, k, rfl⟩)
theorem RightE.r0 {m : Med} (h : RangeM m) (k : StateM m) : RightE m 0 := .inr (.inr ⟨h, k, rfl⟩)
theorem RightE.ok {m : Med} (h : RightE m 0) : RangeM m ∧ StateM m := by
  rcases h with ⟨_, h⟩ | ⟨_, _, h⟩ | ⟨h1, h2, _⟩
  · cases h
  · cases h
  · exact ⟨h1, h2⟩
/-- the numbers of a body -/
def bodyL (m : Med) : List Int := [m.ser, m.cnt, m.prd, m.fst + 1, m.lft, m.tdy + 1, m.lif, m.at_ + 1]
def bodyN (m : Med) : List UInt8 := putsN (bodyL m)
theorem bodyN_len (m : Med) : (bodyN m).length ≤ 80 := putsN_len (bodyL m)
/-- the tag of a medium -/
def tagM (key : Nat) (m : Med) : Nat := tagN (keyN key m.ser) (bodyN m)
def signM (key : Nat) (m : Med) : Med := { m with tag := ((tagM key m : Nat) : Int) }
def be8 (t : Nat) : List UInt8 := [UInt8.ofNat (t / 72057594037927936), UInt8.ofNat (t / 281474976710656), UInt8.ofNat (t / 1099511627776), UInt8.ofNat (t / 4294967296), UInt8.ofNat (t / 16777216), UInt8.ofNat (t / 65536), UInt8.ofNat (t / 256), UInt8.ofNat t]
def encN (m : Med) : List UInt8 := frameN (bodyN m ++ be8 m.tag.toNat)
end Go.Proofs.Ythlhphifibldnaa
