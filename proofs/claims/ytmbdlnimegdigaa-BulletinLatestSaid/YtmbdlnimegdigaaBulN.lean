/-
  The plain law of chapter 49: bulletins. No program is in sight.
-/
import Derived.Test.YtmbdlnimegdigaaBase
namespace Go.Proofs.Ytmbdlnimegdigaa

/-- a bulletin -/
structure Bu where
  ver : Int
  fr : Int
  ti : Int
  lo : Int
  hi : Int
  lev : Int
  zs : List Int
def InR (b : Bu) : Prop := 1 ≤ b.ver ∧ b.ver ≤ 1000000 ∧ 0 ≤ b.fr ∧ b.fr < b.ti ∧ b.ti ≤ 20000000 ∧ 0 ≤ b.lo ∧ b.lo < b.hi ∧ b.hi ≤ 6000 ∧ 1 ≤ b.lev ∧ b.lev ≤ 5
instance (b : Bu) : Decidable (InR b) := by unfold InR; exact inferInstance
/-- zones from a number on: each from 1 to 32 and greater than the one before -/
def zonesF : Int → List Int → Bool
  | _, [] => true
  | p, z :: l => decide (p < z) && decide (z ≤ 32) && zonesF z l
def zonesB (l : List Int) : Bool := zonesF 0 l && decide (0 < l.length)
/-- the first error from a Version on -/
def rightF : Int → List Bu → Int
  | _, [] => 0
  | p, b :: l => if ¬ InR b then 2 else if zonesB b.zs = false then 1 else if b.ver < p then 11 else rightF b.ver l
def rightN (l : List Bu) : Int := if 64 < l.length then 4 else rightF 0 l

def hasB (b : Bu) (t : Int) : Bool := decide (b.fr ≤ t) && decide (t < b.ti)
/-- the greatest of some numbers, at least p -/
def curF (t : Int) (p : Int) (l : List Bu) : Int := l.foldl (fun p b => if hasB b t = true ∧ p < b.ver then b.ver else p) p
def curN (l : List Bu) (t : Int) : Int := curF t 0 l
/-- the greatest level of those that a test takes -/
def levF (c : Bu → Bool) (p : Int) (l : List Bu) : Int := l.foldl (fun p b => if c b = true ∧ p < b.lev then b.lev else p) p
def countB (v t : Int) (b : Bu) : Bool := decide (b.ver = v) && hasB b t
def placeB (v zone low high t : Int) (b : Bu) : Bool := countB v t b && b.zs.contains zone && decide (b.lo < high) && decide (low < b.hi)
def levN (l : List Bu) (zone low high t : Int) : Int := levF (placeB (curN l t) zone low high t) 0 l
def worN (l : List Bu) (t : Int) : Int := levF (countB (curN l t) t) 0 l
theorem curF_snoc (t p : Int) (l : List Bu) (b : Bu) : curF t p (l ++ [b]) = if hasB b t = true ∧ curF t p l < b.ver then b.ver else curF t p l := by unfold curF; rw [List.foldl_append]; rfl
theorem levF_snoc (c : Bu → Bool) (p : Int) (l : List Bu) (b : Bu) : levF c p (l ++ [b]) = if c b = true ∧ levF c p l < b.lev then b.lev else levF c p l := by unfold levF; rw [List.foldl_append]; rfl
end Go.Proofs.Ytmbdlnimegdigaa
