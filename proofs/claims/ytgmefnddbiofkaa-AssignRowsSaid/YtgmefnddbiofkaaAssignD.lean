/-
  Best of chapter 8, walked: it returns the best assignment.
-/
import Derived.Test.YtgmefnddbiofkaaAssignC
import Derived.Laws.EntriesVeiled
namespace Go.Proofs.Ytgmefnddbiofkaa
open Go.RowKit

set_option maxHeartbeats 1000000 in
theorem best_err (A : Option Addr) (n c : Nat) (rows : List (List Int)) (w : World) (hm : Mat w w.heap.size A n rows) (hn : n ≤ 1000) (x : Int) (hx : errR rows = x) (hx0 : x ≠ 0) :
    Calls Try.prog 17 #[.slice A n c] w fun e w' => e = .returned (.tuple #[.slice none 0 0, .int .i64 0, .int .i64 x]) ∧ Below w.heap.size w w' := by
  have HM := Lib.hid hm
  have HR : Hid (∀ W, Mat W w.heap.size A n rows → Calls Try.prog 12 #[.slice A n c] W fun e w' => e = .returned (.int .i64 x) ∧ W = w') := fun W hW => by
    rw [← hx]; exact right_any A n c _ rows W hW hn
  have hb : (x != 0) = true := by rw [bne_iff_ne]; exact hx0
  clear hm hx hx0
  go_enter Try.func17, Try.ntmps17
  go_wp2_with fail
  with_reducible refine (HR.out _ (HM.out.alloc (Nat.le_refl _) _)).mono ?_
  rintro e w' ⟨rfl, rfl⟩
  go_wp2_with fail
  go_ret3
  exact ⟨rfl, (Below.refl _ _).alloc (Nat.le_refl _) _⟩

theorem World.heap_size_alloc' (w : World) (o : Obj) : (w.alloc o).heap.size = w.heap.size + 1 := by simp
/-- the world in which the search begins -/
def startW (w : World) (A : Option Addr) (n c : Nat) : World :=
  ((((((w.alloc (Obj.cells #[.slice A n c] 22)).alloc (Obj.cells #[.slice none 0 0] 27)).alloc (Obj.cells #[.slice none 0 0] 27)).alloc (Obj.cells #[.int .i64 0] 3)).alloc (Obj.cells #[.bool false] 4)).alloc
    (Obj.cells #[vfC w.heap.size] 37))
theorem startW_DSt (w : World) (A : Option Addr) (n c : Nat) (rows : List (List Int)) (hm : Mat w w.heap.size A n rows) :
    DSt (startW w A n c) w.heap.size A n c rows (.slice none 0 0) (.slice none 0 0) (vfC w.heap.size) 0 false [] none := by
  unfold startW
  refine ⟨?_, ?_, ?_, ?_, ?_, ?_, ?_, ?_, fun _ => rfl, fun _ _ e => (by cases e)⟩
  · exact (((((Blk.new _ _ _).alloc _).alloc _).alloc _).alloc _).alloc _
  · have h := Blk.new (w.alloc (Obj.cells #[.slice A n c] 22)) 27 #[.slice none 0 0]
    simp only [World.heap_size_alloc'] at h
    exact (((h.alloc _).alloc _).alloc _).alloc _
  · have h := Blk.new ((w.alloc (Obj.cells #[.slice A n c] 22)).alloc (Obj.cells #[.slice none 0 0] 27)) 27 #[.slice none 0 0]
    simp only [World.heap_size_alloc'] at h
    exact ((h.alloc _).alloc _).alloc _
  · have h := Blk.new (((w.alloc (Obj.cells #[.slice A n c] 22)).alloc (Obj.cells #[.slice none 0 0] 27)).alloc (Obj.cells #[.slice none 0 0] 27)) 3 #[.int .i64 0]
    simp only [World.heap_size_alloc'] at h
    exact (h.alloc _).alloc _
  · have h := Blk.new ((((w.alloc (Obj.cells #[.slice A n c] 22)).alloc (Obj.cells #[.slice none 0 0] 27)).alloc (Obj.cells #[.slice none 0 0] 27)).alloc (Obj.cells #[.int .i64 0] 3)) 4 #[.bool false]
    simp only [World.heap_size_alloc'] at h
    exact h.alloc _
  · have h := Blk.new (((((w.alloc (Obj.cells #[.slice A n c] 22)).alloc (Obj.cells #[.slice none 0 0] 27)).alloc (Obj.cells #[.slice none 0 0] 27)).alloc (Obj.cells #[.int .i64 0] 3)).alloc (Obj.cells #[.bool false] 4)) 37 #[vfC w.heap.size]
    simp only [World.heap_size_alloc'] at h
    exact h
  · refine (((((hm.alloc ?_ _).alloc ?_ _).alloc ?_ _).alloc ?_ _).alloc ?_ _).alloc ?_ _ <;> (try simp only [World.heap_size_alloc']) <;> omega
  · exact World.ownsRow_nil _ _ _ _

set_option maxHeartbeats 1000000 in
theorem best_ok (A : Option Addr) (n c : Nat) (rows : List (List Int)) (w : World) (hm : Mat w w.heap.size A n rows) (hR : RightM rows) :
    Calls Try.prog 17 #[.slice A n c] w fun e w' => ∃ (p : List Nat) (l : Int) (vA : Option Addr) (vc : Nat), e = .returned (.tuple #[.slice vA p.length vc, .int .i64 l, .int .i64 0]) ∧
      IsBest (colsR rows) rows p l ∧ p.length ≤ vc ∧ vc ≤ maxLen ∧ Ints w' w'.heap.size vA p.length (intsN p) ∧ Below w.heap.size w w' := by
  have HM := Lib.hid hm
  have HL := Lib.hid hm.len
  have h8 : n ≤ 8 := by rw [← hm.len]; exact hR.few
  have HR : Hid (∀ W, Mat W w.heap.size A n rows → Calls Try.prog 12 #[.slice A n c] W fun e w' => e = .returned (.int .i64 0) ∧ W = w') := fun W hW => by
    rw [← errR_of hR]; exact right_any A n c _ rows W hW (by omega)
  have HRM := Lib.hid hR
  clear hm hR
  go_enter Try.func17, Try.ntmps17
  go_wp2_with fail
  with_reducible refine (HR.out _ (HM.out.alloc (Nat.le_refl _) _)).mono ?_
  rintro e w' ⟨rfl, rfl⟩
  go_wp2_with fail
  obtain ⟨st', hst⟩ : ∃ st', dfsA (colsR rows) rows [] 0 none = st' := ⟨_, rfl⟩
  refine (try_any w.heap.size A n c rows HRM.out HL.out rows [] 0 none _ _ _ _ _ (startW_DSt w A n c rows HM.out) rfl (by simp) (by omega) (by simp) st' hst).mono ?_
  rintro e w5 ⟨rfl, hb5, vb, vp, l, f, hD⟩
  obtain ⟨p, m, hbf, hbest⟩ := bestF_isBest (colsR rows) rows HRM.out.nn HRM.out.cols_le.1
  have hst2 : st' = some (p, m) := by rw [← hst]; exact hbf
  subst hst2
  obtain ⟨rfl, rfl, hown, _⟩ := hD.some_ p m rfl
  obtain ⟨vA, vc, rfl, hv1, hv2, hv3⟩ := own_open hown
  have cb : w5.cell? ⟨w.heap.size + 1, 0, none⟩ = some (.slice vA p.length vc) := hD.best.cell 0
  have cl : w5.cell? ⟨w.heap.size + 1 + 1 + 1, 0, none⟩ = some (.int .i64 l) := hD.lst.cell 0
  have HV := Lib.hid hv3
  have HBest := Lib.hid hbest
  have hb0 : Below w.heap.size w (startW w A n c) := by
    unfold startW
    refine ((((((Below.refl _ _).alloc ?_ _).alloc ?_ _).alloc ?_ _).alloc ?_ _).alloc ?_ _).alloc ?_ _ <;> (try simp only [World.heap_size_alloc']) <;> omega
  have HB := Lib.hid (hb0.trans hb5)
  clear hD hown hv3 hbest hb5 hb0 hbf hst
  go_wp2_with fail
  go_quiet (fail)
  go_wp2_with fail
  go_ret3
  exact ⟨p, l, vA, vc, rfl, HBest.out, hv1, hv2, Reads.drewN HV.out _, below_drewN HB.out _⟩
end Go.Proofs.Ytgmefnddbiofkaa
