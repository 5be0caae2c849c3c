/-
  Least of route, walked.
-/
import Derived.Test.YtbegehooefhiiaaRouF
namespace Go.Proofs.Ytbegehooefhiiaa
open Go.RowKit

theorem ownSh_strs {w : World} {lo g n : Nat} {l : List Sh} (h : OwnSh w lo g n l) : Strs Sh.cells 4 w w.heap.size (some ⟨g, 0, none⟩) n l := by
  obtain ⟨A, c, e, _, _, h2⟩ := own_open h
  injection e with e1 e2 e3
  subst e1
  exact h2
def LeR (E : Int) (w : World) (e : Ending) (w' : World) : Prop := e = .returned (.int .i64 E) ∧ Below w.heap.size w w'
set_option maxHeartbeats 1000000 in
theorem least_any (A B : Option Addr) (n c nw cw : Nat) (ts : List Tk) (ws : List Bool) (w : World) (hr : Tks w w.heap.size A n ts) (hw : Bools w w.heap.size B nw ws) (hc : n ≤ c) (hc2 : c ≤ maxLen) (hok : RtOK ts ws) :
    Calls Try.prog 7 #[.slice A n c, .slice B nw cw] w (LeR (bestP ts ws).2 w) := by
  obtain ⟨hP, hG, _, _⟩ := bestP_is hok
  have HB := Lib.hid (best_any A B n c nw cw ts ws w hr hw hc hc2 hok)
  have HE : Hid (∀ (g : Nat) (W : World), OwnSh W w.heap.size g n (bestP ts ws).1 → Below w.heap.size w W → Calls Try.prog 9 #[.slice (some ⟨g, 0, none⟩) n n] W (LeR (bestP ts ws).2 w)) := fun g W hO hb => by
    refine (end_any _ n n _ W (ownSh_strs hO) (by rw [hP.len]; exact hr.len) (by omega)).mono ?_
    rintro e w' ⟨r, rfl, hE, hb2⟩
    rw [part_end hok hP hG hE]
    exact ⟨rfl, hb.trans (hb2.mono hb.size)⟩
  generalize (bestP ts ws).1 = pl at *
  generalize (bestP ts ws).2 = E at *
  clear hP hG hr hw hok
  go_enter Try.func7, Try.ntmps7
  go_wp2_with fail
  with_reducible refine HB.out.mono ?_
  rintro e w2 ⟨g, rfl, hO, hb⟩
  have H2 := Lib.hid (HE.out g w2 hO hb)
  clear hO hb
  go_wp2_with fail
  with_reducible refine H2.out.mono ?_
  rintro e w3 ⟨rfl, hb⟩
  go_wp2_with fail
  go_ret
  exact ⟨rfl, hb⟩
end Go.Proofs.Ytbegehooefhiiaa
