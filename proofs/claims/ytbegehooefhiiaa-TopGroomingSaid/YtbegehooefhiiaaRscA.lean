/-
  The search of Plan of chapter 21, walked: the closure of assign.
-/
import Derived.Test.YtbegehooefhiiaaRscM
import Derived.Test.YtbegehooefhiiaaRouE
namespace Go.Proofs.Ytbegehooefhiiaa
open Go.RowKit

abbrev iv (l : List Int) : Array Value := (l.map (Value.int .i64)).toArray
theorem iv_set (l : List Int) (i : Nat) (x : Int) : (iv l).setIfInBounds i (.int .i64 x) = iv (l.set i x) := by
  apply Array.toList_inj.1
  simp [iv, List.map_set]
theorem iv_cell (l : List Int) (i : Nat) (h : i < l.length) : (iv l)[i]? = some (.int .i64 (l.getD i 0)) := by
  simp [iv, List.getElem?_eq_getElem h]
theorem iv_size (l : List Int) : (iv l).size = l.length := by simp
def Sec.cells (s : Sec) : List Value := [.int .i64 s.id, .int .i64 s.pe, .int .i64 s.se]
theorem own_blk {w : World} {g n lo : Nat} {t : TypeId} {l : List Int} (h : Blk w g t (iv l)) (hl : l.length = n) (hn : n ≤ maxLen) (hg : lo ≤ g) : w.ownsRow lo t 1 (.slice (some ⟨g, 0, none⟩) n n) n (l.map (Value.int .i64)) := by
  subst hl
  exact ⟨by simp, .inr ⟨g, l.length, iv l, rfl, hg, h, Nat.le_refl _, hn, by simp, by rw [show (iv l).toList = l.map (Value.int .i64) from by simp [iv]]; exact List.take_of_length_le (by simp)⟩⟩
theorem blk_own {w : World} {g n lo : Nat} {t : TypeId} {l : List Int} (h : w.ownsRow lo t 1 (.slice (some ⟨g, 0, none⟩) n n) n (l.map (Value.int .i64))) (hn : 0 < n) : Blk w g t (iv l) := by
  obtain ⟨hlen, hn0 | ⟨g', cap, cur, hv, hbg, hg, hnc, hcm, hcs, htake⟩⟩ := h
  · obtain ⟨h0, _⟩ := hn0; cases h0
  · injection hv with hv1 hv2 hv3
    injection hv1 with hv1
    injection hv1 with hv1
    subst hv1 hv3
    have e : cur = iv l := by
      apply Array.toList_inj.1
      rw [← List.take_of_length_le (l := cur.toList) (i := n * 1) (by rw [Array.length_toList, hcs]; omega), htake]
    rw [e] at hg
    exact hg
def vfR (g : Nat) : Value := .func (.func 27) #[] #[.pointer (some ⟨g, 0, none⟩), .pointer (some ⟨g + 7, 0, none⟩), .pointer (some ⟨g + 6, 0, none⟩), .pointer (some ⟨g + 5, 0, none⟩), .pointer (some ⟨g + 3, 0, none⟩), .pointer (some ⟨g + 1, 0, none⟩), .pointer (some ⟨g + 8, 0, none⟩)]
/-- what the closure's captured variables hold; they lie in the blocks g .. g + 8 -/
structure RSt (w : World) (g : Nat) (A : Option Addr) (c n tm : Nat) (L : List Sec) (s : BS) : Prop where
  need : Blk w g 40 #[.slice A n c]
  team : Blk w (g + 1) 3 #[.int .i64 (tm : Int)]
  nowr : Blk w (g + 2) 3 (iv s.x)
  nowp : Blk w (g + 3) 32 #[.slice (some ⟨g + 2, 0, none⟩) n n]
  bstr : Blk w (g + 4) 3 (iv s.y)
  bstp : Blk w (g + 5) 32 #[.slice (some ⟨g + 4, 0, none⟩) n n]
  end_ : Blk w (g + 6) 3 #[.int .i64 s.e]
  busy : Blk w (g + 7) 56 (iv s.b)
  fn : Blk w (g + 8) 60 #[vfR g]
  sec : Strs Sec.cells 3 w g A n L
section
variable {w w' : World} {g : Nat} {A : Option Addr} {c n tm : Nat} {L : List Sec} {s : BS}
theorem RSt.size (h : RSt w g A c n tm L s) : g + 9 ≤ w.heap.size := by have := h.fn.lt; omega
theorem RSt.below (h : RSt w g A c n tm L s) (hb : Below w.heap.size w w') : RSt w' g A c n tm L s := by
  have hz := h.size
  exact ⟨h.need.below hb (by omega), h.team.below hb (by omega), h.nowr.below hb (by omega), h.nowp.below hb (by omega), h.bstr.below hb (by omega), h.bstp.below hb (by omega), h.end_.below hb (by omega), h.busy.below hb (by omega), h.fn.below hb (by omega), h.sec.keep fun p hp => hb.cell (by omega)⟩
theorem RSt.setX (h : RSt w g A c n tm L s) (i : Nat) (x : Int) : RSt (w.setCell ⟨g + 2, i, none⟩ (.int .i64 x)) g A c n tm L ⟨s.e, s.b, s.x.set i x, s.y⟩ := by
  refine ⟨h.need.far (p := ⟨g + 2, i, none⟩) (by simp) _, h.team.far (p := ⟨g + 2, i, none⟩) (by simp) _, ?_, h.nowp.far (p := ⟨g + 2, i, none⟩) (by simp) _, h.bstr.far (p := ⟨g + 2, i, none⟩) (by simp) _, h.bstp.far (p := ⟨g + 2, i, none⟩) (by simp) _, h.end_.far (p := ⟨g + 2, i, none⟩) (by simp) _, h.busy.far (p := ⟨g + 2, i, none⟩) (by simp) _, h.fn.far (p := ⟨g + 2, i, none⟩) (by simp) _, h.sec.keep fun p hp => World.cell?_setCell_other w ⟨g + 2, i, none⟩ p _ (fun e => by subst e; simp at hp; omega)⟩
  have := h.nowr.set_ i (.int .i64 x)
  rwa [iv_set] at this
theorem RSt.setB (h : RSt w g A c n tm L s) (i : Nat) (x : Int) : RSt (w.setCell ⟨g + 7, i, none⟩ (.int .i64 x)) g A c n tm L ⟨s.e, s.b.set i x, s.x, s.y⟩ := by
  refine ⟨h.need.far (p := ⟨g + 7, i, none⟩) (by simp) _, h.team.far (p := ⟨g + 7, i, none⟩) (by simp) _, h.nowr.far (p := ⟨g + 7, i, none⟩) (by simp) _, h.nowp.far (p := ⟨g + 7, i, none⟩) (by simp) _, h.bstr.far (p := ⟨g + 7, i, none⟩) (by simp) _, h.bstp.far (p := ⟨g + 7, i, none⟩) (by simp) _, h.end_.far (p := ⟨g + 7, i, none⟩) (by simp) _, ?_, h.fn.far (p := ⟨g + 7, i, none⟩) (by simp) _, h.sec.keep fun p hp => World.cell?_setCell_other w ⟨g + 7, i, none⟩ p _ (fun e => by subst e; simp at hp; omega)⟩
  have := h.busy.set_ i (.int .i64 x)
  rwa [iv_set] at this
theorem RSt.setE (h : RSt w g A c n tm L s) (x : Int) : RSt (w.setCell ⟨g + 6, 0, none⟩ (.int .i64 x)) g A c n tm L ⟨x, s.b, s.x, s.y⟩ :=
  ⟨h.need.far (p := ⟨g + 6, 0, none⟩) (by simp) _, h.team.far (p := ⟨g + 6, 0, none⟩) (by simp) _, h.nowr.far (p := ⟨g + 6, 0, none⟩) (by simp) _, h.nowp.far (p := ⟨g + 6, 0, none⟩) (by simp) _, h.bstr.far (p := ⟨g + 6, 0, none⟩) (by simp) _, h.bstp.far (p := ⟨g + 6, 0, none⟩) (by simp) _, h.end_.set1 _, h.busy.far (p := ⟨g + 6, 0, none⟩) (by simp) _, h.fn.far (p := ⟨g + 6, 0, none⟩) (by simp) _, h.sec.keep fun p hp => World.cell?_setCell_other w ⟨g + 6, 0, none⟩ p _ (fun e => by subst e; simp at hp; omega)⟩
theorem RSt.copyY (h : RSt w g A c n tm L s) (ho : Only (g + 4) w w') (hb : Blk w' (g + 4) 3 (iv s.x)) : RSt w' g A c n tm L ⟨s.e, s.b, s.x, s.x⟩ :=
  ⟨ho.blk h.need (by omega), ho.blk h.team (by omega), ho.blk h.nowr (by omega), ho.blk h.nowp (by omega), hb, ho.blk h.bstp (by omega), ho.blk h.end_ (by omega), ho.blk h.busy (by omega), ho.blk h.fn (by omega), h.sec.keep fun p hp => ho.cell (by omega)⟩
end
def RTry (g : Nat) (A : Option Addr) (c n tm : Nat) (L : List Sec) (s : BS) (w : World) (e : Ending) (w' : World) : Prop := e = .returned (.tuple #[]) ∧ Below g w w' ∧ RSt w' g A c n tm L s
set_option maxRecDepth 100000 in
set_option maxHeartbeats 2000000 in
theorem rtry_leaf (g : Nat) (A : Option Addr) (c n tm : Nat) (L : List Sec) (s : BS) (w : World) (h : RSt w g A c n tm L s) (hs : LnB n s) (hn : 0 < n ∧ n ≤ 8) (R : BS) (hR : leafB s = R) :
    Calls Try.prog 27 #[.int .i64 (n : Int), .pointer (some ⟨g, 0, none⟩), .pointer (some ⟨g + 7, 0, none⟩), .pointer (some ⟨g + 6, 0, none⟩), .pointer (some ⟨g + 5, 0, none⟩), .pointer (some ⟨g + 3, 0, none⟩), .pointer (some ⟨g + 1, 0, none⟩), .pointer (some ⟨g + 8, 0, none⟩)] w
      (RTry g A c n tm L R w) := by
  have hsz := h.size
  have cn : w.cell? ⟨g, 0, none⟩ = some (.slice A n c) := h.need.cell 0
  have ce : w.cell? ⟨g + 6, 0, none⟩ = some (.int .i64 s.e) := h.end_.cell 0
  have fe : w.frozen? ⟨g + 6, 0, none⟩ = false := h.end_.frozen 0
  have cb : w.cell? ⟨g + 5, 0, none⟩ = some (.slice (some ⟨g + 4, 0, none⟩) n n) := h.bstp.cell 0
  have cx : w.cell? ⟨g + 3, 0, none⟩ = some (.slice (some ⟨g + 2, 0, none⟩) n n) := h.nowp.cell 0
  have HI : Hid (Ints w w.heap.size (some ⟨g + 7, 0, none⟩) 4 s.b) := hide (by have := reads_blk (n := 4) (s := 1) h.busy (by rw [iv_size, hs.b]); simpa using this)
  have hbeq : ((n : Int) == (n : Int)) = true := by simp
  have HD := Lib.hid h
  have HS := Lib.hid hs
  have HFin : Hid (∀ w', Below g w w' → RSt w' g A c n tm L R → RTry g A c n tm L R w (.returned (.tuple #[])) w') := fun w' h1 h2 => ⟨rfl, h1, h2⟩
  have HYes : Hid (s.e < 0 ∨ mx s.b < s.e → R = ⟨mx s.b, s.b, s.x, s.x⟩) := hide (fun h => by rw [← hR]; unfold leafB; rw [if_pos h])
  have HNo : Hid (¬ (s.e < 0 ∨ mx s.b < s.e) → R = s) := hide (fun h => by rw [← hR]; unfold leafB; rw [if_neg h])
  generalize RTry g A c n tm L R w = RR at *
  clear h hs hR
  go_enter Try.func27, Try.ntmps27
  go_wp2_with fail
  with_reducible refine (max_any _ _ _ _ _ _ HI.out (by omega) (by omega)).mono ?_
  rintro e w' ⟨rfl, rfl⟩
  obtain ⟨M, hM⟩ : ∃ M, mx s.b = M := ⟨_, rfl⟩
  obtain ⟨E, hE⟩ : ∃ E, s.e = E := ⟨_, rfl⟩
  have HM := Lib.hid hM
  have HE := Lib.hid hE
  rw [hM] at HYes HNo
  rw [hE] at HYes HNo ce
  simp only [hM]
  clear hM hE
  by_cases hc : E < 0 ∨ M < E
  · have HR := Lib.hid (HYes.out hc)
    have HEt := Lib.hid (HD.out.setE M)
    have HO4 := Lib.hid (own_blk (lo := g) HEt.out.bstr HS.out.y (by simp only [maxLen]; omega) (by omega))
    have HO2 := Lib.hid (own_blk (lo := g) HEt.out.nowr HS.out.x (by simp only [maxLen]; omega) (by omega))
    have HC : Hid (∀ w3, w3.ownsRow g 3 1 (.slice (some ⟨g + 4, 0, none⟩) n n) n (s.x.map (Value.int .i64)) → Only (g + 4) (w.setCell ⟨g + 6, 0, none⟩ (.int .i64 M)) w3 → RSt w3 g A c n tm L R ∧ Below g w w3) := hide (fun w3 h1 h2 => ⟨by
      rw [HR.out]
      exact HEt.out.copyY h2 (blk_own h1 hn.1), h2.below ((Below.refl _ _).setCell (p := ⟨g + 6, 0, none⟩) (by show g ≤ g + 6; omega) _) (by omega)⟩)
    clear HR HYes HNo HM HE
    rcases Int.lt_or_le E 0 with h1 | h1
    all_goals
      first | (have h1' : E < 0 := h1) | (have h1' : ¬ E < 0 := by omega)
      first | (have h2' : M < E := by omega) | skip
      clear hc h1
      go_wp2_with
        (refine wpList_copy_all rfl (.tmp 25) (.tmp 26) _ _ rfl 3 Try.underlying32 1 (by kernel_rfl) n (g + 4) (g + 2) g 3 3 rfl rfl HO4.out HO2.out (oneCell_ints _) ?_
         intro w3 hown3 hon3
         have HC3 := Lib.hid (HC.out w3 hown3 hon3)
         clear hown3 hon3)
      refine bodyPost_ret (results_none rfl _ _ _) rfl ?_
      exact HFin.out _ HC3.out.2 HC3.out.1
  · have HR := Lib.hid (HNo.out hc)
    have h1 : ¬ E < 0 := fun h => hc (.inl h)
    have h2 : ¬ M < E := fun h => hc (.inr h)
    clear hc
    go_wp2_with fail
    refine bodyPost_ret (results_none rfl _ _ _) rfl ?_
    exact HFin.out _ (Below.refl _ _) (by rw [HR.out]; exact HD.out)
end Go.Proofs.Ytbegehooefhiiaa
