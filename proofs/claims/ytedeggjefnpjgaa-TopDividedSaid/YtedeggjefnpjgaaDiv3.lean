/-
  uplink.Receive: the next ride, and the early ones behind it, walked.
-/
import Derived.Test.YtedeggjefnpjgaaDiv2
namespace Go.Proofs.Ytedeggjefnpjgaa
open Go.RowKit

/-- early rides follow -/
def drR : Nat → List Rd → List Rd → Int → List Rd × List Rd × Int
  | 0, G, E, kx => (G, E, kx)
  | f + 1, G, E, kx => match E.findIdx? (fun x => x.seq == kx) with
    | none => (G, E, kx)
    | some i => drR f (G ++ [E.getD i rd0]) (E.eraseIdx i) (kx + 1)
theorem fidx_some {p : Rd → Bool} {E : List Rd} {i : Nat} (hi : i < E.length) (h : p (E.getD i rd0) = true) (hno : ∀ j, j < i → p (E.getD j rd0) = false) : E.findIdx? p = some i := by
  rw [List.findIdx?_eq_some_iff_getElem]
  have e : ∀ j (hj : j < E.length), E.getD j rd0 = E[j] := fun j hj => by simp [List.getElem?_eq_getElem hj]
  refine ⟨hi, by rw [← e i hi]; exact h, fun j hj => ?_⟩
  rw [← e j (by omega), hno j hj]
  exact Bool.false_ne_true
theorem fidx_none {p : Rd → Bool} {E : List Rd} (hno : ∀ j, j < E.length → p (E.getD j rd0) = false) : E.findIdx? p = none := by
  rw [List.findIdx?_eq_none_iff]
  intro x hx
  obtain ⟨j, hj, rfl⟩ := List.getElem_of_mem hx
  have := hno j hj
  simpa [List.getElem?_eq_getElem hj] using this
theorem drR_none {G E : List Rd} {kx : Int} {f : Nat} (h : E.findIdx? (fun x => x.seq == kx) = none) : drR f G E kx = (G, E, kx) := by
  cases f with
  | zero => rfl
  | succ f => unfold drR; rw [h]
theorem drR_some {G E : List Rd} {kx : Int} {i : Nat} (hi : i < E.length) (h : E.findIdx? (fun x => x.seq == kx) = some i) : drR E.length G E kx = drR (E.eraseIdx i).length (G ++ [E.getD i rd0]) (E.eraseIdx i) (kx + 1) := by
  rw [List.length_eraseIdx_of_lt hi]
  obtain ⟨f, hf⟩ : ∃ f, E.length = f + 1 := ⟨E.length - 1, by omega⟩
  rw [hf]
  show drR (f + 1) G E kx = drR f _ _ _
  rw [drR, h]
def earlyM (b : Nat) (w : World) : Nat := match w.cell? ⟨b, 3, none⟩ with | some v => lenOf v | none => 0
theorem earlyM_eq {b n c : Nat} {A : Option Addr} {w : World} (h : w.cell? ⟨b, 3, none⟩ = some (.slice A n c)) : earlyM b w = n := by
  unfold earlyM
  rw [h]
  rfl
theorem OwnRd.strs {w : World} {base n c : Nat} {A : Option Addr} {l : List Rd} (h : OwnRd w base (.slice A n c) l) : Strs Rd.cells 7 w w.heap.size A n l := by
  obtain ⟨A', n', c', e, _, _, _, hs⟩ := (OwnRd.strV h).nam
  injection e with e1 e2 e3
  subst e1 e2 e3
  exact hs
theorem OwnRd.at_ {w : World} {base n c i : Nat} {A : Option Addr} {l : List Rd} (h : OwnRd w base (.slice A n c) l) (hl : l.length = n) (hi : i < n) : ∃ ad : Addr, A = some ad ∧ ad.block < w.heap.size ∧ ∀ j u, (Rd.cells (l.getD i rd0))[j]? = some u → w.cell? ((ad.add (i * 7)).add j) = some u := strs_at h.strs (fun _ => rfl) hl hi rd0
set_option maxRecDepth 100000 in
set_option maxHeartbeats 16000000 in
theorem recv_next (kx : Int) (gA : Option Addr) (gn gc : Nat) (eA : Option Addr) (en ec : Nat) (G E : List Rd) (r : Rd) (w : World) (hg : Strs Rd.cells 7 w w.heap.size gA gn G) (hgl : G.length = gn) (hgn : gn ≤ 1000) (he : Strs Rd.cells 7 w w.heap.size eA en E) (hel : E.length = en) (hen : en ≤ 1000) (hkx : 1 ≤ kx ∧ kx ≤ 1000) (hseq : r.seq = kx) (G' E' : List Rd) (k' : Int) (hres : drR E.length (G ++ [r]) E (kx + 1) = (G', E', k')) :
    Calls Try.prog 22 #[.agg #[.int .i64 r.gate, .int .i64 kx, .slice gA gn gc, .slice eA en ec], r.val] w (RcR r.gate k' G' E' w) := by
  have HCg : Hid (∀ W, Below w.heap.size w W → Calls Try.prog 34 #[.slice gA gn gc] W fun e w' => ∃ v, e = .returned v ∧ OwnRd w' W.heap.size v G ∧ Below W.heap.size W w') := fun W h => clone_rd gA gn gc W.heap.size G W (hg.now h) hgl (by omega) (Nat.le_refl _)
  have HCe : Hid (∀ W, Below w.heap.size w W → Calls Try.prog 34 #[.slice eA en ec] W fun e w' => ∃ v, e = .returned v ∧ OwnRd w' W.heap.size v E ∧ Below W.heap.size W w') := fun W h => clone_rd eA en ec W.heap.size E W (he.now h) hel (by omega) (Nat.le_refl _)
  have HLg := Lib.hid hgl
  have HLe := Lib.hid hel
  have HFin : Hid (∀ vg ve w', OwnRd w' 0 vg G' → OwnRd w' 0 ve E' → Below w.heap.size w w' → RcR r.gate k' G' E' w (.returned (.tuple #[.agg #[.int .i64 r.gate, .int .i64 k', vg, ve], .int .i64 (k' - 1)])) w') := fun vg ve w' h1 h2 h3 => ⟨vg, ve, rfl, h1, h2, h3⟩
  have HRes := Lib.hid hres
  generalize RcR r.gate k' G' E' w = RR at *
  obtain ⟨gate, seq, ser, cnt, prod, lift, att⟩ := r
  obtain ⟨hkx0, hkx1⟩ := hkx
  simp only at *
  clear hg hgl he hel
  subst hseq
  go_enter Try.func22, Try.ntmps22
  go_upto_region 1 with (fail)
  have hwz : (w.alloc (Obj.cells #[Value.int .i64 gate, Value.int .i64 seq, Value.slice gA gn gc, Value.slice eA en ec] 32)).heap.size = w.heap.size + 1 := by simp
  obtain ⟨w0, hw0⟩ : ∃ W, w.alloc (Obj.cells #[Value.int .i64 gate, Value.int .i64 seq, Value.slice gA gn gc, Value.slice eA en ec] 32) = W := ⟨_, rfl⟩
  rw [hw0] at hwz ⊢
  have HX0 : Hid (Blk w0 w.heap.size 32 #[.int .i64 gate, .int .i64 seq, .slice gA gn gc, .slice eA en ec]) := hide (by rw [← hw0]; exact Blk.new w _ _)
  have HB0 : Hid (Below w.heap.size w w0) := hide (by rw [← hw0]; exact below_new w _)
  have hwz' : (w0.alloc (Obj.cells #[Value.int .i64 gate, Value.int .i64 seq, Value.int .i64 ser, Value.int .i64 cnt, Value.int .i64 prod, Value.int .i64 lift, Value.int .i64 att] 55)).heap.size = w.heap.size + 2 := by simp [hwz]
  obtain ⟨wa, hwa⟩ : ∃ W, w0.alloc (Obj.cells #[Value.int .i64 gate, Value.int .i64 seq, Value.int .i64 ser, Value.int .i64 cnt, Value.int .i64 prod, Value.int .i64 lift, Value.int .i64 att] 55) = W := ⟨_, rfl⟩
  rw [hwa] at hwz' ⊢
  have HTa : Hid (Blk wa (w.heap.size + 1) 55 #[.int .i64 gate, .int .i64 seq, .int .i64 ser, .int .i64 cnt, .int .i64 prod, .int .i64 lift, .int .i64 att]) := hide (by rw [← hwa, ← hwz]; exact Blk.new w0 _ _)
  have hba : Below w0.heap.size w0 wa := by rw [← hwa]; exact below_new w0 _
  have HXa := Lib.hid (HX0.out.below hba (by omega))
  have HBa := Lib.hid (HB0.out.trans (hba.mono HB0.out.size))
  obtain ⟨w1, hw1⟩ : ∃ W, wa.alloc (Obj.cells #[Value.int .i64 0, Value.int .i64 0, Value.slice none 0 0, Value.slice none 0 0] 32) = W := ⟨_, rfl⟩
  rw [hw1]
  have HY1 : Hid (Blk w1 (w.heap.size + 2) 32 #[.int .i64 0, .int .i64 0, .slice none 0 0, .slice none 0 0]) := hide (by rw [← hw1, ← hwz']; exact Blk.new wa _ _)
  have hb1 : Below wa.heap.size wa w1 := by rw [← hw1]; exact below_new wa _
  have HX1 := Lib.hid (HXa.out.below hb1 (by omega))
  have HT1 := Lib.hid (HTa.out.below hb1 (by omega))
  have HB1 := Lib.hid (HBa.out.trans (hb1.mono HBa.out.size))
  have hs1 : w.heap.size + 3 ≤ w1.heap.size := by have := HY1.out.lt; omega
  clear hw0 hwa hw1 hba hb1 hwz hwz' HX0 HB0 HXa HTa HBa
  have x2 : w1.cell? ⟨w.heap.size, 2, none⟩ = some (.slice gA gn gc) := HX1.out.cell 2
  go_wp2_with fail
  with_reducible refine (HCg.out w1 HB1.out).mono ?_
  rintro e w2 ⟨v2, rfl, ho2, hb2⟩
  have HB2 := Lib.hid (HB1.out.trans (hb2.mono HB1.out.size))
  have HX2 := Lib.hid (HX1.out.below hb2 (by omega))
  have HT2 := Lib.hid (HT1.out.below hb2 (by omega))
  have HY2 := Lib.hid (HY1.out.below hb2 (by omega))
  have hs2 : w.heap.size + 3 ≤ w2.heap.size := Nat.le_trans hs1 hb2.size
  have HG2 := Lib.hid (OwnRd.mono ho2 (show w.heap.size + 3 ≤ w1.heap.size from hs1))
  obtain ⟨hA, hn', hc, rfl, HNg, _, _, _⟩ := (OwnRd.strV ho2).nam
  obtain rfl : gn = hn' := by rw [← HLg.out, HNg.out]
  clear ho2 hb2 x2 HX1 HT1 HY1 HB1
  go_upto_region 2 with
    (refine wpList_store_field 28 (.tmp 11) (.tmp 10) rfl rfl w.heap.size 2 (.slice hA gn hc) rfl rfl 32 _ HX2.out (by kernel_rfl) (by simp) rfl rfl ?_
     intro w3 hx3 hon3
     have HX3 : Hid (Blk w3 w.heap.size 32 #[.int .i64 gate, .int .i64 seq, .slice hA gn hc, .slice eA en ec]) := hide hx3
     have HG3 : Hid (OwnRd w3 (w.heap.size + 3) (.slice hA gn hc) G) := hide (hon3.own HG2.out (row_blk HG2.out HX2.out (by decide)))
     have HT3 := Lib.hid (hon3.blk HT2.out (by omega))
     have HY3 := Lib.hid (hon3.blk HY2.out (by omega))
     have HB3 : Hid (Below w.heap.size w w3) := hide (hon3.below HB2.out (by omega))
     have hs3 : w.heap.size + 3 ≤ w3.heap.size := Nat.le_trans hs2 (Nat.le_of_eq hon3.size.symm)
     clear hx3 hon3)
  clear HX2 HG2 HT2 HY2 HB2 HCg
  have x3 : w3.cell? ⟨w.heap.size, 3, none⟩ = some (.slice eA en ec) := HX3.out.cell 3
  go_wp2_with fail
  with_reducible refine (HCe.out w3 HB3.out).mono ?_
  rintro e w4 ⟨v4, rfl, ho4, hb4⟩
  have HB4 := Lib.hid (HB3.out.trans (hb4.mono HB3.out.size))
  have HX4 := Lib.hid (HX3.out.below hb4 (by omega))
  have HT4 := Lib.hid (HT3.out.below hb4 (by omega))
  have HY4 := Lib.hid (HY3.out.below hb4 (by omega))
  have hs4 : w.heap.size + 3 ≤ w4.heap.size := Nat.le_trans hs3 hb4.size
  have HG4 : Hid (OwnRd w4 (w.heap.size + 3) (.slice hA gn hc) G) := hide (own_below HG3.out hb4 (Nat.le_refl _))
  have HE4 := Lib.hid (OwnRd.mono ho4 (show w.heap.size + 3 ≤ w3.heap.size from hs3))
  obtain ⟨fA, fn, fc, rfl, HNf, _, _, _⟩ := (OwnRd.strV ho4).nam
  obtain rfl : en = fn := by rw [← HLe.out, HNf.out]
  have HNE4 : Hid (NEr (.slice hA gn hc) (.slice fA en fc)) := hide (fun k hk hk' => by
    have h1 := (HG3.out.lt k hk).2
    have h2 := (ho4.lt k hk').1
    omega)
  clear ho4 hb4 x3 HX3 HT3 HY3 HB3 HG3
  go_upto_region 3 with
    (refine wpList_store_field 28 (.tmp 15) (.tmp 14) rfl rfl w.heap.size 3 (.slice fA en fc) rfl rfl 32 _ HX4.out (by kernel_rfl) (by simp) rfl rfl ?_
     intro w5 hx5 hon5
     have HX5 : Hid (Blk w5 w.heap.size 32 #[.int .i64 gate, .int .i64 seq, .slice hA gn hc, .slice fA en fc]) := hide hx5
     have HG5 : Hid (OwnRd w5 (w.heap.size + 3) (.slice hA gn hc) G) := hide (hon5.own HG4.out (row_blk HG4.out HX4.out (by decide)))
     have HE5 : Hid (OwnRd w5 (w.heap.size + 3) (.slice fA en fc) E) := hide (hon5.own HE4.out (row_blk HE4.out HX4.out (by decide)))
     have HT5 := Lib.hid (hon5.blk HT4.out (by omega))
     have HY5 := Lib.hid (hon5.blk HY4.out (by omega))
     have HB5 : Hid (Below w.heap.size w w5) := hide (hon5.below HB4.out (by omega))
     have hs5 : w.heap.size + 3 ≤ w5.heap.size := Nat.le_trans hs4 (Nat.le_of_eq hon5.size.symm)
     clear hx5 hon5)
  clear HX4 HG4 HE4 HT4 HY4 HB4 HCe
  have x0 : w5.cell? ⟨w.heap.size, 0, none⟩ = some (.int .i64 gate) := HX5.out.cell 0
  have x1 : w5.cell? ⟨w.heap.size, 1, none⟩ = some (.int .i64 seq) := HX5.out.cell 1
  have x3 : w5.cell? ⟨w.heap.size, 3, none⟩ = some (.slice fA en fc) := HX5.out.cell 3
  have y0 : w5.cell? ⟨w.heap.size + 1, 0, none⟩ = some (.int .i64 gate) := HT5.out.cell 0
  have y1 : w5.cell? ⟨w.heap.size + 1, 1, none⟩ = some (.int .i64 seq) := HT5.out.cell 1
  have d1 : ¬ (seq < seq) := by omega
  have x2 : w5.cell? ⟨w.heap.size, 2, none⟩ = some (.slice hA gn hc) := HX5.out.cell 2
  have HOne := Lib.hid (rd_cells_one ⟨gate, seq, ser, cnt, prod, lift, att⟩)
  have hwk : IntKind.i64.wrap (seq + 1) = seq + 1 := by rw [IntKind.wrap_i64]; omega
  go_wp2_with
    (first
     | (refine wpList_load_blk rfl 55 (.tmp 3) rfl (w.heap.size + 1) rfl _ _ HT5.out _ Try.underlying55 rfl (by kernel_rfl) ?_)
     | (at_builtin
        refine wpList_app_lit ei_rd rfl (.tmp 36) (.tmp 38) rfl (w.heap.size + 3) (.slice hA gn hc) gn _ rfl (HG5.out.row HLg.out) 1 rfl rfl HOne.out (by simp only [maxLen]; omega) (by omega) hs5 ?_
        intro v6 w6 hown6 hb6 hg6 hat6
        have hg6' := grownL_alloc hg6
        have HG6 : Hid (OwnRd w6 (w.heap.size + 3) v6 (G ++ [⟨gate, seq, ser, cnt, prod, lift, att⟩])) := hide (OwnRd.snoc' HLg.out hown6)
        have HX6 := Lib.hid (HX5.out.grown hg6' (Ne.symm (row_blk (HG5.out.row HLg.out) HX5.out (by decide))))
        have HY6 := Lib.hid (HY5.out.grown hg6' (Ne.symm (row_blk (HG5.out.row HLg.out) HY5.out (by decide))))
        have HE6 : Hid (OwnRd w6 (w.heap.size + 3) (.slice fA en fc) E) := hide (World.ownsRow.kept HE5.out hg6' (by
          by_cases hz : (Value.slice fA en fc).ownBlock = none
          · exact .inl hz
          · obtain ⟨k, hk⟩ := Option.ne_none_iff_exists'.1 hz
            exact .inr fun e => HNE4.out k (e.symm.trans hk) hk))
        have HN6 : Hid (NEr v6 (.slice fA en fc)) := hide (fun k hk hk' => by
          rcases hat6 with h | h
          · exact HNE4.out k (h ▸ hk) hk'
          · have h1 := (HE5.out.lt k hk').2
            rw [h] at hk
            have := Option.some.inj hk
            omega)
        have HB6 : Hid (Below w.heap.size w w6) := hide (HB5.out.trans (hb6.mono (by omega)))
        have hs6 : w.heap.size + 3 ≤ w6.heap.size := Nat.le_trans hs5 hg6'.size
        obtain ⟨A6, n6, c6, rfl, HL6, _, _, _⟩ := (OwnRd.strV HG6.out).nam
        clear hown6 hb6 hg6 hg6' hat6)
     | (refine wpList_store_field 28 (.tmp 40) (.tmp 39) rfl rfl w.heap.size 2 (.slice A6 n6 c6) rfl rfl 32 _ HX6.out (by kernel_rfl) (by simp) rfl rfl ?_
        intro w7 hx7 hon7
        have HX7 : Hid (Blk w7 w.heap.size 32 #[.int .i64 gate, .int .i64 seq, .slice A6 n6 c6, .slice fA en fc]) := hide hx7
        have HG7 : Hid (OwnRd w7 (w.heap.size + 3) (.slice A6 n6 c6) (G ++ [⟨gate, seq, ser, cnt, prod, lift, att⟩])) := hide (hon7.own HG6.out (row_blk HG6.out HX6.out (by decide)))
        have HE7 : Hid (OwnRd w7 (w.heap.size + 3) (.slice fA en fc) E) := hide (hon7.own HE6.out (row_blk HE6.out HX6.out (by decide)))
        have HY7 := Lib.hid (hon7.blk HY6.out (by omega))
        have HB7 : Hid (Below w.heap.size w w7) := hide (hon7.below HB6.out (by omega))
        have z1 : w7.cell? ⟨w.heap.size, 1, none⟩ = some (.int .i64 seq) := HX7.out.cell 1
        clear hx7 hon7)
     | (refine wpList_store_field 3 (.tmp 44) (.tmp 43) rfl rfl w.heap.size 1 (.int .i64 (seq + 1)) rfl rfl 32 _ HX7.out (by kernel_rfl) (by simp) rfl rfl ?_
        intro w8 hx8 hon8
        have HX8 : Hid (Blk w8 w.heap.size 32 #[.int .i64 gate, .int .i64 (seq + 1), .slice A6 n6 c6, .slice fA en fc]) := hide hx8
        have HG8 : Hid (OwnRd w8 (w.heap.size + 3) (.slice A6 n6 c6) (G ++ [⟨gate, seq, ser, cnt, prod, lift, att⟩])) := hide (hon8.own HG7.out (row_blk HG7.out HX7.out (by decide)))
        have HE8 : Hid (OwnRd w8 (w.heap.size + 3) (.slice fA en fc) E) := hide (hon8.own HE7.out (row_blk HE7.out HX7.out (by decide)))
        have HY8 := Lib.hid (hon8.blk HY7.out (by omega))
        have HB8 : Hid (Below w.heap.size w w8) := hide (hon8.below HB7.out (by omega))
        clear hx8 hon8))
  clear x0 x1 x2 x3 y0 y1 z1 d1 HX5 HT5 HY5 HB5 HG5 HE5 HX6 HY6 HB6 HG6 HE6 HX7 HY7 HB7 HG7 HE7 hwk HOne
  go_loopw [6] (fun _ wr => ∃ (k1 : Int) (hA : Option Addr) (hn hc : Nat) (fA : Option Addr) (fn fc : Nat) (G1 E1 : List Rd), Blk wr w.heap.size 32 #[.int .i64 gate, .int .i64 k1, .slice hA hn hc, .slice fA fn fc] ∧ OwnRd wr (w.heap.size + 3) (.slice hA hn hc) G1 ∧ G1.length = hn ∧ OwnRd wr (w.heap.size + 3) (.slice fA fn fc) E1 ∧ E1.length = fn ∧ NEr (.slice hA hn hc) (.slice fA fn fc) ∧ Blk wr (w.heap.size + 2) 32 #[.int .i64 0, .int .i64 0, .slice none 0 0, .slice none 0 0] ∧ Below w.heap.size w wr ∧ drR E1.length G1 E1 k1 = (G', E', k') ∧ 1 ≤ k1 ∧ k1 + (fn : Int) ≤ 5000 ∧ hn + fn ≤ 5000) (fun _ wr => earlyM w.heap.size wr)
  case atStart =>
    have hl6 := HL6.out
    rw [List.length_append, HLg.out, List.length_singleton] at hl6
    exact ⟨seq + 1, A6, n6, c6, fA, en, fc, _, E, HX8.out, HG8.out, HL6.out, HE8.out, HLe.out, HN6.out, HY8.out, HB8.out, HRes.out, by omega, by omega, by omega⟩
  case round =>
    obtain ⟨k1, hA, hn, hc, fA, fn, fc, G1, E1, hX, hG, hlh, hE, hlf, hN, hY, hB, hdr, hk1, hk2, hk3⟩ := hrel
    obtain ⟨wo, rfl⟩ : ∃ wo : World, wo = wr := ⟨_, rfl⟩
    have HXo := Lib.hid hX
    have HGo := Lib.hid hG
    have HEo := Lib.hid hE
    have HYo := Lib.hid hY
    have HBo := Lib.hid hB
    have HNE := Lib.hid hN
    have HLh := Lib.hid hlh
    have HLf := Lib.hid hlf
    have HD0 := Lib.hid hdr
    have hso : w.heap.size + 3 ≤ wo.heap.size := by have := hY.lt; omega
    have hm3 : wo.cell? ⟨w.heap.size, 3, none⟩ = some (.slice fA fn fc) := hX.cell 3
    have HI := Lib.hid (index_any 40 (.pointer (some ⟨w.heap.size, 0, none⟩)) (fun x => x.seq == k1) fA fn fc E1 wo hE.strs hlf (by omega) enters_rec1 (fun r' W hW => rec1_any w.heap.size k1 r' W ((HXo.out.below hW (by omega)).cell 1)))
    clear hX hG hE hY hB hN hdr
    go_wp2_with fail
    with_reducible refine HI.out.mono ?_
    rintro e w7 h7
    have hb7 : Below wo.heap.size wo w7 := by
      rcases h7 with ⟨k, _, _, _, _, hb⟩ | ⟨_, _, hb⟩ <;> exact hb
    have HB7 := Lib.hid (HBo.out.trans (hb7.mono HBo.out.size))
    have HX7 := Lib.hid (HXo.out.below hb7 (by omega))
    have HY7 := Lib.hid (HYo.out.below hb7 (by omega))
    have hs7 : w.heap.size + 3 ≤ w7.heap.size := Nat.le_trans hso hb7.size
    have HG7 : Hid (OwnRd w7 (w.heap.size + 3) (.slice hA hn hc) G1) := hide (own_below HGo.out hb7 (Nat.le_refl _))
    have HE7 : Hid (OwnRd w7 (w.heap.size + 3) (.slice fA fn fc) E1) := hide (own_below HEo.out hb7 (Nat.le_refl _))
    clear hb7 HXo HYo HBo HGo HEo HI
    rcases h7 with ⟨i, hi, rfl, hp, hno, _⟩ | ⟨rfl, hno, _⟩
    · have HDr : Hid (drR (E1.eraseIdx i).length (G1 ++ [E1.getD i rd0]) (E1.eraseIdx i) (k1 + 1) = (G', E', k')) := hide (by
        rw [← drR_some (by omega) (fidx_some (by omega) hp hno)]
        exact HD0.out)
      obtain ⟨ad, rfl, hab, hcl⟩ := HE7.out.at_ HLf.out hi
      obtain ⟨q, hq⟩ : ∃ q, E1.getD i rd0 = q := ⟨_, rfl⟩
      rw [hq] at HDr hcl
      obtain ⟨g2, s2, e2, c2, p2, l2, a2⟩ := q
      have HQ := Lib.hid hq
      have HQ1 : Hid (∀ u ∈ ([.int .i64 g2, .int .i64 s2, .int .i64 e2, .int .i64 c2, .int .i64 p2, .int .i64 l2, .int .i64 a2] : List Value), u.oneCell' = true) := hide (rd_cells_one ⟨g2, s2, e2, c2, p2, l2, a2⟩)
      have hS7 : w7.drew.cell? ⟨w.heap.size, 3, none⟩ = some (.slice (some ad) fn fc) ∧ (∀ j u, ([.int .i64 g2, .int .i64 s2, .int .i64 e2, .int .i64 c2, .int .i64 p2, .int .i64 l2, .int .i64 a2] : List Value)[j]? = some u → w7.drew.cell? ((ad.add (i * 7)).add j) = some u) := ⟨HX7.out.cell 3, hcl⟩
      have d3 : ¬ ((i : Int) < 0) := by omega
      have d4 : decide ((i : Int) < 0) = false := decide_eq_false d3
      clear hq hp hno hcl hab
      go_upto_region 9 with (fail)
      have HX7d : Hid (Blk w7.drew w.heap.size 32 #[.int .i64 gate, .int .i64 k1, .slice hA hn hc, .slice (some ad) fn fc]) := HX7
      have HY7d : Hid (Blk w7.drew (w.heap.size + 2) 32 #[.int .i64 0, .int .i64 0, .slice none 0 0, .slice none 0 0]) := HY7
      have HB7d : Hid (Below w.heap.size w w7.drew) := hide HB7.out.drew
      have HG7d : Hid (OwnRd w7.drew (w.heap.size + 3) (.slice hA hn hc) G1) := HG7
      have HE7d : Hid (OwnRd w7.drew (w.heap.size + 3) (.slice (some ad) fn fc) E1) := HE7
      have hs7d : w.heap.size + 3 ≤ w7.drew.heap.size := hs7
      have cm7 : w7.drew.cell? ⟨w.heap.size, 2, none⟩ = some (.slice hA hn hc) := HX7.out.cell 2
      have hi0 : (i : Int) < (fn : Int) := by omega
      have hi1 : (0 : Int) ≤ (i : Int) := by omega
      refine wp_region_held_drew (S := fun W => W.cell? ⟨w.heap.size, 3, none⟩ = some (.slice (some ad) fn fc) ∧ (∀ j u, ([.int .i64 g2, .int .i64 s2, .int .i64 e2, .int .i64 c2, .int .i64 p2, .int .i64 l2, .int .i64 a2] : List Value)[j]? = some u → W.cell? ((ad.add (i * 7)).add j) = some u)) (by kernel_rfl) (hS7) (fun hHeld => ?_)
      refine held_run 0 (some 51) (.fieldAddr 32 (.tmp 2) 2) ?v9_1_2 (by rfl) (by kernel_rfl) (by kernel_rfl) (by kernel_rfl) (fun _ _ _ h => h) (fun o ho w hS => ?y9_1_2) (by assumption) ?r9_1_2
      case y9_1_2 => (try dsimp only at hS); unfold execOp; simp only [ho]; go_simp; try with_reducible rfl
      try simp only [Act.put, List.setIfInBounds_toArray, List.set_cons_zero, List.set_cons_succ]
      refine held_run 2 (some 53) (.fieldAddr 32 (.tmp 2) 3) ?v9_1_3 (by rfl) (by kernel_rfl) (by kernel_rfl) (by kernel_rfl) (fun _ _ _ h => h) (fun o ho w hS => ?y9_1_3) (by assumption) ?r9_1_3
      case y9_1_3 => (try dsimp only at hS); unfold execOp; simp only [ho]; go_simp; try with_reducible rfl
      try simp only [Act.put, List.setIfInBounds_toArray, List.set_cons_zero, List.set_cons_succ]
      refine held_run 3 (some 54) (.load 28 (.tmp 53)) ?v9_1_4 (by rfl) (by kernel_rfl) (by kernel_rfl) (by kernel_rfl) (fun _ _ _ h => h) (fun o ho w hS => ?y9_1_4) (by assumption) ?r9_1_4
      case y9_1_4 => (try dsimp only at hS); unfold execOp; simp only [ho]; go_simp; try with_reducible rfl
      try simp only [Act.put, List.setIfInBounds_toArray, List.set_cons_zero, List.set_cons_succ]
      refine held_run 4 (some 55) (.move (.tmp 6)) ?v9_1_5 (by rfl) (by kernel_rfl) (by kernel_rfl) (by kernel_rfl) (fun _ _ _ h => h) (fun o ho w hS => ?y9_1_5) (by assumption) ?r9_1_5
      case y9_1_5 => (try dsimp only at hS); unfold execOp; simp only [ho]; go_simp; try with_reducible rfl
      try simp only [Act.put, List.setIfInBounds_toArray, List.set_cons_zero, List.set_cons_succ]
      refine held_run 5 (some 56) (.indexAddr 28 (.tmp 54) (.tmp 55)) ?v9_1_6 (by rfl) (by kernel_rfl) (by kernel_rfl) (by kernel_rfl) (fun _ _ _ h => h) (fun o ho w hS => ?y9_1_6) (by assumption) ?r9_1_6
      case y9_1_6 => (try dsimp only at hS); unfold execOp; simp only [ho]; go_simp; try with_reducible rfl
      try simp only [Act.put, List.setIfInBounds_toArray, List.set_cons_zero, List.set_cons_succ]
      refine held_load_at 6 (some 57) 55 (.tmp 56) (by rfl) (by kernel_rfl) (by kernel_rfl) (by kernel_rfl) ((ad.add (i * 7))) ([.int .i64 g2, .int .i64 s2, .int .i64 e2, .int .i64 c2, .int .i64 p2, .int .i64 l2, .int .i64 a2] : List Value) (fun _ _ _ h => h) (by rfl) (fun _ h => h.2) _ Try.underlying55 rfl (by kernel_rfl) (by assumption) ?_
      try simp only [Act.put, List.setIfInBounds_toArray, List.set_cons_zero, List.set_cons_succ]
      refine held_two 1 7 (by kernel_rfl) ?_ ?_
      · refine op_yield 1 (some 52) (.load 28 (.tmp 51)) ?v9_1_8 (by rfl) (fun o ho => ?y9_1_8) ?r9_1_8
        case y9_1_8 => unfold execOp; simp only [ho]; go_simp; try with_reducible rfl
        refine ⟨by assumption, ?_⟩
        try simp only [Act.put, List.setIfInBounds_toArray, List.set_cons_zero, List.set_cons_succ]
        refine held_one 7 (by kernel_rfl) ?_
        refine op_lit 7 (some 58) 28 55 1 #[(0, .tmp 57)] #[.int .i64 g2, .int .i64 s2, .int .i64 e2, .int .i64 c2, .int .i64 p2, .int .i64 l2, .int .i64 a2] (by rfl) (by simp only [List.map_toArray, List.map_cons, List.map_nil]; exact run_lit17 (P := Try.prog) (w7.drew) 28 55 _ _ _ _ _ _ _ Try.underlying28 (by kernel_rfl)) ?_
        intro w8 hx hb heq
        have HLt8 := Lib.hid hx
        have HX8 := Lib.hid (HX7d.out.below hb (by omega))
        have HY8 := Lib.hid (HY7d.out.below hb (by omega))
        have HB8 : Hid (Below w.heap.size w w8) := hide (HB7d.out.trans (hb.mono HB7d.out.size))
        have hs8 : w.heap.size + 3 ≤ w8.heap.size := Nat.le_trans hs7d hb.size
        have HG8 : Hid (OwnRd w8 (w.heap.size + 3) (.slice hA hn hc) G1) := hide (own_below HG7d.out hb (Nat.le_refl _))
        have HE8 : Hid (OwnRd w8 (w.heap.size + 3) (.slice (some ad) fn fc) E1) := hide (own_below HE7d.out hb (Nat.le_refl _))
        have cm8 : w8.cell? ⟨w.heap.size, 2, none⟩ = some (.slice hA hn hc) := HX8.out.cell 2
        have hS8 : w8.cell? ⟨w.heap.size, 3, none⟩ = some (.slice (some ad) fn fc) ∧ (∀ j u, ([.int .i64 g2, .int .i64 s2, .int .i64 e2, .int .i64 c2, .int .i64 p2, .int .i64 l2, .int .i64 a2] : List Value)[j]? = some u → w8.cell? ((ad.add (i * 7)).add j) = some u) := by
          refine ⟨HX8.out.cell 3, fun j u hu => ?_⟩
          obtain ⟨ad', e, _, hc'⟩ := HE8.out.at_ HLf.out hi
          rw [← Option.some.inj e, HQ.out] at hc'
          exact hc' j u hu
        clear hx hb heq
        refine ⟨hS8, ?_⟩
        try simp only [Act.put, List.setIfInBounds_toArray, List.set_cons_zero, List.set_cons_succ]
        refine held_one 8 (by kernel_rfl) ?_
        refine op_app ei_rd 8 (some 59) (.tmp 52) (.tmp 58) (by rfl) (w.heap.size + 3) _ _ _ rfl (HG8.out.row HLh.out) w8.heap.size (some ⟨(w7.drew).heap.size, 0, none⟩) 1 1 [.int .i64 g2, .int .i64 s2, .int .i64 e2, .int .i64 c2, .int .i64 p2, .int .i64 l2, .int .i64 a2] rfl (reads_blk HLt8.out rfl) (HQ1.out) (by simp only [maxLen]; omega) (by omega) (hs8) ?_
        intro v9 w9 hown hg9 hb9 hat
        have HG9 : Hid (OwnRd w9 (w.heap.size + 3) v9 (G1 ++ [⟨g2, s2, e2, c2, p2, l2, a2⟩])) := hide (OwnRd.snoc' HLh.out hown)
        have HX9 := Lib.hid (HX8.out.grown hg9 (Ne.symm (row_blk (HG8.out.row HLh.out) HX8.out (by decide))))
        have HY9 := Lib.hid (HY8.out.grown hg9 (Ne.symm (row_blk (HG8.out.row HLh.out) HY8.out (by decide))))
        have HE9 : Hid (OwnRd w9 (w.heap.size + 3) (.slice (some ad) fn fc) E1) := hide (World.ownsRow.kept HE8.out hg9 (.inr fun e => HNE.out _ (e.symm.trans rfl) rfl))
        have HN9 : Hid (NEr v9 (.slice (some ad) fn fc)) := hide (fun k hk hk' => by
          rcases hat with h | h
          · exact HNE.out k (h ▸ hk) hk'
          · have h1 := (HE8.out.lt k hk').2
            rw [h] at hk
            have := Option.some.inj hk
            omega)
        have HB9 : Hid (Below w.heap.size w w9) := hide (HB8.out.trans (hb9.mono (by omega)))
        have hs9 : w.heap.size + 3 ≤ w9.heap.size := Nat.le_trans hs8 hg9.size
        have hS9 : w9.cell? ⟨w.heap.size, 3, none⟩ = some (.slice (some ad) fn fc) ∧ (∀ j u, ([.int .i64 g2, .int .i64 s2, .int .i64 e2, .int .i64 c2, .int .i64 p2, .int .i64 l2, .int .i64 a2] : List Value)[j]? = some u → w9.cell? ((ad.add (i * 7)).add j) = some u) := by
          refine ⟨HX9.out.cell 3, fun j u hu => ?_⟩
          obtain ⟨ad', e, _, hc'⟩ := HE9.out.at_ HLf.out hi
          rw [← Option.some.inj e, HQ.out] at hc'
          exact hc' j u hu
        obtain ⟨A9, n9, c9, rfl, HL9, _, _, _⟩ := (OwnRd.strV HG9.out).nam
        clear hown hg9 hb9 hat
        refine ⟨hS9, ?_⟩
        try simp only [Act.put, List.setIfInBounds_toArray, List.set_cons_zero, List.set_cons_succ]
        refine held_run 9 (some 60) (.fieldAddr 32 (.tmp 2) 2) ?v9_1_11 (by rfl) (by kernel_rfl) (by kernel_rfl) (by kernel_rfl) (fun _ _ _ h => h) (fun o ho w hS => ?y9_1_11) (by assumption) ?r9_1_11
        case y9_1_11 => (try dsimp only at hS); unfold execOp; simp only [ho]; go_simp; try with_reducible rfl
        try simp only [Act.put, List.setIfInBounds_toArray, List.set_cons_zero, List.set_cons_succ]
        refine held_store 10 28 (.tmp 60) (.tmp 59) (by rfl) (by kernel_rfl) (w.heap.size) 2 (.slice A9 n9 c9) (by rfl) (by rfl) _ _ (HX9.out) (by kernel_rfl) (by simp) rfl rfl ?_
        intro w10 hx10 hon10
        have HX10 : Hid (Blk w10 w.heap.size 32 #[.int .i64 gate, .int .i64 k1, .slice A9 n9 c9, .slice (some ad) fn fc]) := hide hx10
        have HG10 : Hid (OwnRd w10 (w.heap.size + 3) (.slice A9 n9 c9) (G1 ++ [⟨g2, s2, e2, c2, p2, l2, a2⟩])) := hide (hon10.own HG9.out (row_blk HG9.out HX9.out (by decide)))
        have HE10 : Hid (OwnRd w10 (w.heap.size + 3) (.slice (some ad) fn fc) E1) := hide (hon10.own HE9.out (row_blk HE9.out HX9.out (by decide)))
        have HY10 := Lib.hid (hon10.blk HY9.out (by omega))
        have HB10 : Hid (Below w.heap.size w w10) := hide (hon10.below HB9.out (by omega))
        have hs10 : w.heap.size + 3 ≤ w10.heap.size := Nat.le_trans hs9 (Nat.le_of_eq hon10.size.symm)
        have hS10 : w10.cell? ⟨w.heap.size, 3, none⟩ = some (.slice (some ad) fn fc) ∧ (∀ j u, ([.int .i64 g2, .int .i64 s2, .int .i64 e2, .int .i64 c2, .int .i64 p2, .int .i64 l2, .int .i64 a2] : List Value)[j]? = some u → w10.cell? ((ad.add (i * 7)).add j) = some u) := by
          refine ⟨HX10.out.cell 3, fun j u hu => ?_⟩
          obtain ⟨ad', e, _, hc'⟩ := HE10.out.at_ HLf.out hi
          rw [← Option.some.inj e, HQ.out] at hc'
          exact hc' j u hu
        clear hx10 hon10
        refine ⟨hS10, ?_⟩
        try simp only [Act.put, List.setIfInBounds_toArray, List.set_cons_zero, List.set_cons_succ]
        refine wpAnyH_done (by kernel_rfl) ?_ _
        have x3 : w10.cell? ⟨w.heap.size, 3, none⟩ = some (.slice (some ad) fn fc) := HX10.out.cell 3
        have HDe := Lib.hid (dele_rd HE10.out HLf.out i hi)
        have hw9 : IntKind.i64.wrap ((i : Int) + 1) = (i : Int) + 1 := by rw [IntKind.wrap_i64]; omega
        go_wp2_with fail
        with_reducible refine HDe.out.mono ?_
        rintro e w11 ⟨v11, gd, rfl, ho11, hgd, hgo, ⟨cur, hcur⟩, hon11⟩
        have hkg : ∀ k, (Value.slice A9 n9 c9).ownBlock = some k → k ≠ gd := fun k hk e => HN9.out k hk (by rw [e]; exact hgo.1)
        have HX11 := Lib.hid (hon11.blk HX10.out (by omega))
        have HY11 := Lib.hid (hon11.blk HY10.out (by omega))
        have HG11 : Hid (OwnRd w11 (w.heap.size + 3) (.slice A9 n9 c9) (G1 ++ [⟨g2, s2, e2, c2, p2, l2, a2⟩])) := hide (hon11.own HG10.out (fun e => hkg _ e rfl))
        have HN11 : Hid (NEr (.slice A9 n9 c9) v11) := hide (fun k hk hk' => hkg k hk (Option.some.inj (hk'.symm.trans hgo.2)))
        have HE11 := Lib.hid ho11
        have HB11 : Hid (Below w.heap.size w w11) := hide (hon11.below HB10.out (by omega))
        obtain ⟨B11, m11, c11, rfl, HM11, _, _, _⟩ := (OwnRd.strV ho11).nam
        have hw10 : IntKind.i64.wrap (k1 + 1) = k1 + 1 := by rw [IntKind.wrap_i64]; omega
        have x1 : w11.cell? ⟨w.heap.size, 1, none⟩ = some (.int .i64 k1) := HX11.out.cell 1
        clear ho11 hgo hcur hon11 hkg x3 HDe hw9 hS10
        go_wp2_with
          (first
           | (refine wpList_store_field 28 (.tmp 67) (.tmp 66) rfl rfl w.heap.size 3 (.slice B11 m11 c11) rfl rfl 32 _ HX11.out (by kernel_rfl) (by simp) rfl rfl ?_
              intro w12 hx12 hon12
              have HX12 : Hid (Blk w12 w.heap.size 32 #[.int .i64 gate, .int .i64 k1, .slice A9 n9 c9, .slice B11 m11 c11]) := hide hx12
              have HG12 : Hid (OwnRd w12 (w.heap.size + 3) (.slice A9 n9 c9) (G1 ++ [⟨g2, s2, e2, c2, p2, l2, a2⟩])) := hide (hon12.own HG11.out (row_blk HG11.out HX11.out (by decide)))
              have HE12 : Hid (OwnRd w12 (w.heap.size + 3) (.slice B11 m11 c11) (E1.eraseIdx i)) := hide (hon12.own HE11.out (row_blk HE11.out HX11.out (by decide)))
              have HY12 := Lib.hid (hon12.blk HY11.out (by omega))
              have HB12 : Hid (Below w.heap.size w w12) := hide (hon12.below HB11.out (by omega))
              have z1 : w12.cell? ⟨w.heap.size, 1, none⟩ = some (.int .i64 k1) := HX12.out.cell 1
              clear hx12 hon12)
           | (refine wpList_store_field 3 (.tmp 71) (.tmp 70) rfl rfl w.heap.size 1 (.int .i64 (k1 + 1)) rfl rfl 32 _ HX12.out (by kernel_rfl) (by simp) rfl rfl ?_
              intro w13 hx13 hon13
              have HX13 : Hid (Blk w13 w.heap.size 32 #[.int .i64 gate, .int .i64 (k1 + 1), .slice A9 n9 c9, .slice B11 m11 c11]) := hide hx13
              have HG13 : Hid (OwnRd w13 (w.heap.size + 3) (.slice A9 n9 c9) (G1 ++ [⟨g2, s2, e2, c2, p2, l2, a2⟩])) := hide (hon13.own HG12.out (row_blk HG12.out HX12.out (by decide)))
              have HE13 : Hid (OwnRd w13 (w.heap.size + 3) (.slice B11 m11 c11) (E1.eraseIdx i)) := hide (hon13.own HE12.out (row_blk HE12.out HX12.out (by decide)))
              have HY13 := Lib.hid (hon13.blk HY12.out (by omega))
              have HB13 : Hid (Below w.heap.size w w13) := hide (hon13.below HB12.out (by omega))
              have hx3 : w13.cell? ⟨w.heap.size, 3, none⟩ = some (.slice B11 m11 c11) := HX13.out.cell 3
              clear hx13 hon13))
        have e9 : n9 = hn + 1 := by
          have := HL9.out
          rw [List.length_append, HLh.out] at this
          simpa using this.symm
        have e11 : m11 + 1 = fn := by
          have := HM11.out
          rw [List.length_eraseIdx_of_lt (by rw [HLf.out]; exact hi), HLf.out] at this
          omega
        simp only [Act.put]
        go_roundw
        case rel => exact ⟨k1 + 1, A9, n9, c9, B11, m11, c11, _, _, HX13.out, HG13.out, HL9.out, HE13.out, HM11.out, HN11.out, HY13.out, HB13.out, HDr.out, by omega, by omega, by omega⟩
        case measure => rw [earlyM_eq hx3, earlyM_eq hm3]; omega
      · refine op_lit 7 (some 58) 28 55 1 #[(0, .tmp 57)] #[.int .i64 g2, .int .i64 s2, .int .i64 e2, .int .i64 c2, .int .i64 p2, .int .i64 l2, .int .i64 a2] (by rfl) (by simp only [List.map_toArray, List.map_cons, List.map_nil]; exact run_lit17 (P := Try.prog) (w7.drew) 28 55 _ _ _ _ _ _ _ Try.underlying28 (by kernel_rfl)) ?_
        intro w8 hx hb heq
        have HLt8 := Lib.hid hx
        have HX8 := Lib.hid (HX7d.out.below hb (by omega))
        have HY8 := Lib.hid (HY7d.out.below hb (by omega))
        have HB8 : Hid (Below w.heap.size w w8) := hide (HB7d.out.trans (hb.mono HB7d.out.size))
        have hs8 : w.heap.size + 3 ≤ w8.heap.size := Nat.le_trans hs7d hb.size
        have HG8 : Hid (OwnRd w8 (w.heap.size + 3) (.slice hA hn hc) G1) := hide (own_below HG7d.out hb (Nat.le_refl _))
        have HE8 : Hid (OwnRd w8 (w.heap.size + 3) (.slice (some ad) fn fc) E1) := hide (own_below HE7d.out hb (Nat.le_refl _))
        have cm8 : w8.cell? ⟨w.heap.size, 2, none⟩ = some (.slice hA hn hc) := HX8.out.cell 2
        have hS8 : w8.cell? ⟨w.heap.size, 3, none⟩ = some (.slice (some ad) fn fc) ∧ (∀ j u, ([.int .i64 g2, .int .i64 s2, .int .i64 e2, .int .i64 c2, .int .i64 p2, .int .i64 l2, .int .i64 a2] : List Value)[j]? = some u → w8.cell? ((ad.add (i * 7)).add j) = some u) := by
          refine ⟨HX8.out.cell 3, fun j u hu => ?_⟩
          obtain ⟨ad', e, _, hc'⟩ := HE8.out.at_ HLf.out hi
          rw [← Option.some.inj e, HQ.out] at hc'
          exact hc' j u hu
        clear hx hb heq
        refine ⟨hS8, ?_⟩
        try simp only [Act.put, List.setIfInBounds_toArray, List.set_cons_zero, List.set_cons_succ]
        refine held_one 1 (by kernel_rfl) ?_
        refine op_yield 1 (some 52) (.load 28 (.tmp 51)) ?v9_1_14 (by rfl) (fun o ho => ?y9_1_14) ?r9_1_14
        case y9_1_14 => unfold execOp; simp only [ho]; go_simp; try with_reducible rfl
        refine ⟨by assumption, ?_⟩
        try simp only [Act.put, List.setIfInBounds_toArray, List.set_cons_zero, List.set_cons_succ]
        refine held_one 8 (by kernel_rfl) ?_
        refine op_app ei_rd 8 (some 59) (.tmp 52) (.tmp 58) (by rfl) (w.heap.size + 3) _ _ _ rfl (HG8.out.row HLh.out) w8.heap.size (some ⟨(w7.drew).heap.size, 0, none⟩) 1 1 [.int .i64 g2, .int .i64 s2, .int .i64 e2, .int .i64 c2, .int .i64 p2, .int .i64 l2, .int .i64 a2] rfl (reads_blk HLt8.out rfl) (HQ1.out) (by simp only [maxLen]; omega) (by omega) (hs8) ?_
        intro v9 w9 hown hg9 hb9 hat
        have HG9 : Hid (OwnRd w9 (w.heap.size + 3) v9 (G1 ++ [⟨g2, s2, e2, c2, p2, l2, a2⟩])) := hide (OwnRd.snoc' HLh.out hown)
        have HX9 := Lib.hid (HX8.out.grown hg9 (Ne.symm (row_blk (HG8.out.row HLh.out) HX8.out (by decide))))
        have HY9 := Lib.hid (HY8.out.grown hg9 (Ne.symm (row_blk (HG8.out.row HLh.out) HY8.out (by decide))))
        have HE9 : Hid (OwnRd w9 (w.heap.size + 3) (.slice (some ad) fn fc) E1) := hide (World.ownsRow.kept HE8.out hg9 (.inr fun e => HNE.out _ (e.symm.trans rfl) rfl))
        have HN9 : Hid (NEr v9 (.slice (some ad) fn fc)) := hide (fun k hk hk' => by
          rcases hat with h | h
          · exact HNE.out k (h ▸ hk) hk'
          · have h1 := (HE8.out.lt k hk').2
            rw [h] at hk
            have := Option.some.inj hk
            omega)
        have HB9 : Hid (Below w.heap.size w w9) := hide (HB8.out.trans (hb9.mono (by omega)))
        have hs9 : w.heap.size + 3 ≤ w9.heap.size := Nat.le_trans hs8 hg9.size
        have hS9 : w9.cell? ⟨w.heap.size, 3, none⟩ = some (.slice (some ad) fn fc) ∧ (∀ j u, ([.int .i64 g2, .int .i64 s2, .int .i64 e2, .int .i64 c2, .int .i64 p2, .int .i64 l2, .int .i64 a2] : List Value)[j]? = some u → w9.cell? ((ad.add (i * 7)).add j) = some u) := by
          refine ⟨HX9.out.cell 3, fun j u hu => ?_⟩
          obtain ⟨ad', e, _, hc'⟩ := HE9.out.at_ HLf.out hi
          rw [← Option.some.inj e, HQ.out] at hc'
          exact hc' j u hu
        obtain ⟨A9, n9, c9, rfl, HL9, _, _, _⟩ := (OwnRd.strV HG9.out).nam
        clear hown hg9 hb9 hat
        refine ⟨hS9, ?_⟩
        try simp only [Act.put, List.setIfInBounds_toArray, List.set_cons_zero, List.set_cons_succ]
        refine held_run 9 (some 60) (.fieldAddr 32 (.tmp 2) 2) ?v9_1_16 (by rfl) (by kernel_rfl) (by kernel_rfl) (by kernel_rfl) (fun _ _ _ h => h) (fun o ho w hS => ?y9_1_16) (by assumption) ?r9_1_16
        case y9_1_16 => (try dsimp only at hS); unfold execOp; simp only [ho]; go_simp; try with_reducible rfl
        try simp only [Act.put, List.setIfInBounds_toArray, List.set_cons_zero, List.set_cons_succ]
        refine held_store 10 28 (.tmp 60) (.tmp 59) (by rfl) (by kernel_rfl) (w.heap.size) 2 (.slice A9 n9 c9) (by rfl) (by rfl) _ _ (HX9.out) (by kernel_rfl) (by simp) rfl rfl ?_
        intro w10 hx10 hon10
        have HX10 : Hid (Blk w10 w.heap.size 32 #[.int .i64 gate, .int .i64 k1, .slice A9 n9 c9, .slice (some ad) fn fc]) := hide hx10
        have HG10 : Hid (OwnRd w10 (w.heap.size + 3) (.slice A9 n9 c9) (G1 ++ [⟨g2, s2, e2, c2, p2, l2, a2⟩])) := hide (hon10.own HG9.out (row_blk HG9.out HX9.out (by decide)))
        have HE10 : Hid (OwnRd w10 (w.heap.size + 3) (.slice (some ad) fn fc) E1) := hide (hon10.own HE9.out (row_blk HE9.out HX9.out (by decide)))
        have HY10 := Lib.hid (hon10.blk HY9.out (by omega))
        have HB10 : Hid (Below w.heap.size w w10) := hide (hon10.below HB9.out (by omega))
        have hs10 : w.heap.size + 3 ≤ w10.heap.size := Nat.le_trans hs9 (Nat.le_of_eq hon10.size.symm)
        have hS10 : w10.cell? ⟨w.heap.size, 3, none⟩ = some (.slice (some ad) fn fc) ∧ (∀ j u, ([.int .i64 g2, .int .i64 s2, .int .i64 e2, .int .i64 c2, .int .i64 p2, .int .i64 l2, .int .i64 a2] : List Value)[j]? = some u → w10.cell? ((ad.add (i * 7)).add j) = some u) := by
          refine ⟨HX10.out.cell 3, fun j u hu => ?_⟩
          obtain ⟨ad', e, _, hc'⟩ := HE10.out.at_ HLf.out hi
          rw [← Option.some.inj e, HQ.out] at hc'
          exact hc' j u hu
        clear hx10 hon10
        refine ⟨hS10, ?_⟩
        try simp only [Act.put, List.setIfInBounds_toArray, List.set_cons_zero, List.set_cons_succ]
        refine wpAnyH_done (by kernel_rfl) ?_ _
        have x3 : w10.cell? ⟨w.heap.size, 3, none⟩ = some (.slice (some ad) fn fc) := HX10.out.cell 3
        have HDe := Lib.hid (dele_rd HE10.out HLf.out i hi)
        have hw9 : IntKind.i64.wrap ((i : Int) + 1) = (i : Int) + 1 := by rw [IntKind.wrap_i64]; omega
        go_wp2_with fail
        with_reducible refine HDe.out.mono ?_
        rintro e w11 ⟨v11, gd, rfl, ho11, hgd, hgo, ⟨cur, hcur⟩, hon11⟩
        have hkg : ∀ k, (Value.slice A9 n9 c9).ownBlock = some k → k ≠ gd := fun k hk e => HN9.out k hk (by rw [e]; exact hgo.1)
        have HX11 := Lib.hid (hon11.blk HX10.out (by omega))
        have HY11 := Lib.hid (hon11.blk HY10.out (by omega))
        have HG11 : Hid (OwnRd w11 (w.heap.size + 3) (.slice A9 n9 c9) (G1 ++ [⟨g2, s2, e2, c2, p2, l2, a2⟩])) := hide (hon11.own HG10.out (fun e => hkg _ e rfl))
        have HN11 : Hid (NEr (.slice A9 n9 c9) v11) := hide (fun k hk hk' => hkg k hk (Option.some.inj (hk'.symm.trans hgo.2)))
        have HE11 := Lib.hid ho11
        have HB11 : Hid (Below w.heap.size w w11) := hide (hon11.below HB10.out (by omega))
        obtain ⟨B11, m11, c11, rfl, HM11, _, _, _⟩ := (OwnRd.strV ho11).nam
        have hw10 : IntKind.i64.wrap (k1 + 1) = k1 + 1 := by rw [IntKind.wrap_i64]; omega
        have x1 : w11.cell? ⟨w.heap.size, 1, none⟩ = some (.int .i64 k1) := HX11.out.cell 1
        clear ho11 hgo hcur hon11 hkg x3 HDe hw9 hS10
        go_wp2_with
          (first
           | (refine wpList_store_field 28 (.tmp 67) (.tmp 66) rfl rfl w.heap.size 3 (.slice B11 m11 c11) rfl rfl 32 _ HX11.out (by kernel_rfl) (by simp) rfl rfl ?_
              intro w12 hx12 hon12
              have HX12 : Hid (Blk w12 w.heap.size 32 #[.int .i64 gate, .int .i64 k1, .slice A9 n9 c9, .slice B11 m11 c11]) := hide hx12
              have HG12 : Hid (OwnRd w12 (w.heap.size + 3) (.slice A9 n9 c9) (G1 ++ [⟨g2, s2, e2, c2, p2, l2, a2⟩])) := hide (hon12.own HG11.out (row_blk HG11.out HX11.out (by decide)))
              have HE12 : Hid (OwnRd w12 (w.heap.size + 3) (.slice B11 m11 c11) (E1.eraseIdx i)) := hide (hon12.own HE11.out (row_blk HE11.out HX11.out (by decide)))
              have HY12 := Lib.hid (hon12.blk HY11.out (by omega))
              have HB12 : Hid (Below w.heap.size w w12) := hide (hon12.below HB11.out (by omega))
              have z1 : w12.cell? ⟨w.heap.size, 1, none⟩ = some (.int .i64 k1) := HX12.out.cell 1
              clear hx12 hon12)
           | (refine wpList_store_field 3 (.tmp 71) (.tmp 70) rfl rfl w.heap.size 1 (.int .i64 (k1 + 1)) rfl rfl 32 _ HX12.out (by kernel_rfl) (by simp) rfl rfl ?_
              intro w13 hx13 hon13
              have HX13 : Hid (Blk w13 w.heap.size 32 #[.int .i64 gate, .int .i64 (k1 + 1), .slice A9 n9 c9, .slice B11 m11 c11]) := hide hx13
              have HG13 : Hid (OwnRd w13 (w.heap.size + 3) (.slice A9 n9 c9) (G1 ++ [⟨g2, s2, e2, c2, p2, l2, a2⟩])) := hide (hon13.own HG12.out (row_blk HG12.out HX12.out (by decide)))
              have HE13 : Hid (OwnRd w13 (w.heap.size + 3) (.slice B11 m11 c11) (E1.eraseIdx i)) := hide (hon13.own HE12.out (row_blk HE12.out HX12.out (by decide)))
              have HY13 := Lib.hid (hon13.blk HY12.out (by omega))
              have HB13 : Hid (Below w.heap.size w w13) := hide (hon13.below HB12.out (by omega))
              have hx3 : w13.cell? ⟨w.heap.size, 3, none⟩ = some (.slice B11 m11 c11) := HX13.out.cell 3
              clear hx13 hon13))
        have e9 : n9 = hn + 1 := by
          have := HL9.out
          rw [List.length_append, HLh.out] at this
          simpa using this.symm
        have e11 : m11 + 1 = fn := by
          have := HM11.out
          rw [List.length_eraseIdx_of_lt (by rw [HLf.out]; exact hi), HLf.out] at this
          omega
        simp only [Act.put]
        go_roundw
        case rel => exact ⟨k1 + 1, A9, n9, c9, B11, m11, c11, _, _, HX13.out, HG13.out, HL9.out, HE13.out, HM11.out, HN11.out, HY13.out, HB13.out, HDr.out, by omega, by omega, by omega⟩
        case measure => rw [earlyM_eq hx3, earlyM_eq hm3]; omega
    · have hd := HD0.out
      rw [drR_none (fidx_none fun j hj => hno j (by omega))] at hd
      obtain ⟨rfl, rfl, rfl⟩ : G1 = G' ∧ E1 = E' ∧ k1 = k' := by
        injection hd with h1 h2
        injection h2 with h2 h3
        exact ⟨h1, h2, h3⟩
      have hwk : IntKind.i64.wrap (k1 - 1) = k1 - 1 := by rw [IntKind.wrap_i64]; omega
      go_upto_region 17 with (fail)
      have hS17 : Blk w7.drew w.heap.size 32 #[.int .i64 gate, .int .i64 k1, .slice hA hn hc, .slice fA fn fc] ∧ w7.drew.cell? ⟨w.heap.size, 1, none⟩ = some (.int .i64 k1) := ⟨HX7.out, HX7.out.cell 1⟩
      have HY17 : Hid (Blk w7.drew (w.heap.size + 2) 32 #[.int .i64 0, .int .i64 0, .slice none 0 0, .slice none 0 0]) := HY7
      have HG17 : Hid (OwnRd w7.drew (w.heap.size + 3) (.slice hA hn hc) G1) := HG7
      have HE17 : Hid (OwnRd w7.drew (w.heap.size + 3) (.slice fA fn fc) E1) := HE7
      have HB17 : Hid (Below w.heap.size w w7.drew) := hide HB7.out.drew
      refine wp_region_held_drew (S := fun W => Blk W w.heap.size 32 #[.int .i64 gate, .int .i64 k1, .slice hA hn hc, .slice fA fn fc] ∧ W.cell? ⟨w.heap.size, 1, none⟩ = some (.int .i64 k1)) (by kernel_rfl) (hS17) (fun hHeld => ?_)
      refine held_load 0 (some 94) 32 (.tmp 2) (by rfl) (by kernel_rfl) (by kernel_rfl) (by kernel_rfl) (w.heap.size) 32 #[.int .i64 gate, .int .i64 k1, .slice hA hn hc, .slice fA fn fc] (fun _ _ _ h => h) (by rfl) (fun _ h => h.1) _ Try.underlying32 rfl (by kernel_rfl) (by assumption) ?_
      try simp only [Act.put, List.setIfInBounds_toArray, List.set_cons_zero, List.set_cons_succ]
      refine held_run 1 (some 95) (.fieldAddr 32 (.tmp 2) 1) ?v17_18_20 (by rfl) (by kernel_rfl) (by kernel_rfl) (by kernel_rfl) (fun _ _ _ h => h) (fun o ho w hS => ?y17_18_20) (by assumption) ?r17_18_20
      case y17_18_20 => (try dsimp only at hS); unfold execOp; simp only [ho]; go_simp; try with_reducible rfl
      try simp only [Act.put, List.setIfInBounds_toArray, List.set_cons_zero, List.set_cons_succ]
      refine held_run 2 (some 96) (.load 3 (.tmp 95)) ?v17_18_21 (by rfl) (by kernel_rfl) (by kernel_rfl) (by kernel_rfl) (fun _ _ _ h => h) (fun o ho w hS => ?y17_18_21) (by assumption) ?r17_18_21
      case y17_18_21 => (try dsimp only at hS); unfold execOp; simp only [ho]; go_simp; try with_reducible rfl
      try simp only [Act.put, List.setIfInBounds_toArray, List.set_cons_zero, List.set_cons_succ]
      refine held_run 3 (some 97) (.binOp .sub 3 (.tmp 96) (.const (.int .i64 1)) 3) ?v17_18_22 (by rfl) (by kernel_rfl) (by kernel_rfl) (by kernel_rfl) (fun _ _ _ h => h) (fun o ho w hS => ?y17_18_22) (by assumption) ?r17_18_22
      case y17_18_22 => (try dsimp only at hS); unfold execOp; simp only [ho]; go_simp; try with_reducible rfl
      try simp only [Act.put, List.setIfInBounds_toArray, List.set_cons_zero, List.set_cons_succ]
      refine held_one 4 (by kernel_rfl) ?_
      refine op_store_blk 4 32 (.tmp 4) (.tmp 94) (by rfl) (w.heap.size + 2) #[.int .i64 gate, .int .i64 k1, .slice hA hn hc, .slice fA fn fc] rfl rfl _ _ (HY17.out) (by kernel_rfl) rfl (by simp [Value.oneCell']) ?_
      intro w18 hx18 hon18
      have hS18 : Blk w18 w.heap.size 32 #[.int .i64 gate, .int .i64 k1, .slice hA hn hc, .slice fA fn fc] ∧ w18.cell? ⟨w.heap.size, 1, none⟩ = some (.int .i64 k1) := ⟨hon18.blk hS17.1 (by omega), (hon18.blk hS17.1 (by omega)).cell 1⟩
      have HX18 := Lib.hid hx18
      have HG18 : Hid (OwnRd w18 0 (.slice hA hn hc) G1) := hide (OwnRd.to0 (base := w.heap.size + 3) (hon18.own HG17.out (row_blk HG17.out HY17.out (by decide))))
      have HE18 : Hid (OwnRd w18 0 (.slice fA fn fc) E1) := hide (OwnRd.to0 (base := w.heap.size + 3) (hon18.own HE17.out (row_blk HE17.out HY17.out (by decide))))
      have HB18 : Hid (Below w.heap.size w w18) := hide (hon18.below HB17.out (by omega))
      clear hx18 hon18
      refine ⟨hS18, ?_⟩
      try simp only [Act.put]
      refine held_run 5 (some 5) (.assign (.tmp 97)) ?v17_18_24 (by rfl) (by kernel_rfl) (by kernel_rfl) (by kernel_rfl) (fun _ _ _ h => h) (fun o ho w hS => ?y17_18_24) (by assumption) ?r17_18_24
      case y17_18_24 => (try dsimp only at hS); unfold execOp; simp only [ho]; go_simp; try with_reducible rfl
      try simp only [Act.put, List.setIfInBounds_toArray, List.set_cons_zero, List.set_cons_succ]
      refine wpAnyH_done (by kernel_rfl) ?_ _
      go_wp2_with fail
      refine bodyPost_ret (results_cell_row_tmp rfl _ _ (w.heap.size + 2) 32 _ _ _ rfl rfl HX18.out Try.underlying32 rfl (by kernel_rfl)) rfl ?_
      exact HFin.out _ _ _ HG18.out HE18.out HB18.out
end Go.Proofs.Ytedeggjefnpjgaa
