/-
  arrive of the law: no letter arrives.
  arrive of the law: an answer arrives.
-/
import Derived.Test.YtedeggjefnpjgaaDiv7
namespace Go.Proofs.Ytedeggjefnpjgaa

section
open Go.RowKit

set_option maxRecDepth 100000 in
set_option maxHeartbeats 16000000 in
theorem arrive_no (n : Nat) (x : Lk) (i r : Int) (v : Value) (w : World) (hv : LnV w n x v) (hr : (r == 0) = false)
    (hD : ∀ pA pc mA mn mc W, Below w.heap.size w W → NetO W (.slice pA 2 pc) (.slice mA mn mc) [0, x.p] (x.mail.map ltN) → Calls Try.prog 18 #[.agg #[.slice pA 2 pc, .slice mA mn mc], .int .i64 i] W (NdR r W)) : Calls Try.prog 7 #[v, .int .i64 i] w (LkR n x w) := by
  obtain ⟨vp, vm, vo, vg, ve, rfl, hnet, ho, hg, he⟩ := hv
  obtain ⟨oA, on, oc, rfl, _, _⟩ := ho.parts
  obtain ⟨gA, gn, gc, rfl, _, _⟩ := hg.parts
  obtain ⟨eA, en, ec, rfl, _, _⟩ := he.parts
  obtain ⟨pA, pc, mA, mn, mc, rfl, rfl, _, _, _⟩ := hnet.nam
  have HD : Hid (∀ W, Below w.heap.size w W → Calls Try.prog 18 #[.agg #[.slice pA 2 pc, .slice mA mn mc], .int .i64 i] W (NdR r W)) := fun W hW => hD _ _ _ _ _ W hW (hnet.now hW)
  have HFin : Hid (∀ w', Below w.heap.size w w' → LkR n x w (.returned (.agg #[.slice pA 2 pc, .slice mA mn mc, .int .i64 4, .int .i64 ((n : Int) + 1), .slice oA on oc, .int .i64 4, .int .i64 ((x.k : Int) + 1), .slice gA gn gc, .slice eA en ec, .bool true])) w') := fun w' h2 => ⟨_, rfl, ⟨_, _, _, _, _, rfl, hnet.now h2, ho.now h2, hg.now h2, he.now h2⟩, h2⟩
  generalize LkR n x w = RR at *
  clear hD hnet ho hg he
  obtain ⟨n1, hn1⟩ : ∃ n1, (n : Int) + 1 = n1 := ⟨_, rfl⟩
  obtain ⟨k1, hk1⟩ : ∃ k1, (x.k : Int) + 1 = k1 := ⟨_, rfl⟩
  rw [hn1, hk1] at HFin ⊢
  clear hn1 hk1
  go_enter Try.func7, Try.ntmps7
  go_upto_region 1 with (fail)
  have hwz : (w.alloc (Obj.cells #[Value.slice pA 2 pc, Value.slice mA mn mc, Value.int .i64 4, Value.int .i64 n1, Value.slice oA on oc, Value.int .i64 4, Value.int .i64 k1, Value.slice gA gn gc, Value.slice eA en ec, Value.bool true] 34)).heap.size = w.heap.size + 1 := by simp
  obtain ⟨w0, hw0⟩ : ∃ W, w.alloc (Obj.cells #[Value.slice pA 2 pc, Value.slice mA mn mc, Value.int .i64 4, Value.int .i64 n1, Value.slice oA on oc, Value.int .i64 4, Value.int .i64 k1, Value.slice gA gn gc, Value.slice eA en ec, Value.bool true] 34) = W := ⟨_, rfl⟩
  rw [hw0] at hwz ⊢
  have HX0 : Hid (Blk w0 w.heap.size 34 #[.slice pA 2 pc, .slice mA mn mc, .int .i64 4, .int .i64 n1, .slice oA on oc, .int .i64 4, .int .i64 k1, .slice gA gn gc, .slice eA en ec, .bool true]) := hide (by rw [← hw0]; exact Blk.new w _ _)
  have HB0 : Hid (Below w.heap.size w w0) := hide (by rw [← hw0]; exact below_new w _)
  obtain ⟨w1, hw1⟩ : ∃ W, w0.alloc (Obj.cells #[Value.slice none 0 0, Value.slice none 0 0, Value.int .i64 0, Value.int .i64 0, Value.slice none 0 0, Value.int .i64 0, Value.int .i64 0, Value.slice none 0 0, Value.slice none 0 0, Value.bool false] 34) = W := ⟨_, rfl⟩
  rw [hw1]
  have HY1 : Hid (Blk w1 (w.heap.size + 1) 34 #[.slice none 0 0, .slice none 0 0, .int .i64 0, .int .i64 0, .slice none 0 0, .int .i64 0, .int .i64 0, .slice none 0 0, .slice none 0 0, .bool false]) := hide (by rw [← hw1, ← hwz]; exact Blk.new w0 _ _)
  have hb1 : Below w0.heap.size w0 w1 := by rw [← hw1]; exact below_new w0 _
  have HX1 := Lib.hid (HX0.out.below hb1 (by omega))
  have HB1 := Lib.hid (HB0.out.trans (hb1.mono HB0.out.size))
  have hs1 : w.heap.size + 2 ≤ w1.heap.size := by have := HY1.out.lt; omega
  clear hw0 hw1 hb1 hwz HX0 HB0
  go_wp2_with (refine wpList_load_at 27 (.tmp 16) rfl rfl ⟨w.heap.size, 0, none⟩ rfl [.slice pA 2 pc, .slice mA mn mc] (HX1.out.part 0 _ rfl) _ Try.underlying27 rfl (by kernel_rfl) ?_)
  with_reducible refine (HD.out w1 HB1.out).mono ?_
  rintro e w2 ⟨rfl, hb2⟩
  have HB2 := Lib.hid (HB1.out.trans (hb2.mono HB1.out.size))
  have HX2 := Lib.hid (HX1.out.below hb2 (by omega))
  have HY2 := Lib.hid (HY1.out.below hb2 (by omega))
  have hs2 : w.heap.size + 2 ≤ w2.heap.size := Nat.le_trans hs1 hb2.size
  clear hb2 HX1 HY1 HB1 HD hs1
  go_upto_region 2 with (fail)
  have HBw3 := (Blk.new w2 27 #[.slice none 0 0, .slice none 0 0])
  have HLw3 := (below_new w2 (.cells #[.slice none 0 0, .slice none 0 0] 27))
  have hsw3 : (w2.alloc (.cells #[.slice none 0 0, .slice none 0 0] 27)).heap.size = w2.heap.size + 1 := by simp
  generalize w2.alloc (.cells #[.slice none 0 0, .slice none 0 0] 27) = w3 at HBw3 HLw3 hsw3 ⊢
  replace HBw3 := Lib.hid HBw3
  replace HLw3 := Lib.hid HLw3
  have hlw3 : w2.heap.size < w3.heap.size := by omega
  replace hsw3 := Lib.hid hsw3
  have HBw4 := (Blk.new w3 58 #[.int .i64 0, .int .i64 0, .slice none 0 0])
  have HLw4 := (below_new w3 (.cells #[.int .i64 0, .int .i64 0, .slice none 0 0] 58))
  have hsw4 : (w3.alloc (.cells #[.int .i64 0, .int .i64 0, .slice none 0 0] 58)).heap.size = w3.heap.size + 1 := by simp
  generalize w3.alloc (.cells #[.int .i64 0, .int .i64 0, .slice none 0 0] 58) = w4 at HBw4 HLw4 hsw4 ⊢
  replace HBw4 := Lib.hid HBw4
  replace HLw4 := Lib.hid HLw4
  have hlw4 : w3.heap.size < w4.heap.size := by omega
  replace hsw4 := Lib.hid hsw4
  have HL4 : Hid (Below w2.heap.size w2 w4) := hide (HLw3.out.trans (HLw4.out.mono HLw3.out.size))
  have HX4 := Lib.hid (HX2.out.below HL4.out (by omega))
  have HY4 := Lib.hid (HY2.out.below HL4.out (by omega))
  have HB4 : Hid (Below w.heap.size w w4) := hide (HB2.out.trans (HL4.out.mono HB2.out.size))
  clear HX2 HY2 HB2 HL4 HLw3 HLw4 HBw3 HBw4 hsw3 hsw4
  go_wp2_with
    (first
     | (refine wpList_load_blk rfl 34 (.tmp 2) rfl w.heap.size rfl _ _ HX4.out _ Try.underlying34 rfl (by kernel_rfl) ?_)
     | (refine wpList_store_blk rfl 34 (.tmp 4) (.tmp 25) rfl (w.heap.size + 1) #[.slice pA 2 pc, .slice mA mn mc, .int .i64 4, .int .i64 n1, .slice oA on oc, .int .i64 4, .int .i64 k1, .slice gA gn gc, .slice eA en ec, .bool true] rfl rfl _ _ HY4.out (by kernel_rfl) rfl (by simp [Value.oneCell']) ?_
        intro w7 hx7 hon7
        have HX7 := Lib.hid hx7
        have HB7 : Hid (Below w.heap.size w w7) := hide (hon7.below HB4.out (by omega))
        clear hx7 hon7))
  refine bodyPost_ret (results_cell_row rfl _ _ (w.heap.size + 1) 34 _ (0, 0) _ rfl HX7.out Try.underlying34 rfl (by kernel_rfl)) rfl ?_
  exact HFin.out _ HB7.out
end

section
open Go.RowKit

/-- a letter is taken from the network -/
def DvR (p fr t : Int) (bd : List UInt8) (l : List Ms) (w : World) (e : Ending) (w' : World) : Prop := ∃ pA pc mA mn mc bA bn bc, e = .returned (.tuple #[.agg #[.slice pA 2 pc, .slice mA mn mc], .agg #[.int .i64 fr, .int .i64 t, .slice bA bn bc], .int .i64 0]) ∧ NetO w' (.slice pA 2 pc) (.slice mA mn mc) [0, p] (l.map ltN) ∧ OwnB w' 0 (.slice bA bn bc) bd ∧ Below w.heap.size w w'
theorem erase_map {α β : Type _} (f : α → β) : ∀ (l : List α) (j : Nat), (l.map f).eraseIdx j = (l.eraseIdx j).map f
  | [], _ => rfl
  | _ :: _, 0 => rfl
  | a :: l, j + 1 => by rw [List.map_cons, List.eraseIdx_cons_succ, List.eraseIdx_cons_succ, erase_map f l j, List.map_cons]
theorem dlv_ms (n : Nat) (x : Lk) (j : Nat) (m : Ms) (pA : Option Addr) (pc : Nat) (mA : Option Addr) (mn mc : Nat) (w : World) (h : OKL n x) (hp : x.p = 0) (hm : x.mail[j]? = some m) (hv : NetO w (.slice pA 2 pc) (.slice mA mn mc) [0, x.p] (x.mail.map ltN)) :
    Calls Try.prog 18 #[.agg #[.slice pA 2 pc, .slice mA mn mc], .int .i64 (j : Int)] w (DvR x.p (ltN m).fr (ltN m).to_ (ltN m).bd (x.mail.eraseIdx j) w) := by
  obtain ⟨pA', pc', mA', mn', mc', e1, e2, hmn, h1, h2⟩ := hv.nam
  injection e1 with e3 e4 e5
  injection e2 with e6 e7 e8
  subst e3 e5 e6 e7 e8
  have hj : j < x.mail.length := (List.getElem?_eq_some_iff.1 hm).1
  have hl : x.mail.length = mn := by rw [← hmn.out, List.length_map]
  have hq : (x.mail.map ltN).getD j lt0 = ltN m := by
    rw [List.getD_eq_getElem?_getD, List.getElem?_map, hm]
    rfl
  have hin := h.len
  have hq2 : ltN m = ⟨(((ltN m).fr.toNat : Nat) : Int), (((ltN m).to_.toNat : Nat) : Int), (ltN m).bd⟩ := by cases m <;> rfl
  have h3 : (ltN m).fr.toNat < 2 ∧ (ltN m).to_.toNat < 2 ∧ (([0, x.p] : List Int).getD (ltN m).fr.toNat 0 == ([0, x.p] : List Int).getD (ltN m).to_.toNat 0) = true := by
    rw [hp]
    cases m with
    | up s => exact ⟨by show 1 < 2; omega, by show 0 < 2; omega, rfl⟩
    | ack u => exact ⟨by show 0 < 2; omega, by show 1 < 2; omega, rfl⟩
  have h4 : (((ltN m).fr.toNat : Nat) : Int) = (ltN m).fr ∧ (((ltN m).to_.toNat : Nat) : Int) = (ltN m).to_ := by cases m <;> exact ⟨rfl, rfl⟩
  refine (deliver_any pA pc mA mn mc j (ltN m).fr.toNat (ltN m).to_.toNat (ltN m).bd _ _ w h1 h2 (by omega) (ms_len h.inv.ms h.inv.kn h.n20) (by omega) (hq.trans hq2) h3.1 h3.2.1 h3.2.2).mono ?_
  rintro e w' ⟨vp, vm, vb, rfl, hN, hB, hb⟩
  obtain ⟨pA', pc', mA', mn', mc', rfl, rfl, _, _, _⟩ := hN.nam
  obtain ⟨bA, bn, bc, rfl, _, _, _, _⟩ := hB.nam
  rw [erase_map] at hN
  rw [h4.1, h4.2]
  exact ⟨_, _, _, _, _, _, _, _, rfl, hN, hB, hb⟩
theorem filt_rds {a n u : Nat} (h : u ≤ n) (ha : a ≤ n) : (rdsN (a + 1) (n - a)).filter (fun r => !decide (r.seq ≤ (u : Int))) = rdsN (max a u + 1) (n - max a u) := by
  obtain ⟨c, rfl⟩ : ∃ c, n = a + c := ⟨n - a, by omega⟩
  clear ha
  rw [show a + c - a = c by omega]
  induction c with
  | zero => rw [show a + 0 - max a u = 0 by omega]; rfl
  | succ c ih =>
    rw [← rdsN_snoc, List.filter_append]
    have hseq : (rdN (a + 1 + c)).seq = ((a + 1 + c : Nat) : Int) := rdN_seq _
    rcases Nat.lt_or_ge u (a + (c + 1)) with hlt | hge
    · rw [ih (by omega), List.filter_cons, if_pos (by rw [hseq]; simp; omega), List.filter_nil, show a + (c + 1) - max a u = (a + c - max a u) + 1 by omega, ← rdsN_snoc, show max a u + 1 + (a + c - max a u) = a + 1 + c by omega]
    · rw [show a + (c + 1) - max a u = 0 by omega, List.filter_cons, if_neg (by rw [hseq]; simp; omega), List.filter_nil, List.append_nil, rdsN_zero, List.filter_eq_nil_iff]
      intro r hr
      unfold rdsN at hr
      obtain ⟨y, hy, rfl⟩ := List.mem_map.1 hr
      have := (List.mem_range'_1.1 hy)
      rw [rdN_seq]
      simp
      omega
set_option maxRecDepth 100000 in
set_option maxHeartbeats 16000000 in
theorem arrive_ack (n : Nat) (x : Lk) (j u : Nat) (v : Value) (w : World) (h : OKL n x) (hp : x.p = 0) (hm : x.mail[j]? = some (.ack u)) (hv : LnV w n x v) : Calls Try.prog 7 #[v, .int .i64 (j : Int)] w (LkR n (letN x (.ack u) (x.mail.eraseIdx j)) w) := by
  obtain ⟨vp, vm, vo, vg, ve, rfl, hnet, ho, hg, he⟩ := hv
  have hn20 := h.n20
  have hak := h.inv.ak
  have hkn := h.inv.kn
  have huk : u ≤ x.k := h.inv.ms (.ack u) (List.mem_of_getElem? hm)
  obtain ⟨oA, on, oc, rfl, HLo, hos⟩ := ho.parts
  obtain ⟨gA, gn, gc, rfl, _, _⟩ := hg.parts
  obtain ⟨eA, en, ec, rfl, _, _⟩ := he.parts
  obtain ⟨pA, pc, mA, mn, mc, rfl, rfl, _, _, _⟩ := hnet.nam
  have HD : Hid (∀ W, Below w.heap.size w W → Calls Try.prog 18 #[.agg #[.slice pA 2 pc, .slice mA mn mc], .int .i64 (j : Int)] W (DvR x.p 0 1 (listP [(u : Int)]) (x.mail.eraseIdx j) W)) := fun W hW => dlv_ms n x j (.ack u) _ _ _ _ _ W h hp hm (hnet.now hW)
  have HGet : Hid (∀ bA bn bc W, OwnB W 0 (.slice bA bn bc) (listP [(u : Int)]) → Calls Try.prog 19 #[.slice bA bn bc] W (fun e' w' => ∃ lg lc, e' = .returned (.tuple #[.slice (some ⟨lg, 0, none⟩) 1 lc, .int .i64 (((listP [(u : Int)]).length : Nat) : Int), .int .i64 0]) ∧ w'.cell? ⟨lg, 0, none⟩ = some (.int .i64 (u : Int)) ∧ lg < w'.heap.size ∧ W.heap.size ≤ lg ∧ Below W.heap.size W w')) := fun bA bn bc W hB => by
    obtain ⟨bA', bn', bc', e1, hbl, hc1, hc2, hbs⟩ := hB.nam
    injection e1 with e1 e2 e3
    subst e1 e2 e3
    have hal := ack_len (u := u) (by omega)
    have hbl' : (listP [(u : Int)]).length = bn := hbl.out
    refine (glist_any bA bn bc _ [u] _ 0 W hbs (by omega) hc1 hc2 (ack_read (by omega))).mono ?_
    rintro e w' ⟨v', rfl, hO, hb⟩
    have hO1 : w'.ownsRow W.heap.size 3 1 v' 1 [.int .i64 (u : Int)] := hO
    obtain ⟨lA, lc, rfl, _, _, hr⟩ := own_open hO1
    rcases hO1.2 with ⟨_, h0⟩ | ⟨g, cap, cur, e4, hbg, hg, _⟩
    · cases h0
    · injection e4 with e4 e5 e6
      subst e4
      obtain ⟨ad, e7, hb2, hc⟩ := hr.2 (by omega)
      have e8 := Option.some.inj e7
      subst e8
      refine ⟨g, lc, rfl, ?_, hb2, hbg, hb⟩
      have := hc 0 _ rfl
      exact this
  have HAck : Hid (∀ W, Below w.heap.size w W → Calls Try.prog 20 #[.agg #[.int .i64 4, .int .i64 ((n : Int) + 1), .slice oA on oc], .int .i64 (u : Int)] W (AckR 4 ((n : Int) + 1) (rdsN (max x.a u + 1) (n - max x.a u)) W)) := fun W hW => by
    rw [← filt_rds (by omega) (by omega)]
    exact ack_any 4 _ (u : Int) oA on oc (rdsN (x.a + 1) (n - x.a)) W (hos.now hW) HLo.out (by have := HLo.out; rw [rdsN_len] at this; omega)
  have HFin : Hid (∀ vp' vm' vo' w', NetO w' vp' vm' [0, x.p] ((x.mail.eraseIdx j).map ltN) → OwnRd w' 0 vo' (rdsN (max x.a u + 1) (n - max x.a u)) → Below w.heap.size w w' → LkR n (letN x (.ack u) (x.mail.eraseIdx j)) w (.returned (.agg #[vp', vm', .int .i64 4, .int .i64 ((n : Int) + 1), vo', .int .i64 4, .int .i64 ((x.k : Int) + 1), .slice gA gn gc, .slice eA en ec, .bool true])) w') := fun vp' vm' vo' w' h1 h3 h2 => ⟨_, rfl, ⟨_, _, _, _, _, rfl, h1, h3, hg.now h2, he.now h2⟩, h2⟩
  generalize LkR n (letN x (.ack u) (x.mail.eraseIdx j)) w = RR at *
  generalize rdsN (max x.a u + 1) (n - max x.a u) = outs at *
  generalize x.mail.eraseIdx j = left at *
  generalize x.p = p at *
  have hu20 : u ≤ 20 := by omega
  clear hnet ho hg he hos HLo hm hp h hak huk
  obtain ⟨n1, hn1⟩ : ∃ n1, (n : Int) + 1 = n1 := ⟨_, rfl⟩
  obtain ⟨k1, hk1⟩ : ∃ k1, (x.k : Int) + 1 = k1 := ⟨_, rfl⟩
  rw [hn1] at HAck
  rw [hn1, hk1] at HFin ⊢
  clear hn1 hk1 hkn hn20
  generalize (((listP [(u : Int)]).length : Nat) : Int) = kk at *
  generalize listP [(u : Int)] = lb at *
  go_enter Try.func7, Try.ntmps7
  go_upto_region 1 with (fail)
  have hwz : (w.alloc (Obj.cells #[Value.slice pA 2 pc, Value.slice mA mn mc, Value.int .i64 4, Value.int .i64 n1, Value.slice oA on oc, Value.int .i64 4, Value.int .i64 k1, Value.slice gA gn gc, Value.slice eA en ec, Value.bool true] 34)).heap.size = w.heap.size + 1 := by simp
  obtain ⟨w0, hw0⟩ : ∃ W, w.alloc (Obj.cells #[Value.slice pA 2 pc, Value.slice mA mn mc, Value.int .i64 4, Value.int .i64 n1, Value.slice oA on oc, Value.int .i64 4, Value.int .i64 k1, Value.slice gA gn gc, Value.slice eA en ec, Value.bool true] 34) = W := ⟨_, rfl⟩
  rw [hw0] at hwz ⊢
  have HX0 : Hid (Blk w0 w.heap.size 34 #[.slice pA 2 pc, .slice mA mn mc, .int .i64 4, .int .i64 n1, .slice oA on oc, .int .i64 4, .int .i64 k1, .slice gA gn gc, .slice eA en ec, .bool true]) := hide (by rw [← hw0]; exact Blk.new w _ _)
  have HB0 : Hid (Below w.heap.size w w0) := hide (by rw [← hw0]; exact below_new w _)
  obtain ⟨w1, hw1⟩ : ∃ W, w0.alloc (Obj.cells #[Value.slice none 0 0, Value.slice none 0 0, Value.int .i64 0, Value.int .i64 0, Value.slice none 0 0, Value.int .i64 0, Value.int .i64 0, Value.slice none 0 0, Value.slice none 0 0, Value.bool false] 34) = W := ⟨_, rfl⟩
  rw [hw1]
  have HY1 : Hid (Blk w1 (w.heap.size + 1) 34 #[.slice none 0 0, .slice none 0 0, .int .i64 0, .int .i64 0, .slice none 0 0, .int .i64 0, .int .i64 0, .slice none 0 0, .slice none 0 0, .bool false]) := hide (by rw [← hw1, ← hwz]; exact Blk.new w0 _ _)
  have hb1 : Below w0.heap.size w0 w1 := by rw [← hw1]; exact below_new w0 _
  have HX1 := Lib.hid (HX0.out.below hb1 (by omega))
  have HB1 := Lib.hid (HB0.out.trans (hb1.mono HB0.out.size))
  have hs1 : w.heap.size + 2 ≤ w1.heap.size := by have := HY1.out.lt; omega
  clear hw0 hw1 hb1 hwz HX0 HB0
  go_wp2_with (refine wpList_load_at 27 (.tmp 16) rfl rfl ⟨w.heap.size, 0, none⟩ rfl [.slice pA 2 pc, .slice mA mn mc] (HX1.out.part 0 _ rfl) _ Try.underlying27 rfl (by kernel_rfl) ?_)
  with_reducible refine (HD.out w1 HB1.out).mono ?_
  rintro e w2 ⟨sA, sc, tA, tn, tc, bA, bn, bc, rfl, hn2, hb2', hb2⟩
  have HB2 := Lib.hid (HB1.out.trans (hb2.mono HB1.out.size))
  have HX2 := Lib.hid (HX1.out.below hb2 (by omega))
  have HY2 := Lib.hid (HY1.out.below hb2 (by omega))
  have hs2 : w.heap.size + 2 ≤ w2.heap.size := Nat.le_trans hs1 hb2.size
  have HN2 := Lib.hid hn2
  have HBy2 := Lib.hid hb2'
  clear hb2 hn2 hb2' HX1 HY1 HB1 HD hs1
  go_upto_region 2 with (fail)
  have HBw3 := (Blk.new w2 27 #[.slice sA 2 sc, .slice tA tn tc])
  have HLw3 := (below_new w2 (.cells #[.slice sA 2 sc, .slice tA tn tc] 27))
  have hsw3 : (w2.alloc (.cells #[.slice sA 2 sc, .slice tA tn tc] 27)).heap.size = w2.heap.size + 1 := by simp
  generalize w2.alloc (.cells #[.slice sA 2 sc, .slice tA tn tc] 27) = w3 at HBw3 HLw3 hsw3 ⊢
  replace HBw3 := Lib.hid HBw3
  replace HLw3 := Lib.hid HLw3
  have hlw3 : w2.heap.size < w3.heap.size := by omega
  replace hsw3 := Lib.hid hsw3
  have HBw4 := (Blk.new w3 58 #[.int .i64 0, .int .i64 1, .slice bA bn bc])
  have HLw4 := (below_new w3 (.cells #[.int .i64 0, .int .i64 1, .slice bA bn bc] 58))
  have hsw4 : (w3.alloc (.cells #[.int .i64 0, .int .i64 1, .slice bA bn bc] 58)).heap.size = w3.heap.size + 1 := by simp
  generalize w3.alloc (.cells #[.int .i64 0, .int .i64 1, .slice bA bn bc] 58) = w4 at HBw4 HLw4 hsw4 ⊢
  replace HBw4 := Lib.hid HBw4
  replace HLw4 := Lib.hid HLw4
  have hlw4 : w3.heap.size < w4.heap.size := by omega
  replace hsw4 := Lib.hid hsw4
  have HL4 : Hid (Below w2.heap.size w2 w4) := hide (HLw3.out.trans (HLw4.out.mono HLw3.out.size))
  have HX4 := Lib.hid (HX2.out.below HL4.out (by omega))
  have HY4 := Lib.hid (HY2.out.below HL4.out (by omega))
  have HN4 := Lib.hid (HN2.out.now HL4.out)
  have HBy4 : Hid (OwnB w4 0 (.slice bA bn bc) lb) := hide (own_below HBy2.out HL4.out (Nat.le_refl _))
  have HB4 : Hid (Below w.heap.size w w4) := hide (HB2.out.trans (HL4.out.mono HB2.out.size))
  have HE4 : Hid (Blk w4 w2.heap.size 27 #[.slice sA 2 sc, .slice tA tn tc]) := hide (HBw3.out.below HLw4.out hlw3)
  have HM4 : Hid (Blk w4 (w2.heap.size + 1) 58 #[.int .i64 0, .int .i64 1, .slice bA bn bc]) := hide (by rw [← hsw3.out]; exact HBw4.out)
  have hs4 : w.heap.size + 2 ≤ w4.heap.size := by omega
  clear HX2 HY2 HB2 HN2 HBy2 HL4 HLw3 HLw4 HBw3 HBw4 hsw3 hsw4
  go_wp2_with
    (first
     | (refine wpList_load_blk rfl 27 (.tmp 5) rfl w2.heap.size rfl _ _ HE4.out _ Try.underlying27 rfl (by kernel_rfl) ?_)
     | (refine wpList_store_part 27 (.tmp 27) (.tmp 26) rfl rfl w.heap.size 0 #[.slice sA 2 sc, .slice tA tn tc] rfl rfl 34 _ HX4.out (by kernel_rfl) (by simp) (by simp [Value.oneCell']) #[.slice sA 2 sc, .slice tA tn tc, .int .i64 4, .int .i64 n1, .slice oA on oc, .int .i64 4, .int .i64 k1, .slice gA gn gc, .slice eA en ec, .bool true] rfl ?_
        intro w5 hx5 hon5
        have HX5 := Lib.hid hx5
        have HY5 := Lib.hid (hon5.blk HY4.out (by omega))
        have HM5 := Lib.hid (hon5.blk HM4.out (by omega))
        have HN5 := Lib.hid (HN4.out.onlyT hon5 HX4.out (by decide) (by decide) (by decide))
        have HBy5 : Hid (OwnB w5 0 (.slice bA bn bc) lb) := hide (hon5.own HBy4.out (row_blk HBy4.out HX4.out (by decide)))
        have HB5 : Hid (Below w.heap.size w w5) := hide (hon5.below HB4.out (Nat.le_refl _))
        have hs5 : w.heap.size + 2 ≤ w5.heap.size := by rw [hon5.size]; exact hs4
        have m1 : w5.cell? ⟨w2.heap.size + 1, 1, none⟩ = some (.int .i64 1) := HM5.out.cell 1
        have m2 : w5.cell? ⟨w2.heap.size + 1, 2, none⟩ = some (.slice bA bn bc) := HM5.out.cell 2
        clear hx5 hon5))
  with_reducible refine (HGet.out bA bn bc w5 HBy5.out).mono ?_
  rintro e w6 ⟨lg, lc, rfl, hcl, hlg, hlg2, hb6⟩
  have hlne : lg ≠ w.heap.size := by omega
  have HX6 := Lib.hid (HX5.out.below hb6 (by omega))
  have HY6 := Lib.hid (HY5.out.below hb6 (by omega))
  have HN6 := Lib.hid (HN5.out.now hb6)
  have HB6 : Hid (Below w.heap.size w w6) := hide (HB5.out.trans (hb6.mono HB5.out.size))
  have hs6 : w.heap.size + 2 ≤ w6.heap.size := Nat.le_trans hs5 hb6.size
  have HC6 := Lib.hid hcl
  clear hb6 hcl HX5 HY5 HN5 HB5 HBy5 HM5 m1 m2 HGet HX4 HY4 HN4 HBy4 HB4 HE4 HM4
  go_upto_region 10 with (fail)
  have hS : w6.drew.cell? ⟨lg, 0, none⟩ = some (.int .i64 (u : Int)) := HC6.out
  have HX6d : Hid (Blk w6.drew w.heap.size 34 #[.slice sA 2 sc, .slice tA tn tc, .int .i64 4, .int .i64 n1, .slice oA on oc, .int .i64 4, .int .i64 k1, .slice gA gn gc, .slice eA en ec, .bool true]) := HX6
  have HY6d : Hid (Blk w6.drew (w.heap.size + 1) 34 _) := HY6
  have HN6d : Hid (NetO w6.drew (.slice sA 2 sc) (.slice tA tn tc) [0, p] (left.map ltN)) := HN6
  have HB6d : Hid (Below w.heap.size w w6.drew) := hide HB6.out.drew
  have hs6d : w.heap.size + 2 ≤ w6.drew.heap.size := hs6
  have hlgd : lg < w6.drew.heap.size := hlg
  refine wp_region_held_drew (S := fun W => W.cell? ⟨lg, 0, none⟩ = some (.int .i64 (u : Int))) (by kernel_rfl) (hS) (fun hHeld => ?_)
  refine held_run 0 (some 47) (.fieldAddr 34 (.tmp 2) 1) ?v10_1_2 (by rfl) (by kernel_rfl) (by kernel_rfl) (by kernel_rfl) (fun _ _ _ h => h) (fun o ho w hS => ?y10_1_2) (by assumption) ?r10_1_2
  case y10_1_2 => (try dsimp only at hS); unfold execOp; simp only [ho]; go_simp; try with_reducible rfl
  try simp only [Act.put, List.setIfInBounds_toArray, List.set_cons_zero, List.set_cons_succ]
  refine held_run 2 (some 49) (.move (.tmp 8)) ?v10_1_3 (by rfl) (by kernel_rfl) (by kernel_rfl) (by kernel_rfl) (fun _ _ _ h => h) (fun o ho w hS => ?y10_1_3) (by assumption) ?r10_1_3
  case y10_1_3 => (try dsimp only at hS); unfold execOp; simp only [ho]; go_simp; try with_reducible rfl
  try simp only [Act.put, List.setIfInBounds_toArray, List.set_cons_zero, List.set_cons_succ]
  refine held_run 3 (some 50) (.indexAddr 24 (.tmp 49) (.const (.int .i64 0))) ?v10_1_4 (by rfl) (by kernel_rfl) (by kernel_rfl) (by kernel_rfl) (fun _ _ _ h => h) (fun o ho w hS => ?y10_1_4) (by assumption) ?r10_1_4
  case y10_1_4 => (try dsimp only at hS); unfold execOp; simp only [ho]; go_simp; try with_reducible rfl
  try simp only [Act.put, List.setIfInBounds_toArray, List.set_cons_zero, List.set_cons_succ]
  refine held_run 4 (some 51) (.load 3 (.tmp 50)) ?v10_1_5 (by rfl) (by kernel_rfl) (by kernel_rfl) (by kernel_rfl) (fun _ _ _ h => h) (fun o ho w hS => ?y10_1_5) (by assumption) ?r10_1_5
  case y10_1_5 => (try dsimp only at hS); unfold execOp; simp only [ho]; go_simp; try with_reducible rfl
  try simp only [Act.put, List.setIfInBounds_toArray, List.set_cons_zero, List.set_cons_succ]
  refine held_one 1 (by kernel_rfl) ?_
  refine op_load_at 1 (some 48) 30 (.tmp 47) (by rfl) ((⟨w.heap.size, 2, none⟩ : Addr)) ([.int .i64 4, .int .i64 n1, .slice oA on oc] : List Value) (by rfl) (HX6d.out.part 2 _ rfl) _ Try.underlying30 rfl (by kernel_rfl) ?_
  refine ⟨by assumption, ?_⟩
  try simp only [Act.put, List.setIfInBounds_toArray, List.set_cons_zero, List.set_cons_succ]
  refine held_call 5 (some 52) 20 [(.tmp 48), (.tmp 51)] #[30, 3] #[.agg #[.int .i64 4, .int .i64 n1, .slice oA on oc], .int .i64 (u : Int)] (by rfl) (by rfl) (by kernel_rfl) Try.func20 (by rfl) (by rfl) ?_
  refine (HAck.out _ HB6d.out).mono ?_
  rintro e w7 ⟨v7, rfl, ho7, hb7⟩
  have HX7 := Lib.hid (HX6d.out.below hb7 (by omega))
  have HY7 := Lib.hid (HY6d.out.below hb7 (by omega))
  have HN7 := Lib.hid (HN6d.out.now hb7)
  have HB7 : Hid (Below w.heap.size w w7) := hide (HB6d.out.trans (hb7.mono HB6d.out.size))
  have hs7 : w.heap.size + 2 ≤ w7.heap.size := Nat.le_trans hs6d hb7.size
  have hHk : w7.cell? ⟨lg, 0, none⟩ = some (.int .i64 (u : Int)) := (hb7.cell (p := ⟨lg, 0, none⟩) hlgd).trans hS
  have HO7 := Lib.hid ho7
  obtain ⟨oA7, on7, oc7, rfl, _, _⟩ := ho7.parts
  clear hb7 ho7
  refine ⟨_, rfl, hHk, ?_⟩
  try simp only [Act.put, List.setIfInBounds_toArray, List.set_cons_zero, List.set_cons_succ]
  refine held_run 6 (some 53) (.fieldAddr 34 (.tmp 2) 1) ?v10_1_8 (by rfl) (by kernel_rfl) (by kernel_rfl) (by kernel_rfl) (fun _ _ _ h => h) (fun o ho w hS => ?y10_1_8) (by assumption) ?r10_1_8
  case y10_1_8 => (try dsimp only at hS); unfold execOp; simp only [ho]; go_simp; try with_reducible rfl
  try simp only [Act.put, List.setIfInBounds_toArray, List.set_cons_zero, List.set_cons_succ]
  refine held_one 7 (by kernel_rfl) ?_
  refine op_store_part 7 30 (.tmp 53) (.tmp 52) (by rfl) (w.heap.size) (2) #[.int .i64 4, .int .i64 n1, .slice oA7 on7 oc7] rfl rfl _ _ (HX7.out) (by kernel_rfl) (by simp) (by simp [Value.oneCell']) #[.slice sA 2 sc, .slice tA tn tc, .int .i64 4, .int .i64 n1, .slice oA7 on7 oc7, .int .i64 4, .int .i64 k1, .slice gA gn gc, .slice eA en ec, .bool true] rfl ?_
  intro w8 hx8 hon8
  have HX8 := Lib.hid hx8
  have HY8 := Lib.hid (hon8.blk HY7.out (by omega))
  have HN8 := Lib.hid (HN7.out.onlyT hon8 HX7.out (by decide) (by decide) (by decide))
  have HO8 := Lib.hid (HO7.out.onlyT hon8 HX7.out (by decide))
  have HB8 : Hid (Below w.heap.size w w8) := hide (hon8.below HB7.out (Nat.le_refl _))
  have hH8 : w8.cell? ⟨lg, 0, none⟩ = some (.int .i64 (u : Int)) := (hon8.cell (p := ⟨lg, 0, none⟩) hlne).trans hHk
  clear hx8 hon8
  refine ⟨hH8, ?_⟩
  try simp only [Act.put]
  refine wpAnyH_done (by kernel_rfl) ?_ _
  go_wp2_with
    (first
     | (refine wpList_load_blk rfl 34 (.tmp 2) rfl w.heap.size rfl _ _ HX8.out _ Try.underlying34 rfl (by kernel_rfl) ?_)
     | (refine wpList_store_blk rfl 34 (.tmp 4) (.tmp 54) rfl (w.heap.size + 1) #[.slice sA 2 sc, .slice tA tn tc, .int .i64 4, .int .i64 n1, .slice oA7 on7 oc7, .int .i64 4, .int .i64 k1, .slice gA gn gc, .slice eA en ec, .bool true] rfl rfl _ _ HY8.out (by kernel_rfl) rfl (by simp [Value.oneCell']) ?_
        intro w9 hx9 hon9
        have HX9 := Lib.hid hx9
        have HN9 := Lib.hid (HN8.out.onlyT hon9 HY8.out (by decide) (by decide) (by decide))
        have HO9 := Lib.hid (HO8.out.onlyT hon9 HY8.out (by decide))
        have HB9 : Hid (Below w.heap.size w w9) := hide (hon9.below HB8.out (by omega))
        clear hx9 hon9))
  refine bodyPost_ret (results_cell_row rfl _ _ (w.heap.size + 1) 34 _ (0, 0) _ rfl HX9.out Try.underlying34 rfl (by kernel_rfl)) rfl ?_
  exact HFin.out _ _ _ _ HN9.out HO9.out HB9.out
end
end Go.Proofs.Ytedeggjefnpjgaa
