/-
  arrive of the law: a ride arrives.
-/
import Derived.Test.YtedeggjefnpjgaaDkE
import Derived.Test.YtedeggjefnpjgaaDiv4
namespace Go.Proofs.Ytedeggjefnpjgaa
open Go.RowKit

theorem set1 (c0 : Value) (a : Array Value) (h : a.size = 1) : a.setIfInBounds 0 c0 = #[c0] := by
  obtain ⟨l⟩ := a
  match l, h with
  | [x0], _ => rfl
theorem run_lit11 {P : Program} (w : World) (t e : TypeId) (k : IntKind) (u : Int) (hu : P.underlying t = some (.slice e)) (hi : (P.info? e).map (fun i => (i.size, i.zero.map (·.cells.size))) = some (1, some 1)) : (Instr.buildSlice t 1 #[(0, .int k u)]).run P w = .ok (.slice (some ⟨w.heap.size, 0, none⟩) 1 1) (w.alloc (.cells #[.int k u] e)) := by
  cases hq : P.info? e with
  | none => rw [hq] at hi; cases hi
  | some inf =>
    rw [hq] at hi
    simp only [Option.map_some, Option.some.injEq, Prod.mk.injEq] at hi
    obtain ⟨h1, h2⟩ := hi
    cases hz : inf.zero with
    | none => rw [hz] at h2; cases h2
    | some z =>
      simp [Instr.buildSlice, run_underlying hu, sizeOf, typeInfo, zeroValue, hq, h1, hz, Instr.fill, newRow, Value.cells]
      rw [set1 _ _ (by simp)]
theorem stepS_lt {m : Ms} {l : List Ms} (h : l.length < 256) : stepS m l = l ++ [m] := by
  unfold stepS
  rw [if_pos h]
set_option maxRecDepth 100000 in
set_option maxHeartbeats 16000000 in
theorem arrive_up (n : Nat) (x : Lk) (j s : Nat) (v : Value) (w : World) (h : OKL n x) (hp : x.p = 0) (hm : x.mail[j]? = some (.up s)) (hv : LnV w n x v) : Calls Try.prog 7 #[v, .int .i64 (j : Int)] w (LkR n (letN x (.up s) (x.mail.eraseIdx j)) w) := by
  obtain ⟨vp, vm, vo, vg, ve, rfl, hnet, ho, hg, he⟩ := hv
  have hn20 := h.n20
  have hkn := h.inv.kn
  have hs : 1 ≤ s ∧ s ≤ n := h.inv.ms (.up s) (List.mem_of_getElem? hm)
  have hrec := recv_ok h.inv.inc hkn (s := s) hs.2
  have hear := h.early
  have hjl : j < x.mail.length := (List.getElem?_eq_some_iff.1 hm).1
  have hel : (x.mail.eraseIdx j).length < 256 := by
    rw [List.length_eraseIdx_of_lt hjl]
    have := h.len
    omega
  obtain ⟨oA, on, oc, rfl, _, _⟩ := ho.parts
  obtain ⟨gA, gn, gc, rfl, HLg, hgs⟩ := hg.parts
  obtain ⟨eA, en, ec, rfl, HLe, hes⟩ := he.parts
  obtain ⟨pA, pc, mA, mn, mc, rfl, rfl, _, _, _⟩ := hnet.nam
  have HD : Hid (∀ W, Below w.heap.size w W → Calls Try.prog 18 #[.agg #[.slice pA 2 pc, .slice mA mn mc], .int .i64 (j : Int)] W (DvR x.p 1 0 (wrR 0 [rdN s]) (x.mail.eraseIdx j) W)) := fun W hW => dlv_ms n x j (.up s) _ _ _ _ _ W h hp hm (hnet.now hW)
  have HRead : Hid (∀ bA bn bc W, OwnB W 0 (.slice bA bn bc) (wrR 0 [rdN s]) → Calls Try.prog 21 #[.slice bA bn bc] W (fun e' w' => ∃ lg lc, e' = .returned (.tuple #[.slice (some ⟨lg, 0, none⟩) 1 lc, .int .i64 (bn : Int)]) ∧ (∀ i u, (Rd.cells (rdN s))[i]? = some u → w'.cell? ((⟨lg, 0, none⟩ : Addr).add i) = some u) ∧ lg < w'.heap.size ∧ Below W.heap.size W w')) := fun bA bn bc W hB => by
    obtain ⟨bA', bn', bc', e1, hbl, hc1, hc2, hbs⟩ := hB.nam
    injection e1 with e1 e2 e3
    subst e1 e2 e3
    have hal := up_len (s := s) (by omega)
    obtain ⟨lk, hlk⟩ := up_read (s := s) (by omega)
    have hbl' := hbl.out
    refine (Read_any bA bn bc _ _ _ lk W hbs (by omega) hc1 hc2 hlk).mono ?_
    rintro e w' ⟨v', rfl, hO, hb⟩
    have hO1 : w'.ownsRow W.heap.size 55 7 v' 1 (Rd.cells (rdN s)) := by simpa using OwnRd.row hO rfl
    obtain ⟨lA, lc, rfl, _, _, hr⟩ := own_open hO1
    rcases hO1.2 with ⟨_, h0⟩ | ⟨g, cap, cur, e4, hbg, hg, _⟩
    · cases h0
    · injection e4 with e4 e5 e6
      subst e4
      obtain ⟨ad, e7, hb2, hc⟩ := hr.2 (by omega)
      have e8 := Option.some.inj e7
      subst e8
      exact ⟨g, lc, by rw [hbl'], hc, hb2, hb⟩
  have HRecv : Hid (∀ W, Below w.heap.size w W → Calls Try.prog 22 #[.agg #[.int .i64 4, .int .i64 ((x.k : Int) + 1), .slice gA gn gc, .slice eA en ec], (rdN s).val] W (fun e w' => ∃ a b c a' b' c', e = .returned (.tuple #[.agg #[.int .i64 4, .int .i64 (((recvN s x.k x.early).1 : Int) + 1), .slice a b c, .slice a' b' c'], .int .i64 ((recvN s x.k x.early).1 : Int)]) ∧ OwnRd w' 0 (.slice a b c) (rdsN 1 (recvN s x.k x.early).1) ∧ OwnRd w' 0 (.slice a' b' c') ((recvN s x.k x.early).2.map rdN) ∧ Below W.heap.size W w')) := fun W hW => by
    have h1 := HLg.out
    have h2 := HLe.out
    rw [rdsN_len] at h1
    rw [List.length_map] at h2
    refine (recv_any n s x.k x.early gA gn gc eA en ec W (hgs.now hW) h1 (hes.now hW) h2 (by omega) hkn hn20).mono ?_
    rintro e w' ⟨vg, ve, rfl, k1, k2, k3⟩
    obtain ⟨a, b, c, rfl, _, _⟩ := k1.parts
    obtain ⟨a', b', c', rfl, _, _⟩ := k2.parts
    exact ⟨a, b, c, a', b', c', by rw [show (((recvN s x.k x.early).1 : Int) + 1 - 1) = ((recvN s x.k x.early).1 : Int) by omega], k1, k2, k3⟩
  have HPut : Hid (∀ g W, Blk W g 3 #[.int .i64 ((recvN s x.k x.early).1 : Int)] → Calls Try.prog 24 #[.slice none 0 0, .slice (some ⟨g, 0, none⟩) 1 1] W (fun e w' => ∃ a b c, e = .returned (.slice a b c) ∧ Bytes w' w'.heap.size a b (listP [((recvN s x.k x.early).1 : Int)]) ∧ Below W.heap.size W w')) := fun g W hB => by
    refine (plist_any none 0 0 [] (some ⟨g, 0, none⟩) 1 1 [((recvN s x.k x.early).1 : Int)] W ⟨rfl, by omega⟩ (by omega) (reads_blk (n := 1) (s := 1) hB rfl) (by omega) (fun z hz => by rw [List.mem_singleton] at hz; subst hz; simp [Lit.wf, IntKind.min, IntKind.max, IntKind.signed, IntKind.bits]; omega)).mono ?_
    rintro e w' ⟨v, rfl, hO, hb⟩
    obtain ⟨a, b, c, rfl, _, _, _, hby⟩ := hO.nam
    exact ⟨a, b, c, rfl, hby, hb⟩
  have HSend : Hid (∀ vp vm bA bn bc W, NetO W vp vm [0, x.p] ((x.mail.eraseIdx j).map ltN) → Bytes W W.heap.size bA bn (listP [((recvN s x.k x.early).1 : Int)]) → Calls Try.prog 23 #[.agg #[vp, vm], .int .i64 0, .int .i64 1, .slice bA bn bc] W (fun e w' => ∃ sA sn sc tA tn tc, e = .returned (.tuple #[.agg #[.slice sA sn sc, .slice tA tn tc], .int .i64 0]) ∧ NetO w' (.slice sA sn sc) (.slice tA tn tc) [0, x.p] ((x.mail.eraseIdx j ++ [Ms.ack (recvN s x.k x.early).1]).map ltN) ∧ Below W.heap.size W w')) := fun vp vm bA bn bc W hN hB => by
    refine (send_ms n n x.p (.ack (recvN s x.k x.early).1) (x.mail.eraseIdx j) vp vm bA bn bc W hn20 (Nat.le_refl _) (fun m' hm' => (h.inv.ms m' (List.mem_of_mem_eraseIdx hm')).mono hkn) hrec.2.1 (by omega) hN hB).mono ?_
    rintro e w' ⟨r, sA, sn, sc, tA, tn, tc, rfl, hb, hr⟩
    rw [stepS_lt hel] at hr
    rcases hr with ⟨rfl, hr⟩ | ⟨rfl, hr⟩
    · exact ⟨sA, sn, sc, tA, tn, tc, rfl, hr, hb⟩
    · have := congrArg List.length hr
      simp at this
  have HFin : Hid (∀ vp' vm' vg' ve' w', NetO w' vp' vm' [0, x.p] ((x.mail.eraseIdx j ++ [Ms.ack (recvN s x.k x.early).1]).map ltN) → OwnRd w' 0 vg' (rdsN 1 (recvN s x.k x.early).1) → OwnRd w' 0 ve' ((recvN s x.k x.early).2.map rdN) → Below w.heap.size w w' → LkR n (letN x (.up s) (x.mail.eraseIdx j)) w (.returned (.agg #[vp', vm', .int .i64 4, .int .i64 ((n : Int) + 1), .slice oA on oc, .int .i64 4, .int .i64 (((recvN s x.k x.early).1 : Int) + 1), vg', ve', .bool true])) w') := fun vp' vm' vg' ve' w' h1 h3 h4 h2 => ⟨_, rfl, ⟨_, _, _, _, _, rfl, h1, ho.now h2, h3, h4⟩, h2⟩
  generalize LkR n (letN x (.up s) (x.mail.eraseIdx j)) w = RR at *
  clear hnet ho hg he hgs hes HLg HLe hm hp h hear hjl hel hrec
  have hk20 : (recvN s x.k x.early).1 = (recvN s x.k x.early).1 := rfl
  generalize (recvN s x.k x.early).2.map rdN = erl at *
  generalize (recvN s x.k x.early).1 = kr at *
  generalize rdsN 1 kr = got at *
  generalize x.mail.eraseIdx j = left at *
  generalize (left ++ [Ms.ack kr]).map ltN = lts at *
  generalize x.p = p at *
  generalize listP [(kr : Int)] = lp at *
  obtain ⟨n1, hn1⟩ : ∃ n1, (n : Int) + 1 = n1 := ⟨_, rfl⟩
  obtain ⟨k1, hk1⟩ : ∃ k1, (x.k : Int) + 1 = k1 := ⟨_, rfl⟩
  obtain ⟨k2, hk2⟩ : ∃ k2, (kr : Int) + 1 = k2 := ⟨_, rfl⟩
  rw [hk1, hk2] at HRecv
  rw [hn1, hk2] at HFin
  rw [hn1, hk1]
  clear hn1 hk1 hk2 hkn hn20 hk20 hs
  generalize wrR 0 [rdN s] = lb at *
  generalize rdN s = q at *
  obtain ⟨gate, seq, ser, cnt, prod, lift, att⟩ := q
  go_enter Try.func7, Try.ntmps7
  go_upto_region 1 with (fail)
  have hwz : (w.alloc (Obj.cells #[Value.slice pA 2 pc, Value.slice mA mn mc, Value.int .i64 4, Value.int .i64 n1, Value.slice oA on oc, Value.int .i64 4, Value.int .i64 k1, Value.slice gA gn gc, Value.slice eA en ec, Value.bool true] 34)).heap.size = w.heap.size + 1 := by simp
  obtain ⟨w0, hw0⟩ : ∃ W, w.alloc (Obj.cells #[Value.slice pA 2 pc, Value.slice mA mn mc, Value.int .i64 4, Value.int .i64 n1, Value.slice oA on oc, Value.int .i64 4, Value.int .i64 k1, Value.slice gA gn gc, Value.slice eA en ec, Value.bool true] 34) = W := ⟨_, rfl⟩
  rw [hw0] at hwz ⊢
  have HX0 : Hid (Blk w0 w.heap.size 34 #[.slice pA 2 pc, .slice mA mn mc, .int .i64 4, .int .i64 n1, .slice oA on oc, .int .i64 4, .int .i64 k1, .slice gA gn gc, .slice eA en ec, .bool true]) := hide (by rw [← hw0]; exact Blk.new w _ _)
  have HB0 : Hid (Below w.heap.size w w0) := hide (by rw [← hw0]; exact below_new w _)
  obtain ⟨w1, hw1⟩ : ∃ W, w0.alloc (Obj.cells #[Value.slice none 0 0, Value.slice none 0 0, Value.int .i64 0, Value.int .i64 0, Value.slice none 0 0, Value.int .i64 0, Value.int .i64 0, Value.slice none 0 0, Value.slice none 0 0, Value.bool false] 34) = W := ⟨_, rfl⟩
  rw [hw1]
  have HY1 : Hid (Blk w1 (w.heap.size + 1) 34 #[.slice none 0 0, .slice none 0 0, .int .i64 0, .int .i64 0, .slice none 0 0, .int .i64 0, .int .i64 0, .slice none 0 0, .slice none 0 0, .bool false]) := hide (by rw [← hw1, ← hwz]; exact Blk.new w0 _ _)
  have hb1 : Below w0.heap.size w0 w1 := by rw [← hw1]; exact below_new w0 _
  have HX1 := Lib.hid (HX0.out.below hb1 (by omega))
  have HB1 := Lib.hid (HB0.out.trans (hb1.mono HB0.out.size))
  have hs1 : w.heap.size + 2 ≤ w1.heap.size := by have := HY1.out.lt; omega
  clear hw0 hw1 hb1 hwz HX0 HB0
  go_wp2_with (refine wpList_load_at 27 (.tmp 16) rfl rfl ⟨w.heap.size, 0, none⟩ rfl [.slice pA 2 pc, .slice mA mn mc] (HX1.out.part 0 _ rfl) _ Try.underlying27 rfl (by kernel_rfl) ?_)
  with_reducible refine (HD.out w1 HB1.out).mono ?_
  rintro e w2 ⟨sA, sc, tA, tn, tc, bA, bn, bc, rfl, hn2, hb2', hb2⟩
  have HB2 := Lib.hid (HB1.out.trans (hb2.mono HB1.out.size))
  have HX2 := Lib.hid (HX1.out.below hb2 (by omega))
  have HY2 := Lib.hid (HY1.out.below hb2 (by omega))
  have hs2 : w.heap.size + 2 ≤ w2.heap.size := Nat.le_trans hs1 hb2.size
  have HN2 := Lib.hid hn2
  have HBy2 := Lib.hid hb2'
  clear hb2 hn2 hb2' HX1 HY1 HB1 HD hs1
  go_upto_region 2 with (fail)
  have HBw3 := (Blk.new w2 27 #[.slice sA 2 sc, .slice tA tn tc])
  have HLw3 := (below_new w2 (.cells #[.slice sA 2 sc, .slice tA tn tc] 27))
  have hsw3 : (w2.alloc (.cells #[.slice sA 2 sc, .slice tA tn tc] 27)).heap.size = w2.heap.size + 1 := by simp
  generalize w2.alloc (.cells #[.slice sA 2 sc, .slice tA tn tc] 27) = w3 at HBw3 HLw3 hsw3 ⊢
  replace HBw3 := Lib.hid HBw3
  replace HLw3 := Lib.hid HLw3
  have hlw3 : w2.heap.size < w3.heap.size := by omega
  replace hsw3 := Lib.hid hsw3
  have HBw4 := (Blk.new w3 58 #[.int .i64 1, .int .i64 0, .slice bA bn bc])
  have HLw4 := (below_new w3 (.cells #[.int .i64 1, .int .i64 0, .slice bA bn bc] 58))
  have hsw4 : (w3.alloc (.cells #[.int .i64 1, .int .i64 0, .slice bA bn bc] 58)).heap.size = w3.heap.size + 1 := by simp
  generalize w3.alloc (.cells #[.int .i64 1, .int .i64 0, .slice bA bn bc] 58) = w4 at HBw4 HLw4 hsw4 ⊢
  replace HBw4 := Lib.hid HBw4
  replace HLw4 := Lib.hid HLw4
  have hlw4 : w3.heap.size < w4.heap.size := by omega
  replace hsw4 := Lib.hid hsw4
  have HL4 : Hid (Below w2.heap.size w2 w4) := hide (HLw3.out.trans (HLw4.out.mono HLw3.out.size))
  have HX4 := Lib.hid (HX2.out.below HL4.out (by omega))
  have HY4 := Lib.hid (HY2.out.below HL4.out (by omega))
  have HN4 := Lib.hid (HN2.out.now HL4.out)
  have HBy4 : Hid (OwnB w4 0 (.slice bA bn bc) lb) := hide (own_below HBy2.out HL4.out (Nat.le_refl _))
  have HB4 : Hid (Below w.heap.size w w4) := hide (HB2.out.trans (HL4.out.mono HB2.out.size))
  have HE4 : Hid (Blk w4 w2.heap.size 27 #[.slice sA 2 sc, .slice tA tn tc]) := hide (HBw3.out.below HLw4.out hlw3)
  have HM4 : Hid (Blk w4 (w2.heap.size + 1) 58 #[.int .i64 1, .int .i64 0, .slice bA bn bc]) := hide (by rw [← hsw3.out]; exact HBw4.out)
  have hs4 : w.heap.size + 2 ≤ w4.heap.size := by omega
  clear HX2 HY2 HB2 HN2 HBy2 HL4 HLw3 HLw4 HBw3 HBw4 hsw3 hsw4
  go_wp2_with
    (first
     | (refine wpList_load_blk rfl 27 (.tmp 5) rfl w2.heap.size rfl _ _ HE4.out _ Try.underlying27 rfl (by kernel_rfl) ?_)
     | (refine wpList_store_part 27 (.tmp 27) (.tmp 26) rfl rfl w.heap.size 0 #[.slice sA 2 sc, .slice tA tn tc] rfl rfl 34 _ HX4.out (by kernel_rfl) (by simp) (by simp [Value.oneCell']) #[.slice sA 2 sc, .slice tA tn tc, .int .i64 4, .int .i64 n1, .slice oA on oc, .int .i64 4, .int .i64 k1, .slice gA gn gc, .slice eA en ec, .bool true] rfl ?_
        intro w5 hx5 hon5
        have HX5 := Lib.hid hx5
        have HY5 := Lib.hid (hon5.blk HY4.out (by omega))
        have HM5 := Lib.hid (hon5.blk HM4.out (by omega))
        have HE5 := Lib.hid (hon5.blk HE4.out (by omega))
        have hs5' : w2.heap.size + 2 ≤ w5.heap.size := by rw [hon5.size]; omega
        have HN5 := Lib.hid (HN4.out.onlyT hon5 HX4.out (by decide) (by decide) (by decide))
        have HBy5 : Hid (OwnB w5 0 (.slice bA bn bc) lb) := hide (hon5.own HBy4.out (row_blk HBy4.out HX4.out (by decide)))
        have HB5 : Hid (Below w.heap.size w w5) := hide (hon5.below HB4.out (Nat.le_refl _))
        have hs5 : w.heap.size + 2 ≤ w5.heap.size := by rw [hon5.size]; exact hs4
        have m1 : w5.cell? ⟨w2.heap.size + 1, 1, none⟩ = some (.int .i64 0) := HM5.out.cell 1
        have m2 : w5.cell? ⟨w2.heap.size + 1, 2, none⟩ = some (.slice bA bn bc) := HM5.out.cell 2
        clear hx5 hon5))
  with_reducible refine (HRead.out bA bn bc w5 HBy5.out).mono ?_
  rintro e w6 ⟨lg, lc, rfl, hcl, hlg, hb6⟩
  have HX6 := Lib.hid (HX5.out.below hb6 (by omega))
  have HY6 := Lib.hid (HY5.out.below hb6 (by omega))
  have HE6 := Lib.hid (HE5.out.below hb6 (by omega))
  have HM6 := Lib.hid (HM5.out.below hb6 (by omega))
  have HN6 := Lib.hid (HN5.out.now hb6)
  have HB6 : Hid (Below w.heap.size w w6) := hide (HB5.out.trans (hb6.mono HB5.out.size))
  have hs6 : w2.heap.size + 2 ≤ w6.heap.size := Nat.le_trans hs5' hb6.size
  have HC6 : Hid (∀ i u, ([.int .i64 gate, .int .i64 seq, .int .i64 ser, .int .i64 cnt, .int .i64 prod, .int .i64 lift, .int .i64 att] : List Value)[i]? = some u → w6.cell? ((⟨lg, 0, none⟩ : Addr).add i) = some u) := hide hcl
  have m2 : w6.cell? ⟨w2.heap.size + 1, 2, none⟩ = some (.slice bA bn bc) := HM6.out.cell 2
  clear hb6 hcl HX5 HY5 HN5 HB5 HBy5 HM5 HE5 m1 HRead HX4 HY4 HN4 HBy4 HB4 HE4 HM4 hs5 hs5'
  go_upto_region 16 with (fail)
  clear m2 HM6
  go_cut [13, 14] (fun s t wx => ∃ (gi : Nat) (ga : Option Addr) (gb gd : Nat) (ea : Option Addr) (eb ed : Nat), s = .pointer (some ⟨gi, 0, none⟩) ∧ t = .int .i64 (kr : Int) ∧ gi ≠ w.heap.size ∧ Blk wx w.heap.size 34 #[.slice sA 2 sc, .slice tA tn tc, .int .i64 4, .int .i64 n1, .slice oA on oc, .int .i64 4, .int .i64 k1, .slice gA gn gc, .slice eA en ec, .bool true] ∧ Blk wx (w.heap.size + 1) 34 #[.slice none 0 0, .slice none 0 0, .int .i64 0, .int .i64 0, .slice none 0 0, .int .i64 0, .int .i64 0, .slice none 0 0, .slice none 0 0, .bool false] ∧ Blk wx w2.heap.size 27 #[.slice sA 2 sc, .slice tA tn tc] ∧ Blk wx gi 32 #[.int .i64 4, .int .i64 k2, .slice ga gb gd, .slice ea eb ed] ∧ NetO wx (.slice sA 2 sc) (.slice tA tn tc) [0, p] (left.map ltN) ∧ OwnRd wx 0 (.slice ga gb gd) got ∧ OwnRd wx 0 (.slice ea eb ed) erl ∧ Below w.heap.size w wx ∧ w2.heap.size + 2 ≤ wx.heap.size)
  case first =>
    have hS : Blk w6.drew w.heap.size 34 #[.slice sA 2 sc, .slice tA tn tc, .int .i64 4, .int .i64 n1, .slice oA on oc, .int .i64 4, .int .i64 k1, .slice gA gn gc, .slice eA en ec, .bool true] ∧ (∀ i u, ([.int .i64 gate, .int .i64 seq, .int .i64 ser, .int .i64 cnt, .int .i64 prod, .int .i64 lift, .int .i64 att] : List Value)[i]? = some u → w6.drew.cell? ((⟨lg, 0, none⟩ : Addr).add i) = some u) := ⟨HX6.out, HC6.out⟩
    have HY6d : Hid (Blk w6.drew (w.heap.size + 1) 34 _) := HY6
    have HE6d : Hid (Blk w6.drew w2.heap.size 27 #[.slice sA 2 sc, .slice tA tn tc]) := HE6
    have HN6d : Hid (NetO w6.drew (.slice sA 2 sc) (.slice tA tn tc) [0, p] (left.map ltN)) := HN6
    have HB6d : Hid (Below w.heap.size w w6.drew) := hide HB6.out.drew
    have hs6d : w2.heap.size + 2 ≤ w6.drew.heap.size := hs6
    have hlgd : lg < w6.drew.heap.size := hlg
    clear HX6 HY6 HE6 HN6 HB6 hs6 hlg HC6
    refine wp_region_held_drew (S := fun W => Blk W w.heap.size 34 #[.slice sA 2 sc, .slice tA tn tc, .int .i64 4, .int .i64 n1, .slice oA on oc, .int .i64 4, .int .i64 k1, .slice gA gn gc, .slice eA en ec, .bool true] ∧ (∀ i u, ([.int .i64 gate, .int .i64 seq, .int .i64 ser, .int .i64 cnt, .int .i64 prod, .int .i64 lift, .int .i64 att] : List Value)[i]? = some u → W.cell? ((⟨lg, 0, none⟩ : Addr).add i) = some u)) (by kernel_rfl) (hS) (fun hHeld => ?_)
    refine held_run 0 (some 74) (.fieldAddr 34 (.tmp 2) 2) ?v16_1_2 (by rfl) (by kernel_rfl) (by kernel_rfl) (by kernel_rfl) (fun _ _ _ h => h) (fun o ho w hS => ?y16_1_2) (by assumption) ?r16_1_2
    case y16_1_2 => (try dsimp only at hS); unfold execOp; simp only [ho]; go_simp; try with_reducible rfl
    try simp only [Act.put, List.setIfInBounds_toArray, List.set_cons_zero, List.set_cons_succ]
    refine held_load_at 1 (some 75) 32 (.tmp 74) (by rfl) (by kernel_rfl) (by kernel_rfl) (by kernel_rfl) ((⟨w.heap.size, 5, none⟩ : Addr)) ([.int .i64 4, .int .i64 k1, .slice gA gn gc, .slice eA en ec] : List Value) (fun _ _ _ h => h) (by rfl) (fun _ h => h.1.part 5 _ rfl) _ Try.underlying32 rfl (by kernel_rfl) (by assumption) ?_
    try simp only [Act.put, List.setIfInBounds_toArray, List.set_cons_zero, List.set_cons_succ]
    refine held_run 2 (some 76) (.move (.tmp 11)) ?v16_1_4 (by rfl) (by kernel_rfl) (by kernel_rfl) (by kernel_rfl) (fun _ _ _ h => h) (fun o ho w hS => ?y16_1_4) (by assumption) ?r16_1_4
    case y16_1_4 => (try dsimp only at hS); unfold execOp; simp only [ho]; go_simp; try with_reducible rfl
    try simp only [Act.put, List.setIfInBounds_toArray, List.set_cons_zero, List.set_cons_succ]
    refine held_run 3 (some 77) (.indexAddr 28 (.tmp 76) (.const (.int .i64 0))) ?v16_1_5 (by rfl) (by kernel_rfl) (by kernel_rfl) (by kernel_rfl) (fun _ _ _ h => h) (fun o ho w hS => ?y16_1_5) (by assumption) ?r16_1_5
    case y16_1_5 => (try dsimp only at hS); unfold execOp; simp only [ho]; go_simp; try with_reducible rfl
    try simp only [Act.put, List.setIfInBounds_toArray, List.set_cons_zero, List.set_cons_succ]
    refine held_load_at 4 (some 78) 55 (.tmp 77) (by rfl) (by kernel_rfl) (by kernel_rfl) (by kernel_rfl) ((⟨lg, 0, none⟩ : Addr)) ([.int .i64 gate, .int .i64 seq, .int .i64 ser, .int .i64 cnt, .int .i64 prod, .int .i64 lift, .int .i64 att] : List Value) (fun _ _ _ h => h) (by rfl) (fun _ h => h.2) _ Try.underlying55 rfl (by kernel_rfl) (by assumption) ?_
    try simp only [Act.put, List.setIfInBounds_toArray, List.set_cons_zero, List.set_cons_succ]
    refine held_two 5 9 (by kernel_rfl) ?_ ?_
    · refine op_call 5 (some 79) 22 [(.tmp 75), (.tmp 78)] #[32, 55] #[.agg #[.int .i64 4, .int .i64 k1, .slice gA gn gc, .slice eA en ec], .agg #[.int .i64 gate, .int .i64 seq, .int .i64 ser, .int .i64 cnt, .int .i64 prod, .int .i64 lift, .int .i64 att]] (by rfl) (by rfl) Try.func22 (by rfl) (by rfl) ?_
      refine (HRecv.out _ HB6d.out).mono ?_
      rintro e w7 ⟨ga, gb, gd, ea, eb, ed, rfl, hg7, he7, hb7⟩
      have HY7 := Lib.hid (HY6d.out.below hb7 (by omega))
      have HE7 := Lib.hid (HE6d.out.below hb7 (by omega))
      have HN7 := Lib.hid (HN6d.out.now hb7)
      have HB7 : Hid (Below w.heap.size w w7) := hide (HB6d.out.trans (hb7.mono HB6d.out.size))
      have hs7 : w2.heap.size + 2 ≤ w7.heap.size := Nat.le_trans hs6d hb7.size
      have hHk : Blk w7 w.heap.size 34 #[.slice sA 2 sc, .slice tA tn tc, .int .i64 4, .int .i64 n1, .slice oA on oc, .int .i64 4, .int .i64 k1, .slice gA gn gc, .slice eA en ec, .bool true] ∧ (∀ i u, ([.int .i64 gate, .int .i64 seq, .int .i64 ser, .int .i64 cnt, .int .i64 prod, .int .i64 lift, .int .i64 att] : List Value)[i]? = some u → w7.cell? ((⟨lg, 0, none⟩ : Addr).add i) = some u) := ⟨hS.1.below hb7 (by omega), fun i u hu => (hb7.cell (by rw [block_of_add]; exact hlgd)).trans (hS.2 i u hu)⟩
      have HG7 := Lib.hid hg7
      have HF7 := Lib.hid he7
      have hlg7 : lg < w7.heap.size := Nat.lt_of_lt_of_le hlgd hb7.size
      have hlgz : lg ≠ w7.heap.size := Nat.ne_of_lt hlg7
      clear hb7 hg7 he7
      refine ⟨_, rfl, hHk, ?_⟩
      try simp only [Act.put, List.setIfInBounds_toArray, List.set_cons_zero, List.set_cons_succ]
      refine held_run 6 (some 73) (.move (.tmp 79)) ?v16_1_8 (by rfl) (by kernel_rfl) (by kernel_rfl) (by kernel_rfl) (fun _ _ _ h => h) (fun o ho w hS => ?y16_1_8) (by assumption) ?r16_1_8
      case y16_1_8 => (try dsimp only at hS); unfold execOp; simp only [ho]; go_simp; try with_reducible rfl
      try simp only [Act.put, List.setIfInBounds_toArray, List.set_cons_zero, List.set_cons_succ]
      refine held_run 7 (some 80) (.extract (.tmp 73) 0) ?v16_1_9 (by rfl) (by kernel_rfl) (by kernel_rfl) (by kernel_rfl) (fun _ _ _ h => h) (fun o ho w hS => ?y16_1_9) (by assumption) ?r16_1_9
      case y16_1_9 => (try dsimp only at hS); unfold execOp; simp only [ho]; go_simp; try with_reducible rfl
      try simp only [Act.put, List.setIfInBounds_toArray, List.set_cons_zero, List.set_cons_succ]
      refine held_run 8 (some 81) (.extract (.tmp 73) 1) ?v16_1_10 (by rfl) (by kernel_rfl) (by kernel_rfl) (by kernel_rfl) (fun _ _ _ h => h) (fun o ho w hS => ?y16_1_10) (by assumption) ?r16_1_10
      case y16_1_10 => (try dsimp only at hS); unfold execOp; simp only [ho]; go_simp; try with_reducible rfl
      try simp only [Act.put, List.setIfInBounds_toArray, List.set_cons_zero, List.set_cons_succ]
      refine held_one 9 (by kernel_rfl) ?_
      refine op_alloc 9 (some 13) 32 #[.int .i64 0, .int .i64 0, .slice none 0 0, .slice none 0 0] (by rfl) (by kernel_rfl) ?_
      intro w8 hx8 hb8
      have HZ8 := Lib.hid hx8
      have HY8 := Lib.hid (HY7.out.below hb8 (by omega))
      have HE8 := Lib.hid (HE7.out.below hb8 (by omega))
      have HN8 := Lib.hid (HN7.out.now hb8)
      have HG8 := Lib.hid (HG7.out.now hb8)
      have HF8 := Lib.hid (HF7.out.now hb8)
      have HB8 : Hid (Below w.heap.size w w8) := hide (HB7.out.trans (hb8.mono HB7.out.size))
      have hH8 : Blk w8 w.heap.size 34 #[.slice sA 2 sc, .slice tA tn tc, .int .i64 4, .int .i64 n1, .slice oA on oc, .int .i64 4, .int .i64 k1, .slice gA gn gc, .slice eA en ec, .bool true] ∧ (∀ i u, ([.int .i64 gate, .int .i64 seq, .int .i64 ser, .int .i64 cnt, .int .i64 prod, .int .i64 lift, .int .i64 att] : List Value)[i]? = some u → w8.cell? ((⟨lg, 0, none⟩ : Addr).add i) = some u) := ⟨hHk.1.below hb8 (by omega), fun i u hu => (hb8.cell (by rw [block_of_add]; exact hlg7)).trans (hHk.2 i u hu)⟩
      have hs8 : w2.heap.size + 2 ≤ w8.heap.size := Nat.le_trans hs7 hb8.size
      clear hb8 hx8
      refine ⟨hH8, ?_⟩
      try simp only [Act.put, List.setIfInBounds_toArray, List.set_cons_zero, List.set_cons_succ]
      refine held_one 10 (by kernel_rfl) ?_
      refine op_store_blk 10 32 (.tmp 13) (.tmp 80) (by rfl) (w7.heap.size) #[.int .i64 4, .int .i64 k2, .slice ga gb gd, .slice ea eb ed] rfl rfl _ _ (HZ8.out) (by kernel_rfl) rfl (by simp [Value.oneCell']) ?_
      intro w9 hx9 hon9
      have HZ9 := Lib.hid hx9
      have HY9 := Lib.hid (hon9.blk HY8.out (by omega))
      have HE9 := Lib.hid (hon9.blk HE8.out (by omega))
      have HN9 := Lib.hid (HN8.out.onlyT hon9 HZ8.out (by decide) (by decide) (by decide))
      have HG9 := Lib.hid (HG8.out.onlyT hon9 HZ8.out (by decide))
      have HF9 := Lib.hid (HF8.out.onlyT hon9 HZ8.out (by decide))
      have HB9 : Hid (Below w.heap.size w w9) := hide (hon9.below HB8.out (by omega))
      have hs9 : w2.heap.size + 2 ≤ w9.heap.size := by rw [hon9.size]; exact hs8
      have hH9 : Blk w9 w.heap.size 34 #[.slice sA 2 sc, .slice tA tn tc, .int .i64 4, .int .i64 n1, .slice oA on oc, .int .i64 4, .int .i64 k1, .slice gA gn gc, .slice eA en ec, .bool true] ∧ (∀ i u, ([.int .i64 gate, .int .i64 seq, .int .i64 ser, .int .i64 cnt, .int .i64 prod, .int .i64 lift, .int .i64 att] : List Value)[i]? = some u → w9.cell? ((⟨lg, 0, none⟩ : Addr).add i) = some u) := ⟨hon9.blk hH8.1 (by omega), fun i u hu => (hon9.cell (by rw [block_of_add]; exact hlgz)).trans (hH8.2 i u hu)⟩
      clear hx9 hon9
      refine ⟨hH9, ?_⟩
      try simp only [Act.put]
      refine held_run 11 (some 14) (.assign (.tmp 81)) ?v16_1_13 (by rfl) (by kernel_rfl) (by kernel_rfl) (by kernel_rfl) (fun _ _ _ h => h) (fun o ho w hS => ?y16_1_13) (by assumption) ?r16_1_13
      case y16_1_13 => (try dsimp only at hS); unfold execOp; simp only [ho]; go_simp; try with_reducible rfl
      try simp only [Act.put, List.setIfInBounds_toArray, List.set_cons_zero, List.set_cons_succ]
      refine wpAnyH_done (by kernel_rfl) ?_ _
      go_wp2_with fail
      go_meet
      case rel => exact ⟨_, ga, gb, gd, ea, eb, ed, rfl, rfl, (by omega), hH9.1, HY9.out, HE9.out, HZ9.out, HN9.out, HG9.out, HF9.out, HB9.out, hs9⟩
    · refine op_alloc 9 (some 13) 32 #[.int .i64 0, .int .i64 0, .slice none 0 0, .slice none 0 0] (by rfl) (by kernel_rfl) ?_
      intro w7 hx7 hb7
      have HZ7 := Lib.hid hx7
      have hlz : w6.drew.heap.size < w7.heap.size := hx7.lt
      have HY7 := Lib.hid (HY6d.out.below hb7 (by omega))
      have HE7 := Lib.hid (HE6d.out.below hb7 (by omega))
      have HN7 := Lib.hid (HN6d.out.now hb7)
      have HB7 : Hid (Below w.heap.size w w7) := hide (HB6d.out.trans (hb7.mono HB6d.out.size))
      have hs7 : w2.heap.size + 2 ≤ w7.heap.size := Nat.le_trans hs6d hb7.size
      have hHk : Blk w7 w.heap.size 34 #[.slice sA 2 sc, .slice tA tn tc, .int .i64 4, .int .i64 n1, .slice oA on oc, .int .i64 4, .int .i64 k1, .slice gA gn gc, .slice eA en ec, .bool true] ∧ (∀ i u, ([.int .i64 gate, .int .i64 seq, .int .i64 ser, .int .i64 cnt, .int .i64 prod, .int .i64 lift, .int .i64 att] : List Value)[i]? = some u → w7.cell? ((⟨lg, 0, none⟩ : Addr).add i) = some u) := ⟨hS.1.below hb7 (by omega), fun i u hu => (hb7.cell (by rw [block_of_add]; exact hlgd)).trans (hS.2 i u hu)⟩
      have hlg7 : lg < w7.heap.size := Nat.lt_of_lt_of_le hlgd hb7.size
      have hlgz : lg ≠ w6.drew.heap.size := Nat.ne_of_lt hlgd
      clear hb7 hx7
      refine ⟨hHk, ?_⟩
      try simp only [Act.put, List.setIfInBounds_toArray, List.set_cons_zero, List.set_cons_succ]
      refine held_call 5 (some 79) 22 [(.tmp 75), (.tmp 78)] #[32, 55] #[.agg #[.int .i64 4, .int .i64 k1, .slice gA gn gc, .slice eA en ec], .agg #[.int .i64 gate, .int .i64 seq, .int .i64 ser, .int .i64 cnt, .int .i64 prod, .int .i64 lift, .int .i64 att]] (by rfl) (by rfl) (by kernel_rfl) Try.func22 (by rfl) (by rfl) ?_
      refine (HRecv.out _ HB7.out).mono ?_
      rintro e w8 ⟨ga, gb, gd, ea, eb, ed, rfl, hg8, he8, hb8⟩
      have HZ8 := Lib.hid (HZ7.out.below hb8 hlz)
      have HY8 := Lib.hid (HY7.out.below hb8 (by omega))
      have HE8 := Lib.hid (HE7.out.below hb8 (by omega))
      have HN8 := Lib.hid (HN7.out.now hb8)
      have HB8 : Hid (Below w.heap.size w w8) := hide (HB7.out.trans (hb8.mono HB7.out.size))
      have hs8 : w2.heap.size + 2 ≤ w8.heap.size := Nat.le_trans hs7 hb8.size
      have hH8 : Blk w8 w.heap.size 34 #[.slice sA 2 sc, .slice tA tn tc, .int .i64 4, .int .i64 n1, .slice oA on oc, .int .i64 4, .int .i64 k1, .slice gA gn gc, .slice eA en ec, .bool true] ∧ (∀ i u, ([.int .i64 gate, .int .i64 seq, .int .i64 ser, .int .i64 cnt, .int .i64 prod, .int .i64 lift, .int .i64 att] : List Value)[i]? = some u → w8.cell? ((⟨lg, 0, none⟩ : Addr).add i) = some u) := ⟨hHk.1.below hb8 (by omega), fun i u hu => (hb8.cell (by rw [block_of_add]; exact hlg7)).trans (hHk.2 i u hu)⟩
      have HG8 := Lib.hid hg8
      have HF8 := Lib.hid he8
      clear hb8 hg8 he8
      refine ⟨_, rfl, hH8, ?_⟩
      try simp only [Act.put, List.setIfInBounds_toArray, List.set_cons_zero, List.set_cons_succ]
      refine held_run 6 (some 73) (.move (.tmp 79)) ?v16_1_16 (by rfl) (by kernel_rfl) (by kernel_rfl) (by kernel_rfl) (fun _ _ _ h => h) (fun o ho w hS => ?y16_1_16) (by assumption) ?r16_1_16
      case y16_1_16 => (try dsimp only at hS); unfold execOp; simp only [ho]; go_simp; try with_reducible rfl
      try simp only [Act.put, List.setIfInBounds_toArray, List.set_cons_zero, List.set_cons_succ]
      refine held_run 7 (some 80) (.extract (.tmp 73) 0) ?v16_1_17 (by rfl) (by kernel_rfl) (by kernel_rfl) (by kernel_rfl) (fun _ _ _ h => h) (fun o ho w hS => ?y16_1_17) (by assumption) ?r16_1_17
      case y16_1_17 => (try dsimp only at hS); unfold execOp; simp only [ho]; go_simp; try with_reducible rfl
      try simp only [Act.put, List.setIfInBounds_toArray, List.set_cons_zero, List.set_cons_succ]
      refine held_run 8 (some 81) (.extract (.tmp 73) 1) ?v16_1_18 (by rfl) (by kernel_rfl) (by kernel_rfl) (by kernel_rfl) (fun _ _ _ h => h) (fun o ho w hS => ?y16_1_18) (by assumption) ?r16_1_18
      case y16_1_18 => (try dsimp only at hS); unfold execOp; simp only [ho]; go_simp; try with_reducible rfl
      try simp only [Act.put, List.setIfInBounds_toArray, List.set_cons_zero, List.set_cons_succ]
      refine held_one 10 (by kernel_rfl) ?_
      refine op_store_blk 10 32 (.tmp 13) (.tmp 80) (by rfl) (w6.drew.heap.size) #[.int .i64 4, .int .i64 k2, .slice ga gb gd, .slice ea eb ed] rfl rfl _ _ (HZ8.out) (by kernel_rfl) rfl (by simp [Value.oneCell']) ?_
      intro w9 hx9 hon9
      have HZ9 := Lib.hid hx9
      have HY9 := Lib.hid (hon9.blk HY8.out (by omega))
      have HE9 := Lib.hid (hon9.blk HE8.out (by omega))
      have HN9 := Lib.hid (HN8.out.onlyT hon9 HZ8.out (by decide) (by decide) (by decide))
      have HG9 := Lib.hid (HG8.out.onlyT hon9 HZ8.out (by decide))
      have HF9 := Lib.hid (HF8.out.onlyT hon9 HZ8.out (by decide))
      have HB9 : Hid (Below w.heap.size w w9) := hide (hon9.below HB8.out (by omega))
      have hs9 : w2.heap.size + 2 ≤ w9.heap.size := by rw [hon9.size]; exact hs8
      have hH9 : Blk w9 w.heap.size 34 #[.slice sA 2 sc, .slice tA tn tc, .int .i64 4, .int .i64 n1, .slice oA on oc, .int .i64 4, .int .i64 k1, .slice gA gn gc, .slice eA en ec, .bool true] ∧ (∀ i u, ([.int .i64 gate, .int .i64 seq, .int .i64 ser, .int .i64 cnt, .int .i64 prod, .int .i64 lift, .int .i64 att] : List Value)[i]? = some u → w9.cell? ((⟨lg, 0, none⟩ : Addr).add i) = some u) := ⟨hon9.blk hH8.1 (by omega), fun i u hu => (hon9.cell (by rw [block_of_add]; exact hlgz)).trans (hH8.2 i u hu)⟩
      clear hx9 hon9
      refine ⟨hH9, ?_⟩
      try simp only [Act.put]
      refine held_run 11 (some 14) (.assign (.tmp 81)) ?v16_1_20 (by rfl) (by kernel_rfl) (by kernel_rfl) (by kernel_rfl) (fun _ _ _ h => h) (fun o ho w hS => ?y16_1_20) (by assumption) ?r16_1_20
      case y16_1_20 => (try dsimp only at hS); unfold execOp; simp only [ho]; go_simp; try with_reducible rfl
      try simp only [Act.put, List.setIfInBounds_toArray, List.set_cons_zero, List.set_cons_succ]
      refine wpAnyH_done (by kernel_rfl) ?_ _
      go_wp2_with fail
      go_meet
      case rel => exact ⟨_, ga, gb, gd, ea, eb, ed, rfl, rfl, (by omega), hH9.1, HY9.out, HE9.out, HZ9.out, HN9.out, HG9.out, HF9.out, HB9.out, hs9⟩
  obtain ⟨gi, ga, gb, gd, ea, eb, ed, rfl, rfl, hgi, hX9, hY9, hE9, hZ9, hN9, hG9, hF9, hB9, hs9⟩ := hcut
  obtain ⟨w9, rfl⟩ : ∃ W : World, W = wc := ⟨_, rfl⟩
  have HX9 := Lib.hid hX9
  have HY9 := Lib.hid hY9
  have HE9 := Lib.hid hE9
  have HZ9 := Lib.hid hZ9
  have HN9 := Lib.hid hN9
  have HG9 := Lib.hid hG9
  have HF9 := Lib.hid hF9
  have HB9 := Lib.hid hB9
  clear hX9 hY9 hE9 hZ9 hN9 hG9 hF9 hB9 HRecv
  go_upto_region 18 with
    (first
     | (refine wpList_load_blk rfl 32 (.tmp 13) rfl gi rfl _ _ HZ9.out _ Try.underlying32 rfl (by kernel_rfl) ?_)
     | (refine wpList_store_part 32 (.tmp 83) (.tmp 82) rfl rfl w.heap.size 5 #[.int .i64 4, .int .i64 k2, .slice ga gb gd, .slice ea eb ed] rfl rfl 34 _ HX9.out (by kernel_rfl) (by simp) (by simp [Value.oneCell']) #[.slice sA 2 sc, .slice tA tn tc, .int .i64 4, .int .i64 n1, .slice oA on oc, .int .i64 4, .int .i64 k2, .slice ga gb gd, .slice ea eb ed, .bool true] rfl ?_
        intro w10 hx10 hon10
        have HX10 := Lib.hid hx10
        have HY10 := Lib.hid (hon10.blk HY9.out (by omega))
        have HE10 := Lib.hid (hon10.blk HE9.out (by omega))
        have HN10 := Lib.hid (HN9.out.onlyT hon10 HX9.out (by decide) (by decide) (by decide))
        have HG10 := Lib.hid (HG9.out.onlyT hon10 HX9.out (by decide))
        have HF10 := Lib.hid (HF9.out.onlyT hon10 HX9.out (by decide))
        have HB10 : Hid (Below w.heap.size w w10) := hide (hon10.below HB9.out (Nat.le_refl _))
        have hs10 : w2.heap.size + 2 ≤ w10.heap.size := by rw [hon10.size]; exact hs9
        clear hx10 hon10))
  clear HX9 HY9 HE9 HN9 HG9 HF9 HB9 HZ9 hs9
  have hS : Blk w10.drew w.heap.size 34 #[.slice sA 2 sc, .slice tA tn tc, .int .i64 4, .int .i64 n1, .slice oA on oc, .int .i64 4, .int .i64 k2, .slice ga gb gd, .slice ea eb ed, .bool true] := HX10.out
  have HY10d : Hid (Blk w10.drew (w.heap.size + 1) 34 _) := HY10
  have HE10d : Hid (Blk w10.drew w2.heap.size 27 #[.slice sA 2 sc, .slice tA tn tc]) := HE10
  have HN10d : Hid (NetO w10.drew (.slice sA 2 sc) (.slice tA tn tc) [0, p] (left.map ltN)) := HN10
  have HG10d : Hid (OwnRd w10.drew 0 (.slice ga gb gd) got) := HG10
  have HF10d : Hid (OwnRd w10.drew 0 (.slice ea eb ed) erl) := HF10
  have HB10d : Hid (Below w.heap.size w w10.drew) := hide HB10.out.drew
  have hs10d : w2.heap.size + 2 ≤ w10.drew.heap.size := hs10
  clear HX10 HY10 HE10 HN10 HG10 HF10 HB10 hs10
  refine wp_region_held_drew (S := fun W => Blk W w.heap.size 34 #[.slice sA 2 sc, .slice tA tn tc, .int .i64 4, .int .i64 n1, .slice oA on oc, .int .i64 4, .int .i64 k2, .slice ga gb gd, .slice ea eb ed, .bool true]) (by kernel_rfl) (hS) (fun hHeld => ?_)
  refine held_run 0 (some 85) (.fieldAddr 34 (.tmp 2) 0) ?v18_21_22 (by rfl) (by kernel_rfl) (by kernel_rfl) (by kernel_rfl) (fun _ _ _ h => h) (fun o ho w hS => ?y18_21_22) (by assumption) ?r18_21_22
  case y18_21_22 => (try dsimp only at hS); unfold execOp; simp only [ho]; go_simp; try with_reducible rfl
  try simp only [Act.put, List.setIfInBounds_toArray, List.set_cons_zero, List.set_cons_succ]
  refine held_load_at 1 (some 86) 27 (.tmp 85) (by rfl) (by kernel_rfl) (by kernel_rfl) (by kernel_rfl) ((⟨w.heap.size, 0, none⟩ : Addr)) ([.slice sA 2 sc, .slice tA tn tc] : List Value) (fun _ _ _ h => h) (by rfl) (fun _ h => h.part 0 _ rfl) _ Try.underlying27 rfl (by kernel_rfl) (by assumption) ?_
  try simp only [Act.put, List.setIfInBounds_toArray, List.set_cons_zero, List.set_cons_succ]
  refine held_run 2 (some 87) (.move (.tmp 14)) ?v18_21_24 (by rfl) (by kernel_rfl) (by kernel_rfl) (by kernel_rfl) (fun _ _ _ h => h) (fun o ho w hS => ?y18_21_24) (by assumption) ?r18_21_24
  case y18_21_24 => (try dsimp only at hS); unfold execOp; simp only [ho]; go_simp; try with_reducible rfl
  try simp only [Act.put, List.setIfInBounds_toArray, List.set_cons_zero, List.set_cons_succ]
  refine held_one 3 (by kernel_rfl) ?_
  refine op_lit 3 (some 88) 24 3 1 #[(0, .tmp 87)] #[.int .i64 (kr : Int)] (by rfl) (by simp only [List.map_toArray, List.map_cons, List.map_nil]; exact run_lit11 (P := Try.prog) (w10.drew) 24 3 .i64 (kr : Int) Try.underlying24 (by kernel_rfl)) ?_
  intro w11 hx hb heq
  have HZ11 := Lib.hid hx
  have HY11 := Lib.hid (HY10d.out.below hb (by omega))
  have HE11 := Lib.hid (HE10d.out.below hb (by omega))
  have HN11 := Lib.hid (HN10d.out.now hb)
  have HG11 := Lib.hid (HG10d.out.now hb)
  have HF11 := Lib.hid (HF10d.out.now hb)
  have HB11 : Hid (Below w.heap.size w w11) := hide (HB10d.out.trans (hb.mono HB10d.out.size))
  have hS11 : Blk w11 w.heap.size 34 #[.slice sA 2 sc, .slice tA tn tc, .int .i64 4, .int .i64 n1, .slice oA on oc, .int .i64 4, .int .i64 k2, .slice ga gb gd, .slice ea eb ed, .bool true] := hS.below hb (by omega)
  have hs11 : w2.heap.size + 2 ≤ w11.heap.size := Nat.le_trans hs10d hb.size
  clear hx hb heq
  refine ⟨hS11, ?_⟩
  try simp only [Act.put, List.setIfInBounds_toArray, List.set_cons_zero, List.set_cons_succ]
  refine held_call 4 (some 89) 24 [.const (Value.slice none 0 0), (.tmp 88)] #[56, 24] #[.slice none 0 0, .slice (some ⟨w10.drew.heap.size, 0, none⟩) 1 1] (by rfl) (by rfl) (by kernel_rfl) Try.func24 (by rfl) (by rfl) ?_
  refine (HPut.out _ w11 HZ11.out).mono ?_
  rintro e w12 ⟨pa, pb, pd, rfl, hby, hb⟩
  have HP12 := Lib.hid hby
  have HY12 := Lib.hid (HY11.out.below hb (by omega))
  have HE12 := Lib.hid (HE11.out.below hb (by omega))
  have HN12 := Lib.hid (HN11.out.now hb)
  have HG12 := Lib.hid (HG11.out.now hb)
  have HF12 := Lib.hid (HF11.out.now hb)
  have HB12 : Hid (Below w.heap.size w w12) := hide (HB11.out.trans (hb.mono HB11.out.size))
  have hHk : Blk w12 w.heap.size 34 #[.slice sA 2 sc, .slice tA tn tc, .int .i64 4, .int .i64 n1, .slice oA on oc, .int .i64 4, .int .i64 k2, .slice ga gb gd, .slice ea eb ed, .bool true] := hS11.below hb (by omega)
  have hs12 : w2.heap.size + 2 ≤ w12.heap.size := Nat.le_trans hs11 hb.size
  clear hby hb
  refine ⟨_, rfl, hHk, ?_⟩
  try simp only [Act.put, List.setIfInBounds_toArray, List.set_cons_zero, List.set_cons_succ]
  refine held_call 5 (some 90) 23 [(.tmp 86), .const (.int .i64 0), .const (.int .i64 1), (.tmp 89)] #[27, 3, 3, 56] #[.agg #[.slice sA 2 sc, .slice tA tn tc], .int .i64 0, .int .i64 1, .slice pa pb pd] (by rfl) (by rfl) (by kernel_rfl) Try.func23 (by rfl) (by rfl) ?_
  refine (HSend.out _ _ pa pb pd w12 HN12.out HP12.out).mono ?_
  rintro e w13 ⟨ya, yb, yc, za, zb, zc, rfl, hn13, hb⟩
  have HN13 := Lib.hid hn13
  have HY13 := Lib.hid (HY12.out.below hb (by omega))
  have HE13 := Lib.hid (HE12.out.below hb (by omega))
  have HG13 := Lib.hid (HG12.out.now hb)
  have HF13 := Lib.hid (HF12.out.now hb)
  have HB13 : Hid (Below w.heap.size w w13) := hide (HB12.out.trans (hb.mono HB12.out.size))
  have hHk2 : Blk w13 w.heap.size 34 #[.slice sA 2 sc, .slice tA tn tc, .int .i64 4, .int .i64 n1, .slice oA on oc, .int .i64 4, .int .i64 k2, .slice ga gb gd, .slice ea eb ed, .bool true] := hHk.below hb (by omega)
  have hs13 : w2.heap.size + 2 ≤ w13.heap.size := Nat.le_trans hs12 hb.size
  clear hn13 hb
  refine ⟨_, rfl, hHk2, ?_⟩
  try simp only [Act.put, List.setIfInBounds_toArray, List.set_cons_zero, List.set_cons_succ]
  refine held_run 6 (some 84) (.move (.tmp 90)) ?v18_21_28 (by rfl) (by kernel_rfl) (by kernel_rfl) (by kernel_rfl) (fun _ _ _ h => h) (fun o ho w hS => ?y18_21_28) (by assumption) ?r18_21_28
  case y18_21_28 => (try dsimp only at hS); unfold execOp; simp only [ho]; go_simp; try with_reducible rfl
  try simp only [Act.put, List.setIfInBounds_toArray, List.set_cons_zero, List.set_cons_succ]
  refine held_run 7 (some 91) (.extract (.tmp 84) 0) ?v18_21_29 (by rfl) (by kernel_rfl) (by kernel_rfl) (by kernel_rfl) (fun _ _ _ h => h) (fun o ho w hS => ?y18_21_29) (by assumption) ?r18_21_29
  case y18_21_29 => (try dsimp only at hS); unfold execOp; simp only [ho]; go_simp; try with_reducible rfl
  try simp only [Act.put, List.setIfInBounds_toArray, List.set_cons_zero, List.set_cons_succ]
  refine held_run 8 (some 92) (.extract (.tmp 84) 1) ?v18_21_30 (by rfl) (by kernel_rfl) (by kernel_rfl) (by kernel_rfl) (fun _ _ _ h => h) (fun o ho w hS => ?y18_21_30) (by assumption) ?r18_21_30
  case y18_21_30 => (try dsimp only at hS); unfold execOp; simp only [ho]; go_simp; try with_reducible rfl
  try simp only [Act.put, List.setIfInBounds_toArray, List.set_cons_zero, List.set_cons_succ]
  refine held_one 9 (by kernel_rfl) ?_
  refine op_store_blk 9 27 (.tmp 5) (.tmp 91) (by rfl) (w2.heap.size) #[.slice ya yb yc, .slice za zb zc] rfl rfl _ _ (HE13.out) (by kernel_rfl) rfl (by simp [Value.oneCell']) ?_
  intro w14 hx14 hon14
  have HE14 := Lib.hid hx14
  have HY14 := Lib.hid (hon14.blk HY13.out (by omega))
  have HN14 := Lib.hid (HN13.out.onlyT hon14 HE13.out (by decide) (by decide) (by decide))
  have HG14 := Lib.hid (HG13.out.onlyT hon14 HE13.out (by decide))
  have HF14 := Lib.hid (HF13.out.onlyT hon14 HE13.out (by decide))
  have HB14 : Hid (Below w.heap.size w w14) := hide (hon14.below HB13.out (by omega))
  have hH14 : Blk w14 w.heap.size 34 #[.slice sA 2 sc, .slice tA tn tc, .int .i64 4, .int .i64 n1, .slice oA on oc, .int .i64 4, .int .i64 k2, .slice ga gb gd, .slice ea eb ed, .bool true] := hon14.blk hHk2 (by omega)
  clear hx14 hon14
  refine ⟨hH14, ?_⟩
  try simp only [Act.put]
  refine held_run 10 (some 7) (.assign (.tmp 92)) ?v18_21_32 (by rfl) (by kernel_rfl) (by kernel_rfl) (by kernel_rfl) (fun _ _ _ h => h) (fun o ho w hS => ?y18_21_32) (by assumption) ?r18_21_32
  case y18_21_32 => (try dsimp only at hS); unfold execOp; simp only [ho]; go_simp; try with_reducible rfl
  try simp only [Act.put, List.setIfInBounds_toArray, List.set_cons_zero, List.set_cons_succ]
  refine wpAnyH_done (by kernel_rfl) ?_ _
  have HX14 := Lib.hid hH14
  clear hS hHk hH14 hS11 hHk2 HY10d HE10d HN10d HG10d HF10d HB10d HZ11 HY11 HE11 HN11 HG11 HF11 HB11 HP12 HY12 HE12 HN12 HG12 HF12 HB12 HN13 HY13 HE13 HG13 HF13 HB13
  go_wp2_with
    (first
     | (refine wpList_load_blk rfl 27 (.tmp 5) rfl w2.heap.size rfl _ _ HE14.out _ Try.underlying27 rfl (by kernel_rfl) ?_)
     | (refine wpList_store_part 27 (.tmp 96) (.tmp 95) rfl rfl w.heap.size 0 #[.slice ya yb yc, .slice za zb zc] rfl rfl 34 _ HX14.out (by kernel_rfl) (by simp) (by simp [Value.oneCell']) #[.slice ya yb yc, .slice za zb zc, .int .i64 4, .int .i64 n1, .slice oA on oc, .int .i64 4, .int .i64 k2, .slice ga gb gd, .slice ea eb ed, .bool true] rfl ?_
        intro w15 hx15 hon15
        have HX15 := Lib.hid hx15
        have HY15 := Lib.hid (hon15.blk HY14.out (by omega))
        have HN15 := Lib.hid (HN14.out.onlyT hon15 HX14.out (by decide) (by decide) (by decide))
        have HG15 := Lib.hid (HG14.out.onlyT hon15 HX14.out (by decide))
        have HF15 := Lib.hid (HF14.out.onlyT hon15 HX14.out (by decide))
        have HB15 : Hid (Below w.heap.size w w15) := hide (hon15.below HB14.out (Nat.le_refl _))
        clear hx15 hon15)
     | (refine wpList_load_blk rfl 34 (.tmp 2) rfl w.heap.size rfl _ _ HX15.out _ Try.underlying34 rfl (by kernel_rfl) ?_)
     | (refine wpList_store_blk rfl 34 (.tmp 4) (.tmp 97) rfl (w.heap.size + 1) #[.slice ya yb yc, .slice za zb zc, .int .i64 4, .int .i64 n1, .slice oA on oc, .int .i64 4, .int .i64 k2, .slice ga gb gd, .slice ea eb ed, .bool true] rfl rfl _ _ HY15.out (by kernel_rfl) rfl (by simp [Value.oneCell']) ?_
        intro w16 hx16 hon16
        have HX16 := Lib.hid hx16
        have HN16 := Lib.hid (HN15.out.onlyT hon16 HY15.out (by decide) (by decide) (by decide))
        have HG16 := Lib.hid (HG15.out.onlyT hon16 HY15.out (by decide))
        have HF16 := Lib.hid (HF15.out.onlyT hon16 HY15.out (by decide))
        have HB16 : Hid (Below w.heap.size w w16) := hide (hon16.below HB15.out (by omega))
        clear hx16 hon16))
  refine bodyPost_ret (results_cell_row rfl _ _ (w.heap.size + 1) 34 _ (0, 0) _ rfl HX16.out Try.underlying34 rfl (by kernel_rfl)) rfl ?_
  exact HFin.out _ _ _ _ _ HN16.out HG16.out HF16.out HB16.out
end Go.Proofs.Ytedeggjefnpjgaa
