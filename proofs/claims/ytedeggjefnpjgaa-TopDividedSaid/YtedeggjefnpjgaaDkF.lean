/-
  arrive of the law.
  opened of the law.
  The link: its parts; what is lost, repeated, parted; linkAlive of the law.
  linkAlive of the law.
-/
import Derived.Test.YtedeggjefnpjgaaDj1
namespace Go.Proofs.Ytedeggjefnpjgaa

section
open Go.RowKit

theorem OKL.arrive {n : Nat} {x : Lk} (h : OKL n x) (i : Int) : OKL n (arriveN x i) := by
  refine ⟨h.inv.arrive i, h.n20, ?_, ?_⟩
  · unfold arriveN
    split
    · exact h.len
    · split
      · exact h.len
      · rename_i m hm
        have hj := (List.getElem?_eq_some_iff.1 hm).1
        have hl := List.length_eraseIdx_of_lt hj
        have := h.len
        cases m with
        | up s => show (x.mail.eraseIdx i.toNat ++ [Ms.ack _]).length ≤ 256; rw [List.length_append, hl, List.length_singleton]; omega
        | ack u => show (x.mail.eraseIdx i.toNat).length ≤ 256; rw [hl]; omega
  · unfold arriveN
    split
    · exact h.pp
    · split
      · exact h.pp
      · rename_i m hm
        cases m <;> exact h.pp
theorem arrive_any (n : Nat) (x : Lk) (i : Int) (v : Value) (w : World) (h : OKL n x) (hv : LnV w n x v) : Calls Try.prog 7 #[v, .int .i64 i] w (LkR n (arriveN x i) w) := by
  by_cases hi : i < 0 ∨ (x.mail.length : Int) ≤ i
  · have e : arriveN x i = x := by
      unfold arriveN
      rw [if_pos (by rcases hi with hi | hi; exact .inl hi; exact .inr (.inl hi))]
    rw [e]
    refine arrive_no n x i 8 v w hv rfl fun pA pc mA mn mc W hW hN => ?_
    obtain ⟨pA', pc', mA', mn', mc', e1, e2, hmn, h1, h2⟩ := hN.nam
    injection e2 with e6 e7 e8
    subst e6 e7 e8
    refine deliver_no _ mA mn mc i W ⟨_, _, _, rfl⟩ ?_
    have := hmn.out
    rw [List.length_map] at this
    omega
  · obtain ⟨j, rfl⟩ : ∃ j : Nat, i = (j : Int) := ⟨i.toNat, by omega⟩
    have hj : j < x.mail.length := by omega
    obtain ⟨m, hm⟩ : ∃ m, x.mail[j]? = some m := ⟨_, List.getElem?_eq_getElem hj⟩
    rcases h.pp with hp | hp
    · have e : arriveN x (j : Int) = letN x m (x.mail.eraseIdx j) := by
        unfold arriveN
        rw [if_neg (by rw [hp]; omega), show ((j : Int)).toNat = j by omega, hm]
      rw [e]
      cases m with
      | up s => exact arrive_up n x j s v w h hp hm hv
      | ack u => exact arrive_ack n x j u v w h hp hm hv
    · have e : arriveN x (j : Int) = x := by
        unfold arriveN
        rw [if_pos (.inr (.inr (by rw [hp]; omega)))]
      rw [e]
      refine arrive_no n x _ 13 v w hv rfl fun pA pc mA mn mc W hW hN => ?_
      obtain ⟨pA', pc', mA', mn', mc', e1, e2, hmn, h1, h2⟩ := hN.nam
      injection e1 with e3 e4 e5
      injection e2 with e6 e7 e8
      subst e3 e5 e6 e7 e8
      have hl : x.mail.length = mn := by rw [← hmn.out, List.length_map]
      have hq : (x.mail.map ltN).getD j lt0 = ltN m := by
        rw [List.getD_eq_getElem?_getD, List.getElem?_map, hm]
        rfl
      have hq2 : ltN m = ⟨(((ltN m).fr.toNat : Nat) : Int), (((ltN m).to_.toNat : Nat) : Int), (ltN m).bd⟩ := by cases m <;> rfl
      have h3 : (ltN m).fr.toNat < 2 ∧ (ltN m).to_.toNat < 2 ∧ (([0, x.p] : List Int).getD (ltN m).fr.toNat 0 == ([0, x.p] : List Int).getD (ltN m).to_.toNat 0) = false := by
        rw [hp]
        cases m with
        | up s => exact ⟨by show 1 < 2; omega, by show 0 < 2; omega, rfl⟩
        | ack u => exact ⟨by show 0 < 2; omega, by show 1 < 2; omega, rfl⟩
      exact deliver_lock pA pc mA mn mc j (ltN m).fr.toNat (ltN m).to_.toNat (ltN m).bd _ _ W h1 h2 (by omega) (hq.trans hq2) h3.1 h3.2.1 h3.2.2
end

section
open Go.RowKit

set_option maxRecDepth 100000 in
set_option maxHeartbeats 16000000 in
theorem opened_any (n : Nat) (w : World) (hn : n ≤ 20) : Calls Try.prog 5 #[.int .i64 (n : Int)] w (LkR n ⟨0, 0, [], [], 0⟩ w) := by
  have HFin : Hid (∀ vp vm vo w', NetO w' vp vm [0, 0] [] → OwnRd w' 0 vo (rdsN 1 n) → Below w.heap.size w w' → LkR n ⟨0, 0, [], [], 0⟩ w (.returned (.agg #[vp, vm, .int .i64 4, .int .i64 ((n : Int) + 1), vo, .int .i64 4, .int .i64 1, .slice none 0 0, .slice none 0 0, .bool true])) w') := fun vp vm vo w' h1 h2 h3 => ⟨_, rfl, ⟨_, _, _, _, _, rfl, h1, h2, OwnRd.nil _ _, OwnRd.nil _ _⟩, h3⟩
  have HMade : Hid (∀ W, Calls Try.prog 6 #[.int .i64 4, .int .i64 (n : Int)] W (RdsR (rdsN 1 n) W)) := fun W => made_any n W hn
  generalize LkR n ⟨0, 0, [], [], 0⟩ w = RR at *
  go_enter Try.func5, Try.ntmps5
  go_upto_region 1 with (fail)
  have HBw1 := (Blk.new w 34 #[.slice none 0 0, .slice none 0 0, .int .i64 0, .int .i64 0, .slice none 0 0, .int .i64 0, .int .i64 0, .slice none 0 0, .slice none 0 0, .bool false])
  have HLw1 := (below_new w (.cells #[.slice none 0 0, .slice none 0 0, .int .i64 0, .int .i64 0, .slice none 0 0, .int .i64 0, .int .i64 0, .slice none 0 0, .slice none 0 0, .bool false] 34))
  have hsw1 : (w.alloc (.cells #[.slice none 0 0, .slice none 0 0, .int .i64 0, .int .i64 0, .slice none 0 0, .int .i64 0, .int .i64 0, .slice none 0 0, .slice none 0 0, .bool false] 34)).heap.size = w.heap.size + 1 := by simp
  generalize w.alloc (.cells #[.slice none 0 0, .slice none 0 0, .int .i64 0, .int .i64 0, .slice none 0 0, .int .i64 0, .int .i64 0, .slice none 0 0, .slice none 0 0, .bool false] 34) = w1 at HBw1 HLw1 hsw1 ⊢
  replace HBw1 := Lib.hid HBw1
  replace HLw1 := Lib.hid HLw1
  have hlw1 : w.heap.size < w1.heap.size := by omega
  replace hsw1 := Lib.hid hsw1
  have HY1 := HBw1
  have HB1 := HLw1
  have hs1 : w.heap.size + 1 ≤ w1.heap.size := by have := hlw1; omega
  clear HBw1 HLw1 hsw1 hlw1
  go_wp2_with fail
  with_reducible refine (open_any w1).mono ?_
  rintro e w2 ⟨rfl, hb2⟩
  have HY2 := Lib.hid (HY1.out.below hb2 (by omega))
  have HB2 : Hid (Below w.heap.size w w2) := hide (HB1.out.trans (hb2.mono HB1.out.size))
  have hs2 : w.heap.size + 1 ≤ w2.heap.size := Nat.le_trans hs1 hb2.size
  clear hb2 HY1 HB1 hs1
  go_upto_region 2 with (fail)
  have HBw3 := (Blk.new w2 30 #[.int .i64 4, .int .i64 1, .slice none 0 0])
  have HLw3 := (below_new w2 (.cells #[.int .i64 4, .int .i64 1, .slice none 0 0] 30))
  have hsw3 : (w2.alloc (.cells #[.int .i64 4, .int .i64 1, .slice none 0 0] 30)).heap.size = w2.heap.size + 1 := by simp
  generalize w2.alloc (.cells #[.int .i64 4, .int .i64 1, .slice none 0 0] 30) = w3 at HBw3 HLw3 hsw3 ⊢
  replace HBw3 := Lib.hid HBw3
  replace HLw3 := Lib.hid HLw3
  have hlw3 : w2.heap.size < w3.heap.size := by omega
  replace hsw3 := Lib.hid hsw3
  have HBw4 := (Blk.new w3 32 #[.int .i64 4, .int .i64 1, .slice none 0 0, .slice none 0 0])
  have HLw4 := (below_new w3 (.cells #[.int .i64 4, .int .i64 1, .slice none 0 0, .slice none 0 0] 32))
  have hsw4 : (w3.alloc (.cells #[.int .i64 4, .int .i64 1, .slice none 0 0, .slice none 0 0] 32)).heap.size = w3.heap.size + 1 := by simp
  generalize w3.alloc (.cells #[.int .i64 4, .int .i64 1, .slice none 0 0, .slice none 0 0] 32) = w4 at HBw4 HLw4 hsw4 ⊢
  replace HBw4 := Lib.hid HBw4
  replace HLw4 := Lib.hid HLw4
  have hlw4 : w3.heap.size < w4.heap.size := by omega
  replace hsw4 := Lib.hid hsw4
  have HL4 : Hid (Below w2.heap.size w2 w4) := hide (HLw3.out.trans (HLw4.out.mono HLw3.out.size))
  have HY4 := Lib.hid (HY2.out.below HL4.out (by omega))
  have HO4 : Hid (Blk w4 w2.heap.size 30 #[.int .i64 4, .int .i64 1, .slice none 0 0]) := hide (HBw3.out.below HLw4.out hlw3)
  have HI4 : Hid (Blk w4 (w2.heap.size + 1) 32 #[.int .i64 4, .int .i64 1, .slice none 0 0, .slice none 0 0]) := hide (by rw [← hsw3.out]; exact HBw4.out)
  have HB4 : Hid (Below w.heap.size w w4) := hide (HB2.out.trans (HL4.out.mono HB2.out.size))
  have hs4 : w2.heap.size + 2 ≤ w4.heap.size := by have := HI4.out.lt; omega
  clear HY2 HB2 HL4 HLw3 HLw4 HBw3 HBw4 hsw3 hsw4 hlw3 hlw4
  go_wp2_with fail
  with_reducible refine (new_any w4).mono ?_
  rintro e w5 ⟨vp, vm, rfl, hN, hb5⟩
  obtain ⟨pA, pc, mA, mn, mc, rfl, rfl, _, _, _⟩ := hN.nam
  have HN5 := Lib.hid hN
  have HY5 := Lib.hid (HY4.out.below hb5 (by omega))
  have HO5 := Lib.hid (HO4.out.below hb5 (by omega))
  have HI5 := Lib.hid (HI4.out.below hb5 (by omega))
  have HB5 : Hid (Below w.heap.size w w5) := hide (HB4.out.trans (hb5.mono HB4.out.size))
  have hs5 : w2.heap.size + 2 ≤ w5.heap.size := Nat.le_trans hs4 hb5.size
  clear hb5 hN HY4 HO4 HI4 HB4 hs4
  go_upto_region 3 with (fail)
  have HBw6 := (Blk.new w5 27 #[.slice pA 2 pc, .slice mA mn mc])
  have HLw6 := (below_new w5 (.cells #[.slice pA 2 pc, .slice mA mn mc] 27))
  have hsw6 : (w5.alloc (.cells #[.slice pA 2 pc, .slice mA mn mc] 27)).heap.size = w5.heap.size + 1 := by simp
  generalize w5.alloc (.cells #[.slice pA 2 pc, .slice mA mn mc] 27) = w6 at HBw6 HLw6 hsw6 ⊢
  replace HBw6 := Lib.hid HBw6
  replace HLw6 := Lib.hid HLw6
  have hlw6 : w5.heap.size < w6.heap.size := by omega
  replace hsw6 := Lib.hid hsw6
  have HN6 := Lib.hid (HN5.out.now HLw6.out)
  have HY6 := Lib.hid (HY5.out.below HLw6.out (by omega))
  have HO6 := Lib.hid (HO5.out.below HLw6.out (by omega))
  have HI6 := Lib.hid (HI5.out.below HLw6.out (by omega))
  have HE6 := HBw6
  have HB6 : Hid (Below w.heap.size w w6) := hide (HB5.out.trans (HLw6.out.mono HB5.out.size))
  have hs6 : w2.heap.size + 2 ≤ w6.heap.size := by omega
  clear HLw6 HBw6 hsw6 hlw6 HN5 HY5 HO5 HI5 HB5 
  go_upto_region 4 with
    (first
     | (refine wpList_load_blk rfl 27 (.tmp 5) rfl w5.heap.size rfl _ _ HE6.out _ Try.underlying27 rfl (by kernel_rfl) ?_)
     | (refine wpList_load_blk rfl 30 (.tmp 3) rfl w2.heap.size rfl _ _ HO6.out _ Try.underlying30 rfl (by kernel_rfl) ?_)
     | (refine wpList_load_blk rfl 32 (.tmp 4) rfl (w2.heap.size + 1) rfl _ _ HI6.out _ Try.underlying32 rfl (by kernel_rfl) ?_))
  have HBw7 := (Blk.new w6 34 #[.slice pA 2 pc, .slice mA mn mc, .int .i64 4, .int .i64 1, .slice none 0 0, .int .i64 4, .int .i64 1, .slice none 0 0, .slice none 0 0, .bool true])
  have HLw7 := (below_new w6 (.cells #[.slice pA 2 pc, .slice mA mn mc, .int .i64 4, .int .i64 1, .slice none 0 0, .int .i64 4, .int .i64 1, .slice none 0 0, .slice none 0 0, .bool true] 34))
  have hsw7 : (w6.alloc (.cells #[.slice pA 2 pc, .slice mA mn mc, .int .i64 4, .int .i64 1, .slice none 0 0, .int .i64 4, .int .i64 1, .slice none 0 0, .slice none 0 0, .bool true] 34)).heap.size = w6.heap.size + 1 := by simp
  generalize w6.alloc (.cells #[.slice pA 2 pc, .slice mA mn mc, .int .i64 4, .int .i64 1, .slice none 0 0, .int .i64 4, .int .i64 1, .slice none 0 0, .slice none 0 0, .bool true] 34) = w7 at HBw7 HLw7 hsw7 ⊢
  replace HBw7 := Lib.hid HBw7
  replace HLw7 := Lib.hid HLw7
  have hlw7 : w6.heap.size < w7.heap.size := by omega
  replace hsw7 := Lib.hid hsw7
  have HX7 := HBw7
  have HN7 := Lib.hid (HN6.out.now HLw7.out)
  have HY7 := Lib.hid (HY6.out.below HLw7.out (by omega))
  have HB7 : Hid (Below w.heap.size w w7) := hide (HB6.out.trans (HLw7.out.mono HB6.out.size))
  have hs7 : w.heap.size + 1 ≤ w6.heap.size := by omega
  have hl7 : w6.heap.size < w7.heap.size := hlw7
  clear HLw7 HBw7 hsw7 hlw7 HN6 HY6 HO6 HI6 HB6 HE6 hs5 hs6 hs2
  go_wp2_with fail
  with_reducible refine (HMade.out w7).mono ?_
  rintro e w8 ⟨v8, rfl, ho8, hb8⟩
  obtain ⟨lA, ln, lc, rfl, HLn, _⟩ := ho8.parts
  have hln : ln = n := by rw [← HLn.out, rdsN_len]
  subst hln
  have HX8 := Lib.hid (HX7.out.below hb8 hl7)
  have HN8 := Lib.hid (HN7.out.now hb8)
  have HY8 := Lib.hid (HY7.out.below hb8 (by omega))
  have HB8 : Hid (Below w.heap.size w w8) := hide (HB7.out.trans (hb8.mono HB7.out.size))
  have HO8 := Lib.hid ho8
  clear hb8 ho8 HX7 HN7 HY7 HB7 HMade hl7
  generalize w6.heap.size = g at *
  go_wp2_with fail
  go_loopw [9] (fun i wr => ∃ (c : Nat) (oA : Option Addr) (on oc : Nat), c ≤ ln ∧ i = .int .i64 c ∧ Blk wr g 34 #[.slice pA 2 pc, .slice mA mn mc, .int .i64 4, .int .i64 ((c : Int) + 1), .slice oA on oc, .int .i64 4, .int .i64 1, .slice none 0 0, .slice none 0 0, .bool true] ∧ Blk wr w.heap.size 34 #[.slice none 0 0, .slice none 0 0, .int .i64 0, .int .i64 0, .slice none 0 0, .int .i64 0, .int .i64 0, .slice none 0 0, .slice none 0 0, .bool false] ∧ NetO wr (.slice pA 2 pc) (.slice mA mn mc) [0, 0] [] ∧ OwnRd wr 0 (.slice oA on oc) (rdsN 1 c) ∧ OwnRd wr 0 (.slice lA ln lc) (rdsN 1 ln) ∧ Below w.heap.size w wr) (fun i _ => ln - (intOf i).toNat)
  case atStart => exact ⟨0, none, 0, 0, by omega, rfl, HX8.out, HY8.out, HN8.out, OwnRd.nil _ _, HO8.out, HB8.out⟩
  case round =>
    obtain ⟨c, oA, on, oc, hc, rfl, hX, hY, hN, hO, hL, hB⟩ := hrel
    obtain ⟨wo, rfl⟩ : ∃ wo : World, wo = wr := ⟨_, rfl⟩
    have HXo := Lib.hid hX
    have HYo := Lib.hid hY
    have HNo := Lib.hid hN
    have HOo := Lib.hid hO
    have HLo := Lib.hid hL
    have HBo := Lib.hid hB
    have hgo : g < wo.heap.size := hX.lt
    clear hX hY hN hO hL hB
    by_cases hlt : c < ln
    · obtain ⟨lA', ln', lc', e1, _, hls⟩ := HLo.out.parts
      injection e1 with e1 e2 e3
      subst e1 e2 e3
      obtain ⟨ad, rfl, hadb, hcl⟩ := strs_at hls (fun _ => rfl) HLn.out hlt rd0
      rw [rdsN_at hlt] at hcl
      obtain ⟨oA', on', oc', e1, HLo', hos⟩ := HOo.out.parts
      injection e1 with e1 e2 e3
      subst e1 e2 e3
      have hon : on = c := by rw [← HLo'.out, rdsN_len]
      have HPost : Hid (∀ W, Below wo.heap.size wo W → Calls Try.prog 17 #[.agg #[.int .i64 4, .int .i64 ((c : Int) + 1), .slice oA on oc], (rdN (1 + c)).val] W (fun e w' => ∃ a b d, e = .returned (.tuple #[.agg #[.int .i64 4, .int .i64 (((c + 1 : Nat) : Int) + 1), .slice a b d], .int .i64 0]) ∧ OwnRd w' 0 (.slice a b d) (rdsN 1 (c + 1)) ∧ Below W.heap.size W w')) := fun W hW => by
        refine (post_any ((c : Int) + 1) oA on oc (rdsN 1 c) (rdN (1 + c)) W (hos.now hW) HLo'.out (by omega) (by omega) rfl (by rw [rdN_seq]; omega)).mono ?_
        rintro e w' ⟨v, rfl, ho, hb⟩
        rw [rdsN_snoc] at ho
        obtain ⟨a, b, d, rfl, _, _⟩ := ho.parts
        exact ⟨a, b, d, by rw [show ((c : Int) + 1 + 1) = (((c + 1 : Nat) : Int) + 1) by omega], ho, hb⟩
      obtain ⟨q, hq⟩ : ∃ q, rdN (1 + c) = q := ⟨_, rfl⟩
      rw [hq] at hcl HPost
      obtain ⟨gate, seq, ser, cnt, prod, lift, att⟩ := q
      have hS : Blk wo.drew g 34 #[.slice pA 2 pc, .slice mA mn mc, .int .i64 4, .int .i64 ((c : Int) + 1), .slice oA on oc, .int .i64 4, .int .i64 1, .slice none 0 0, .slice none 0 0, .bool true] ∧ (∀ i u, ([.int .i64 gate, .int .i64 seq, .int .i64 ser, .int .i64 cnt, .int .i64 prod, .int .i64 lift, .int .i64 att] : List Value)[i]? = some u → wo.drew.cell? ((ad.add (c * 7)).add i) = some u) := ⟨HXo.out, hcl⟩
      have hlt' : (c : Int) < (ln : Int) := by omega
      clear hcl hq hls hos hon
      go_upto_region 8 with (fail)
      go_cut [10, 11] (fun s t wx => ∃ (gi : Nat) (a : Option Addr) (b d : Nat), s = .pointer (some ⟨gi, 0, none⟩) ∧ t = .int .i64 0 ∧ gi ≠ g ∧ gi ≠ w.heap.size ∧ Blk wx gi 30 #[.int .i64 4, .int .i64 (((c + 1 : Nat) : Int) + 1), .slice a b d] ∧ OwnRd wx 0 (.slice a b d) (rdsN 1 (c + 1)) ∧ Below wo.heap.size wo wx)
      case first =>
        have HBd : Hid (Below wo.heap.size wo wo.drew) := hide (Below.refl _ _).drew
        have hgd : g < wo.drew.heap.size := hgo
        have hsd : wo.heap.size ≤ wo.drew.heap.size := Nat.le_refl _
        have hadd : ad.block < wo.drew.heap.size := hadb
        have hyd : w.heap.size < wo.drew.heap.size := HYo.out.lt
        refine wp_region_held_drew (S := fun W => Blk W g 34 #[.slice pA 2 pc, .slice mA mn mc, .int .i64 4, .int .i64 ((c : Int) + 1), .slice oA on oc, .int .i64 4, .int .i64 1, .slice none 0 0, .slice none 0 0, .bool true] ∧ (∀ i u, ([.int .i64 gate, .int .i64 seq, .int .i64 ser, .int .i64 cnt, .int .i64 prod, .int .i64 lift, .int .i64 att] : List Value)[i]? = some u → W.cell? ((ad.add (c * 7)).add i) = some u)) (by kernel_rfl) (hS) (fun hHeld => ?_)
        refine held_run 0 (some 35) (.fieldAddr 34 (.tmp 7) 1) ?v8_1_2 (by rfl) (by kernel_rfl) (by kernel_rfl) (by kernel_rfl) (fun _ _ _ h => h) (fun o ho w hS => ?y8_1_2) (by assumption) ?r8_1_2
        case y8_1_2 => (try dsimp only at hS); unfold execOp; simp only [ho]; go_simp; try with_reducible rfl
        try simp only [Act.put, List.setIfInBounds_toArray, List.set_cons_zero, List.set_cons_succ]
        refine held_load_at 1 (some 36) 30 (.tmp 35) (by rfl) (by kernel_rfl) (by kernel_rfl) (by kernel_rfl) ((⟨g, 2, none⟩ : Addr)) ([.int .i64 4, .int .i64 ((c : Int) + 1), .slice oA on oc] : List Value) (fun _ _ _ h => h) (by rfl) (fun _ h => h.1.part 2 _ rfl) _ Try.underlying30 rfl (by kernel_rfl) (by assumption) ?_
        try simp only [Act.put, List.setIfInBounds_toArray, List.set_cons_zero, List.set_cons_succ]
        refine held_run 2 (some 37) (.move (.tmp 8)) ?v8_1_4 (by rfl) (by kernel_rfl) (by kernel_rfl) (by kernel_rfl) (fun _ _ _ h => h) (fun o ho w hS => ?y8_1_4) (by assumption) ?r8_1_4
        case y8_1_4 => (try dsimp only at hS); unfold execOp; simp only [ho]; go_simp; try with_reducible rfl
        try simp only [Act.put, List.setIfInBounds_toArray, List.set_cons_zero, List.set_cons_succ]
        refine held_run 3 (some 38) (.move (.tmp 9)) ?v8_1_5 (by rfl) (by kernel_rfl) (by kernel_rfl) (by kernel_rfl) (fun _ _ _ h => h) (fun o ho w hS => ?y8_1_5) (by assumption) ?r8_1_5
        case y8_1_5 => (try dsimp only at hS); unfold execOp; simp only [ho]; go_simp; try with_reducible rfl
        try simp only [Act.put, List.setIfInBounds_toArray, List.set_cons_zero, List.set_cons_succ]
        refine held_run 4 (some 39) (.indexAddr 28 (.tmp 37) (.tmp 38)) ?v8_1_6 (by rfl) (by kernel_rfl) (by kernel_rfl) (by kernel_rfl) (fun _ _ _ h => h) (fun o ho w hS => ?y8_1_6) (by assumption) ?r8_1_6
        case y8_1_6 => (try dsimp only at hS); unfold execOp; simp only [ho]; go_simp; try with_reducible rfl
        try simp only [Act.put, List.setIfInBounds_toArray, List.set_cons_zero, List.set_cons_succ]
        refine held_load_at 5 (some 40) 55 (.tmp 39) (by rfl) (by kernel_rfl) (by kernel_rfl) (by kernel_rfl) ((ad.add (c * 7))) ([.int .i64 gate, .int .i64 seq, .int .i64 ser, .int .i64 cnt, .int .i64 prod, .int .i64 lift, .int .i64 att] : List Value) (fun _ _ _ h => h) (by rfl) (fun _ h => h.2) _ Try.underlying55 rfl (by kernel_rfl) (by assumption) ?_
        try simp only [Act.put, List.setIfInBounds_toArray, List.set_cons_zero, List.set_cons_succ]
        refine held_two 6 10 (by kernel_rfl) ?_ ?_
        · refine op_call 6 (some 41) 17 [(.tmp 36), (.tmp 40)] #[30, 55] #[.agg #[.int .i64 4, .int .i64 ((c : Int) + 1), .slice oA on oc], .agg #[.int .i64 gate, .int .i64 seq, .int .i64 ser, .int .i64 cnt, .int .i64 prod, .int .i64 lift, .int .i64 att]] (by rfl) (by rfl) Try.func17 (by rfl) (by rfl) ?_
          refine (HPost.out _ HBd.out).mono ?_
          rintro e w9 ⟨a, b, d, rfl, ho9, hb9⟩
          have hHk : Blk w9 g 34 #[.slice pA 2 pc, .slice mA mn mc, .int .i64 4, .int .i64 ((c : Int) + 1), .slice oA on oc, .int .i64 4, .int .i64 1, .slice none 0 0, .slice none 0 0, .bool true] ∧ (∀ i u, ([.int .i64 gate, .int .i64 seq, .int .i64 ser, .int .i64 cnt, .int .i64 prod, .int .i64 lift, .int .i64 att] : List Value)[i]? = some u → w9.cell? ((ad.add (c * 7)).add i) = some u) := ⟨hS.1.below hb9 hgd, fun i u hu => (hb9.cell (by rw [block_of_add, block_of_add]; exact hadd)).trans (hS.2 i u hu)⟩
          have HO9 := Lib.hid ho9
          have HB9 : Hid (Below wo.heap.size wo w9) := hide (HBd.out.trans (hb9.mono hsd))
          have hs9 : wo.drew.heap.size ≤ w9.heap.size := hb9.size
          have hgz : w9.heap.size ≠ g ∧ w9.heap.size ≠ w.heap.size ∧ ad.block ≠ w9.heap.size ∧ wo.heap.size ≤ w9.heap.size := by omega
          clear hb9 ho9
          refine ⟨_, rfl, hHk, ?_⟩
          try simp only [Act.put, List.setIfInBounds_toArray, List.set_cons_zero, List.set_cons_succ]
          refine held_run 7 (some 34) (.move (.tmp 41)) ?v8_1_9 (by rfl) (by kernel_rfl) (by kernel_rfl) (by kernel_rfl) (fun _ _ _ h => h) (fun o ho w hS => ?y8_1_9) (by assumption) ?r8_1_9
          case y8_1_9 => (try dsimp only at hS); unfold execOp; simp only [ho]; go_simp; try with_reducible rfl
          try simp only [Act.put, List.setIfInBounds_toArray, List.set_cons_zero, List.set_cons_succ]
          refine held_run 8 (some 42) (.extract (.tmp 34) 0) ?v8_1_10 (by rfl) (by kernel_rfl) (by kernel_rfl) (by kernel_rfl) (fun _ _ _ h => h) (fun o ho w hS => ?y8_1_10) (by assumption) ?r8_1_10
          case y8_1_10 => (try dsimp only at hS); unfold execOp; simp only [ho]; go_simp; try with_reducible rfl
          try simp only [Act.put, List.setIfInBounds_toArray, List.set_cons_zero, List.set_cons_succ]
          refine held_run 9 (some 43) (.extract (.tmp 34) 1) ?v8_1_11 (by rfl) (by kernel_rfl) (by kernel_rfl) (by kernel_rfl) (fun _ _ _ h => h) (fun o ho w hS => ?y8_1_11) (by assumption) ?r8_1_11
          case y8_1_11 => (try dsimp only at hS); unfold execOp; simp only [ho]; go_simp; try with_reducible rfl
          try simp only [Act.put, List.setIfInBounds_toArray, List.set_cons_zero, List.set_cons_succ]
          refine held_one 10 (by kernel_rfl) ?_
          refine op_alloc 10 (some 10) 30 #[.int .i64 0, .int .i64 0, .slice none 0 0] (by rfl) (by kernel_rfl) ?_
          intro w10 hx10 hb10
          have HZ10 := Lib.hid hx10
          have HO10 := Lib.hid (HO9.out.now hb10)
          have hH10 : Blk w10 g 34 #[.slice pA 2 pc, .slice mA mn mc, .int .i64 4, .int .i64 ((c : Int) + 1), .slice oA on oc, .int .i64 4, .int .i64 1, .slice none 0 0, .slice none 0 0, .bool true] ∧ (∀ i u, ([.int .i64 gate, .int .i64 seq, .int .i64 ser, .int .i64 cnt, .int .i64 prod, .int .i64 lift, .int .i64 att] : List Value)[i]? = some u → w10.cell? ((ad.add (c * 7)).add i) = some u) := ⟨hHk.1.below hb10 (by omega), fun i u hu => (hb10.cell (by rw [block_of_add, block_of_add]; omega)).trans (hHk.2 i u hu)⟩
          have HB10 : Hid (Below wo.heap.size wo w10) := hide (HB9.out.trans (hb10.mono hgz.2.2.2))
          clear hb10 hx10
          refine ⟨hH10, ?_⟩
          try simp only [Act.put, List.setIfInBounds_toArray, List.set_cons_zero, List.set_cons_succ]
          refine held_one 11 (by kernel_rfl) ?_
          refine op_store_blk 11 30 (.tmp 10) (.tmp 42) (by rfl) (w9.heap.size) #[.int .i64 4, .int .i64 (((c + 1 : Nat) : Int) + 1), .slice a b d] rfl rfl _ _ (HZ10.out) (by kernel_rfl) rfl (by simp [Value.oneCell']) ?_
          intro w11 hx11 hon11
          have HZ11 := Lib.hid hx11
          have HO11 := Lib.hid (HO10.out.onlyT hon11 HZ10.out (by decide))
          have hH11 : Blk w11 g 34 #[.slice pA 2 pc, .slice mA mn mc, .int .i64 4, .int .i64 ((c : Int) + 1), .slice oA on oc, .int .i64 4, .int .i64 1, .slice none 0 0, .slice none 0 0, .bool true] ∧ (∀ i u, ([.int .i64 gate, .int .i64 seq, .int .i64 ser, .int .i64 cnt, .int .i64 prod, .int .i64 lift, .int .i64 att] : List Value)[i]? = some u → w11.cell? ((ad.add (c * 7)).add i) = some u) := ⟨hon11.blk hH10.1 (by omega), fun i u hu => (hon11.cell (by rw [block_of_add, block_of_add]; exact hgz.2.2.1)).trans (hH10.2 i u hu)⟩
          have HB11 : Hid (Below wo.heap.size wo w11) := hide (hon11.below HB10.out hgz.2.2.2)
          clear hx11 hon11
          refine ⟨hH11, ?_⟩
          try simp only [Act.put]
          refine held_run 12 (some 11) (.assign (.tmp 43)) ?v8_1_14 (by rfl) (by kernel_rfl) (by kernel_rfl) (by kernel_rfl) (fun _ _ _ h => h) (fun o ho w hS => ?y8_1_14) (by assumption) ?r8_1_14
          case y8_1_14 => (try dsimp only at hS); unfold execOp; simp only [ho]; go_simp; try with_reducible rfl
          try simp only [Act.put, List.setIfInBounds_toArray, List.set_cons_zero, List.set_cons_succ]
          refine wpAnyH_done (by kernel_rfl) ?_ _
          go_wp2_with fail
          go_meet
          case rel => exact ⟨_, a, b, d, rfl, rfl, hgz.1, hgz.2.1, HZ11.out, HO11.out, HB11.out⟩
        · refine op_alloc 10 (some 10) 30 #[.int .i64 0, .int .i64 0, .slice none 0 0] (by rfl) (by kernel_rfl) ?_
          intro w9 hx9 hb9
          have HZ9 := Lib.hid hx9
          have hzl : wo.drew.heap.size < w9.heap.size := hx9.lt
          have hHk : Blk w9 g 34 #[.slice pA 2 pc, .slice mA mn mc, .int .i64 4, .int .i64 ((c : Int) + 1), .slice oA on oc, .int .i64 4, .int .i64 1, .slice none 0 0, .slice none 0 0, .bool true] ∧ (∀ i u, ([.int .i64 gate, .int .i64 seq, .int .i64 ser, .int .i64 cnt, .int .i64 prod, .int .i64 lift, .int .i64 att] : List Value)[i]? = some u → w9.cell? ((ad.add (c * 7)).add i) = some u) := ⟨hS.1.below hb9 hgd, fun i u hu => (hb9.cell (by rw [block_of_add, block_of_add]; exact hadd)).trans (hS.2 i u hu)⟩
          have HB9 : Hid (Below wo.heap.size wo w9) := hide (HBd.out.trans (hb9.mono hsd))
          have hgz : wo.drew.heap.size ≠ g ∧ wo.drew.heap.size ≠ w.heap.size ∧ ad.block ≠ wo.drew.heap.size ∧ wo.heap.size ≤ wo.drew.heap.size := by omega
          clear hb9 hx9
          refine ⟨hHk, ?_⟩
          try simp only [Act.put, List.setIfInBounds_toArray, List.set_cons_zero, List.set_cons_succ]
          refine held_call 6 (some 41) 17 [(.tmp 36), (.tmp 40)] #[30, 55] #[.agg #[.int .i64 4, .int .i64 ((c : Int) + 1), .slice oA on oc], .agg #[.int .i64 gate, .int .i64 seq, .int .i64 ser, .int .i64 cnt, .int .i64 prod, .int .i64 lift, .int .i64 att]] (by rfl) (by rfl) (by kernel_rfl) Try.func17 (by rfl) (by rfl) ?_
          refine (HPost.out _ HB9.out).mono ?_
          rintro e w10 ⟨a, b, d, rfl, ho10, hb10⟩
          have hH10 : Blk w10 g 34 #[.slice pA 2 pc, .slice mA mn mc, .int .i64 4, .int .i64 ((c : Int) + 1), .slice oA on oc, .int .i64 4, .int .i64 1, .slice none 0 0, .slice none 0 0, .bool true] ∧ (∀ i u, ([.int .i64 gate, .int .i64 seq, .int .i64 ser, .int .i64 cnt, .int .i64 prod, .int .i64 lift, .int .i64 att] : List Value)[i]? = some u → w10.cell? ((ad.add (c * 7)).add i) = some u) := ⟨hHk.1.below hb10 (by omega), fun i u hu => (hb10.cell (by rw [block_of_add, block_of_add]; omega)).trans (hHk.2 i u hu)⟩
          have HO10 := Lib.hid ho10
          have HZ10 := Lib.hid (HZ9.out.below hb10 hzl)
          have HB10 : Hid (Below wo.heap.size wo w10) := hide (HB9.out.trans (hb10.mono (by omega)))
          clear hb10 ho10
          refine ⟨_, rfl, hH10, ?_⟩
          try simp only [Act.put, List.setIfInBounds_toArray, List.set_cons_zero, List.set_cons_succ]
          refine held_run 7 (some 34) (.move (.tmp 41)) ?v8_1_17 (by rfl) (by kernel_rfl) (by kernel_rfl) (by kernel_rfl) (fun _ _ _ h => h) (fun o ho w hS => ?y8_1_17) (by assumption) ?r8_1_17
          case y8_1_17 => (try dsimp only at hS); unfold execOp; simp only [ho]; go_simp; try with_reducible rfl
          try simp only [Act.put, List.setIfInBounds_toArray, List.set_cons_zero, List.set_cons_succ]
          refine held_run 8 (some 42) (.extract (.tmp 34) 0) ?v8_1_18 (by rfl) (by kernel_rfl) (by kernel_rfl) (by kernel_rfl) (fun _ _ _ h => h) (fun o ho w hS => ?y8_1_18) (by assumption) ?r8_1_18
          case y8_1_18 => (try dsimp only at hS); unfold execOp; simp only [ho]; go_simp; try with_reducible rfl
          try simp only [Act.put, List.setIfInBounds_toArray, List.set_cons_zero, List.set_cons_succ]
          refine held_run 9 (some 43) (.extract (.tmp 34) 1) ?v8_1_19 (by rfl) (by kernel_rfl) (by kernel_rfl) (by kernel_rfl) (fun _ _ _ h => h) (fun o ho w hS => ?y8_1_19) (by assumption) ?r8_1_19
          case y8_1_19 => (try dsimp only at hS); unfold execOp; simp only [ho]; go_simp; try with_reducible rfl
          try simp only [Act.put, List.setIfInBounds_toArray, List.set_cons_zero, List.set_cons_succ]
          refine held_one 11 (by kernel_rfl) ?_
          refine op_store_blk 11 30 (.tmp 10) (.tmp 42) (by rfl) (wo.drew.heap.size) #[.int .i64 4, .int .i64 (((c + 1 : Nat) : Int) + 1), .slice a b d] rfl rfl _ _ (HZ10.out) (by kernel_rfl) rfl (by simp [Value.oneCell']) ?_
          intro w11 hx11 hon11
          have HZ11 := Lib.hid hx11
          have HO11 := Lib.hid (HO10.out.onlyT hon11 HZ10.out (by decide))
          have hH11 : Blk w11 g 34 #[.slice pA 2 pc, .slice mA mn mc, .int .i64 4, .int .i64 ((c : Int) + 1), .slice oA on oc, .int .i64 4, .int .i64 1, .slice none 0 0, .slice none 0 0, .bool true] ∧ (∀ i u, ([.int .i64 gate, .int .i64 seq, .int .i64 ser, .int .i64 cnt, .int .i64 prod, .int .i64 lift, .int .i64 att] : List Value)[i]? = some u → w11.cell? ((ad.add (c * 7)).add i) = some u) := ⟨hon11.blk hH10.1 (by omega), fun i u hu => (hon11.cell (by rw [block_of_add, block_of_add]; exact hgz.2.2.1)).trans (hH10.2 i u hu)⟩
          have HB11 : Hid (Below wo.heap.size wo w11) := hide (hon11.below HB10.out hgz.2.2.2)
          clear hx11 hon11
          refine ⟨hH11, ?_⟩
          try simp only [Act.put]
          refine held_run 12 (some 11) (.assign (.tmp 43)) ?v8_1_21 (by rfl) (by kernel_rfl) (by kernel_rfl) (by kernel_rfl) (fun _ _ _ h => h) (fun o ho w hS => ?y8_1_21) (by assumption) ?r8_1_21
          case y8_1_21 => (try dsimp only at hS); unfold execOp; simp only [ho]; go_simp; try with_reducible rfl
          try simp only [Act.put, List.setIfInBounds_toArray, List.set_cons_zero, List.set_cons_succ]
          refine wpAnyH_done (by kernel_rfl) ?_ _
          go_wp2_with fail
          go_meet
          case rel => exact ⟨_, a, b, d, rfl, rfl, hgz.1, hgz.2.1, HZ11.out, HO11.out, HB11.out⟩
      obtain ⟨gi, a, b, d, rfl, rfl, hg1, hg2, hZ, hO, hB⟩ := hcut
      obtain ⟨w9, rfl⟩ : ∃ W : World, W = wc := ⟨_, rfl⟩
      have HZ9 := Lib.hid hZ
      have HO9 := Lib.hid hO
      have HX9 := Lib.hid (HXo.out.below hB hgo)
      have HY9 := Lib.hid (HYo.out.below hB HYo.out.lt)
      have HN9 := Lib.hid (HNo.out.now hB)
      have HL9 := Lib.hid (HLo.out.now hB)
      have HB9 : Hid (Below w.heap.size w w9) := hide (HBo.out.trans (hB.mono HBo.out.size))
      have hwg : w.heap.size ≤ g := by omega
      have hwg2 : w.heap.size ≠ g := by omega
      clear hZ hO hB hS HXo HYo HNo HOo HLo HBo HPost
      go_wp2_with
        (first
         | (refine wpList_load_blk rfl 30 (.tmp 10) rfl gi rfl _ _ HZ9.out _ Try.underlying30 rfl (by kernel_rfl) ?_)
         | (refine wpList_store_part 30 (.tmp 49) (.tmp 48) rfl rfl g 2 #[.int .i64 4, .int .i64 (((c + 1 : Nat) : Int) + 1), .slice a b d] rfl rfl 34 _ HX9.out (by kernel_rfl) (by simp) (by simp [Value.oneCell']) #[.slice pA 2 pc, .slice mA mn mc, .int .i64 4, .int .i64 (((c + 1 : Nat) : Int) + 1), .slice a b d, .int .i64 4, .int .i64 1, .slice none 0 0, .slice none 0 0, .bool true] rfl ?_
            intro w10 hx10 hon10
            have HX10 := Lib.hid hx10
            have HY10 := Lib.hid (hon10.blk HY9.out hwg2)
            have HN10 := Lib.hid (HN9.out.onlyT hon10 HX9.out (by decide) (by decide) (by decide))
            have HO10 := Lib.hid (HO9.out.onlyT hon10 HX9.out (by decide))
            have HL10 := Lib.hid (HL9.out.onlyT hon10 HX9.out (by decide))
            have HB10 : Hid (Below w.heap.size w w10) := hide (hon10.below HB9.out hwg)
            clear hx10 hon10))
      go_roundw
      case rel => exact ⟨c + 1, a, b, d, by omega, by go_num, HX10.out, HY10.out, HN10.out, HO10.out, HL10.out, HB10.out⟩
      case measure => simp [intOf]; omega
    · obtain rfl : c = ln := by omega
      have hwg : w.heap.size ≠ g := by omega
      go_wp2_with
        (first
         | (refine wpList_load_blk rfl 34 (.tmp 7) rfl g rfl _ _ HXo.out _ Try.underlying34 rfl (by kernel_rfl) ?_)
         | (refine wpList_store_blk rfl 34 (.tmp 2) (.tmp 50) rfl w.heap.size #[.slice pA 2 pc, .slice mA mn mc, .int .i64 4, .int .i64 ((c : Int) + 1), .slice oA on oc, .int .i64 4, .int .i64 1, .slice none 0 0, .slice none 0 0, .bool true] rfl rfl _ _ HYo.out (by kernel_rfl) rfl (by simp [Value.oneCell']) ?_
            intro w16 hx16 hon16
            have HX16 := Lib.hid hx16
            have HN16 := Lib.hid (HNo.out.onlyT hon16 HYo.out (by decide) (by decide) (by decide))
            have HO16 := Lib.hid (HOo.out.onlyT hon16 HYo.out (by decide))
            have HB16 : Hid (Below w.heap.size w w16) := hide (hon16.below HBo.out (Nat.le_refl _))
            clear hx16 hon16))
      refine bodyPost_ret (results_cell_row rfl _ _ w.heap.size 34 _ (0, 0) _ rfl HX16.out Try.underlying34 rfl (by kernel_rfl)) rfl ?_
      exact HFin.out _ _ _ _ HN16.out HO16.out HB16.out
end

section
open Go.RowKit

theorem LnV.parts {w : World} {n : Nat} {x : Lk} {v : Value} (h : LnV w n x v) : ∃ pA pc mA mn mc oA on oc gA gn gc eA en ec, v = .agg #[.slice pA 2 pc, .slice mA mn mc, .int .i64 4, .int .i64 ((n : Int) + 1), .slice oA on oc, .int .i64 4, .int .i64 ((x.k : Int) + 1), .slice gA gn gc, .slice eA en ec, .bool true] ∧ mn = x.mail.length ∧ on = n - x.a ∧ gn = x.k ∧ en = x.early.length := by
  obtain ⟨vp, vm, vo, vg, ve, rfl, h1, h2, h3, h4⟩ := h
  obtain ⟨pA, pc, mA, mn, mc, rfl, rfl, k1, _, _⟩ := h1.nam
  obtain ⟨oA, on, oc, rfl, k2, _⟩ := h2.parts
  obtain ⟨gA, gn, gc, rfl, k3, _⟩ := h3.parts
  obtain ⟨eA, en, ec, rfl, k4, _⟩ := h4.parts
  have k1 := k1.out
  have k2 := k2.out
  have k3 := k3.out
  have k4 := k4.out
  rw [List.length_map] at k1 k4
  rw [rdsN_len] at k2 k3
  exact ⟨pA, pc, mA, mn, mc, oA, on, oc, gA, gn, gc, eA, en, ec, rfl, k1.symm, k2.symm, k3.symm, k4.symm⟩
theorem LnV.onlyT {w w' : World} {n : Nat} {x : Lk} {v : Value} {g : Nat} (h : LnV w n x v) (ho : Only g w w') {t : TypeId} {cs : Array Value} (hb : Blk w g t cs) (h0 : t ≠ 3) (h1 : t ≠ 58) (h2 : t ≠ 5) (h3 : t ≠ 55) : LnV w' n x v := by
  obtain ⟨vp, vm, vo, vg, ve, rfl, k1, k2, k3, k4⟩ := h
  exact ⟨vp, vm, vo, vg, ve, rfl, k1.onlyT ho hb h0 h1 h2, k2.onlyT ho hb h3, k3.onlyT ho hb h3, k4.onlyT ho hb h3⟩
/-- another network in a link -/
theorem LnV.net {w : World} {n : Nat} {x : Lk} {a b c d e f g h i j a' b' : Value} (hv : LnV w n x (.agg #[a, b, c, d, e, f, g, h, i, j])) {p : Int} {l : List Ms} (hn : NetO w a' b' [0, p] (l.map ltN)) : LnV w n ⟨x.a, x.k, x.early, l, p⟩ (.agg #[a', b', c, d, e, f, g, h, i, j]) := by
  obtain ⟨vp, vm, vo, vg, ve, e1, k1, k2, k3, k4⟩ := hv
  injection e1 with e1
  injection e1 with e1
  simp only [List.cons.injEq, and_true] at e1
  obtain ⟨rfl, rfl, rfl, rfl, rfl, rfl, rfl, rfl, rfl, rfl⟩ := e1
  exact ⟨_, _, _, _, _, rfl, hn, k2, k3, k4⟩
theorem LnV.netO {w : World} {n : Nat} {x : Lk} {a b c d e f g h i j : Value} (hv : LnV w n x (.agg #[a, b, c, d, e, f, g, h, i, j])) : NetO w a b [0, x.p] (x.mail.map ltN) ∧ OwnRd w 0 e (rdsN (x.a + 1) (n - x.a)) ∧ OwnRd w 0 h (rdsN 1 x.k) ∧ OwnRd w 0 i (x.early.map rdN) := by
  obtain ⟨vp, vm, vo, vg, ve, e1, k1, k2, k3, k4⟩ := hv
  injection e1 with e1
  injection e1 with e1
  simp only [List.cons.injEq, and_true] at e1
  obtain ⟨rfl, rfl, rfl, rfl, rfl, rfl, rfl, rfl, rfl, rfl⟩ := e1
  exact ⟨k1, k2, k3, k4⟩
def loseN (l : List Ms) (i : Int) : List Ms := if i < 0 ∨ (l.length : Int) ≤ i then l else l.eraseIdx i.toNat
def copyN (l : List Ms) (i : Int) : List Ms := if i < 0 ∨ (l.length : Int) ≤ i ∨ 256 ≤ l.length then l else l ++ [l.getD i.toNat (.ack 0)]
/-- the network has other letters, or there is an error and they are the same -/
def NeR (p : Int) (l l0 : List Ms) (w : World) (e : Ending) (w' : World) : Prop := ∃ r pA pn pc mA mn mc, e = .returned (.tuple #[.agg #[.slice pA pn pc, .slice mA mn mc], .int .i64 r]) ∧ Below w.heap.size w w' ∧ ((r = 0 ∧ pn = 2 ∧ NetO w' (.slice pA pn pc) (.slice mA mn mc) [0, p] (l.map ltN)) ∨ ((r == 0) = false ∧ l = l0))
theorem lose_ms (n : Nat) (x : Lk) (i : Int) (pA : Option Addr) (pc : Nat) (mA : Option Addr) (mn mc : Nat) (w : World) (h : OKL n x) (hv : NetO w (.slice pA 2 pc) (.slice mA mn mc) [0, x.p] (x.mail.map ltN)) :
    Calls Try.prog 8 #[.agg #[.slice pA 2 pc, .slice mA mn mc], .int .i64 i] w (NeR x.p (loseN x.mail i) x.mail w) := by
  obtain ⟨pA', pc', mA', mn', mc', e1, e2, hmn, h1, h2⟩ := hv.nam
  injection e1 with e3 e4 e5
  injection e2 with e6 e7 e8
  subst e3 e5 e6 e7 e8
  have hl : x.mail.length = mn := by rw [← hmn.out, List.length_map]
  have hlen := h.len
  unfold loseN
  by_cases hi : i < 0 ∨ (x.mail.length : Int) ≤ i
  · rw [if_pos hi]
    refine (lose_no _ mA mn mc i w ⟨_, _, _, rfl⟩ (by omega)).mono ?_
    rintro e w' ⟨rfl, hb⟩
    exact ⟨8, none, 0, 0, none, 0, 0, rfl, hb, .inr ⟨rfl, rfl⟩⟩
  · rw [if_neg hi]
    obtain ⟨j, rfl⟩ : ∃ j : Nat, i = (j : Int) := ⟨i.toNat, by omega⟩
    refine (lose_any pA pc mA mn mc j _ _ w h1 h2 (by omega) (ms_len h.inv.ms h.inv.kn h.n20) (by omega)).mono ?_
    rintro e w' ⟨vp, vm, rfl, hN, hb⟩
    obtain ⟨qA, qc, rA, rn, rc, rfl, rfl, _, _, _⟩ := hN.nam
    rw [erase_map] at hN
    exact ⟨0, qA, 2, qc, rA, rn, rc, rfl, hb, .inl ⟨rfl, rfl, hN⟩⟩
theorem copy_ms (n : Nat) (x : Lk) (i : Int) (pA : Option Addr) (pc : Nat) (mA : Option Addr) (mn mc : Nat) (w : World) (h : OKL n x) (hv : NetO w (.slice pA 2 pc) (.slice mA mn mc) [0, x.p] (x.mail.map ltN)) :
    Calls Try.prog 9 #[.agg #[.slice pA 2 pc, .slice mA mn mc], .int .i64 i] w (NeR x.p (copyN x.mail i) x.mail w) := by
  obtain ⟨pA', pc', mA', mn', mc', e1, e2, hmn, h1, h2⟩ := hv.nam
  injection e1 with e3 e4 e5
  injection e2 with e6 e7 e8
  subst e3 e5 e6 e7 e8
  have hl : x.mail.length = mn := by rw [← hmn.out, List.length_map]
  have hlen := h.len
  unfold copyN
  by_cases hi : i < 0 ∨ (x.mail.length : Int) ≤ i
  · rw [if_pos (by omega)]
    refine (copy_no _ mA mn mc i w ⟨_, _, _, rfl⟩ (by omega)).mono ?_
    rintro e w' ⟨rfl, hb⟩
    exact ⟨8, none, 0, 0, none, 0, 0, rfl, hb, .inr ⟨rfl, rfl⟩⟩
  · obtain ⟨j, rfl⟩ : ∃ j : Nat, i = (j : Int) := ⟨i.toNat, by omega⟩
    by_cases hf : 256 ≤ x.mail.length
    · rw [if_pos (by omega)]
      refine (copy_full _ mA mn mc j w ⟨_, _, _, rfl⟩ (by omega) (by omega)).mono ?_
      rintro e w' ⟨rfl, hb⟩
      exact ⟨9, none, 0, 0, none, 0, 0, rfl, hb, .inr ⟨rfl, rfl⟩⟩
    · rw [if_neg (by omega)]
      refine (copy_any pA pc mA mn mc j _ _ w h1 h2 (by omega) (ms_len h.inv.ms h.inv.kn h.n20) (by omega)).mono ?_
      rintro e w' ⟨vp, vm, rfl, hN, hb⟩
      obtain ⟨qA, qc, rA, rn, rc, rfl, rfl, _, _, _⟩ := hN.nam
      have hq : x.mail.map ltN ++ [(x.mail.map ltN).getD j lt0] = (x.mail ++ [x.mail.getD j (.ack 0)]).map ltN := by
        rw [List.map_append, List.getD_eq_getElem?_getD, List.getElem?_map, List.getD_eq_getElem?_getD, List.getElem?_eq_getElem (show j < x.mail.length by omega)]
        rfl
      rw [hq] at hN
      exact ⟨0, qA, 2, qc, rA, rn, rc, rfl, hb, .inl ⟨rfl, rfl, hN⟩⟩
theorem split_ms (n : Nat) (x : Lk) (q : Int) (g : Nat) (pA : Option Addr) (pc : Nat) (mA : Option Addr) (mn mc : Nat) (w : World) (h : OKL n x) (hv : NetO w (.slice pA 2 pc) (.slice mA mn mc) [0, x.p] (x.mail.map ltN)) (hq : q = 0 ∨ q = 1) (hB : Blk w g 3 #[.int .i64 0, .int .i64 q]) :
    Calls Try.prog 10 #[.agg #[.slice pA 2 pc, .slice mA mn mc], .slice (some ⟨g, 0, none⟩) 2 2] w fun e w' => ∃ pA pc mA mn mc, e = .returned (.tuple #[.agg #[.slice pA 2 pc, .slice mA mn mc], .int .i64 0]) ∧ Below w.heap.size w w' ∧ NetO w' (.slice pA 2 pc) (.slice mA mn mc) [0, q] (x.mail.map ltN) := by
  obtain ⟨pA', pc', mA', mn', mc', e1, e2, hmn, h1, h2⟩ := hv.nam
  injection e1 with e3 e4 e5
  injection e2 with e6 e7 e8
  subst e3 e5 e6 e7 e8
  have hl : x.mail.length = mn := by rw [← hmn.out, List.length_map]
  have hlen := h.len
  refine (split_any pA pc mA mn mc (some ⟨g, 0, none⟩) 2 _ [0, q] _ w h1 h2 (by omega) (ms_len h.inv.ms h.inv.kn h.n20) (reads_blk (n := 2) (s := 1) hB rfl) (fun i hi => ?_)).mono ?_
  · match i, hi with
    | 0, _ => exact ⟨by show (0 : Int) ≤ 0; omega, by show (0 : Int) ≤ 16; omega⟩
    | 1, _ => exact ⟨by show (0 : Int) ≤ q; omega, by show q ≤ 16; omega⟩
  · rintro e w' ⟨vp, vm, rfl, hN, hb⟩
    obtain ⟨qA, qc, rA, rn, rc, rfl, rfl, _, _, _⟩ := hN.nam
    exact ⟨qA, qc, rA, rn, rc, rfl, hb, hN⟩
theorem loseN_ok {n : Nat} {x : Lk} (h : OKL n x) (i : Int) : OKL n ⟨x.a, x.k, x.early, loseN x.mail i, x.p⟩ := by
  have hlen := h.len
  unfold loseN
  split
  · exact h
  · refine ⟨h.inv.mail fun m hm => h.inv.ms m (List.mem_of_mem_eraseIdx hm), h.n20, ?_, h.pp⟩
    show (x.mail.eraseIdx i.toNat).length ≤ 256
    have := List.length_eraseIdx_le x.mail i.toNat
    omega
theorem copyN_ok {n : Nat} {x : Lk} (h : OKL n x) (i : Int) : OKL n ⟨x.a, x.k, x.early, copyN x.mail i, x.p⟩ := by
  have hlen := h.len
  unfold copyN
  split
  · exact h
  · rename_i hi
    refine ⟨h.inv.mail fun m hm => ?_, h.n20, ?_, h.pp⟩
    · rcases List.mem_append.1 hm with hm | hm
      · exact h.inv.ms m hm
      · rw [List.mem_singleton] at hm
        subst hm
        have hj : i.toNat < x.mail.length := by omega
        rw [List.getD_eq_getElem?_getD, List.getElem?_eq_getElem hj, Option.getD_some]
        exact h.inv.ms _ (List.getElem_mem hj)
    · show (x.mail ++ [_]).length ≤ 256
      rw [List.length_append, List.length_singleton]
      omega
end

section
open Go.RowKit

theorem LnV.parts2 {w : World} {n : Nat} {x : Lk} {v : Value} (h : LnV w n x v) : ∃ pA pc mA mn mc n1 oA on oc k1 gA gn gc eA en ec, v = .agg #[.slice pA 2 pc, .slice mA mn mc, .int .i64 4, .int .i64 n1, .slice oA on oc, .int .i64 4, .int .i64 k1, .slice gA gn gc, .slice eA en ec, .bool true] ∧ Hid (mn = x.mail.length) ∧ Hid (on = n - x.a) ∧ Hid (gn = x.k) := by
  obtain ⟨pA, pc, mA, mn, mc, oA, on, oc, gA, gn, gc, eA, en, ec, h1, h2, h3, h4, _⟩ := h.parts
  exact ⟨pA, pc, mA, mn, mc, _, oA, on, oc, _, gA, gn, gc, eA, en, ec, h1, hide h2, hide h3, hide h4⟩
theorem OKL.start {n : Nat} (h : n ≤ 20) : OKL n ⟨0, 0, [], [], 0⟩ := ⟨⟨Nat.le_refl _, Nat.zero_le _, trivial, fun m hm => by cases hm⟩, h, by show (0 : Nat) ≤ 256; omega, .inl rfl⟩
set_option maxRecDepth 100000 in
set_option maxHeartbeats 16000000 in
theorem linkAlive_any (w : World) : Calls Try.prog 4 #[] w (BoR true w) := by
  obtain ⟨X0, hX0⟩ : ∃ X : Lk, X = ⟨0, 0, [], [], 0⟩ := ⟨_, rfl⟩
  obtain ⟨X1, hX1⟩ : ∃ X : Lk, X = uploadN 1 X0 := ⟨_, rfl⟩
  obtain ⟨X2, hX2⟩ : ∃ X : Lk, X = ⟨X1.a, X1.k, X1.early, loseN X1.mail 0, X1.p⟩ := ⟨_, rfl⟩
  obtain ⟨X3, hX3⟩ : ∃ X : Lk, X = uploadN 1 X2 := ⟨_, rfl⟩
  obtain ⟨X4, hX4⟩ : ∃ X : Lk, X = arriveN X3 0 := ⟨_, rfl⟩
  obtain ⟨X5, hX5⟩ : ∃ X : Lk, X = arriveN X4 0 := ⟨_, rfl⟩
  have O0 : OKL 1 X0 := by rw [hX0]; exact OKL.start (by omega)
  have O1 : OKL 1 X1 := by rw [hX1]; exact O0.upload
  have O2 : OKL 1 X2 := by rw [hX2]; exact loseN_ok O1 0
  have O3 : OKL 1 X3 := by rw [hX3]; exact O2.upload
  have O4 : OKL 1 X4 := by rw [hX4]; exact O3.arrive 0
  have hL : loseN X1.mail 0 ≠ X1.mail := by rw [hX1, hX0]; decide
  have hE : X5.k = 1 ∧ 1 - X5.a = 0 := by rw [hX5, hX4, hX3, hX2, hX1, hX0]; decide
  have HOp : Hid (Calls Try.prog 5 #[.int .i64 1] w (LkR 1 X0 w)) := hide (by rw [hX0]; exact opened_any 1 w (by omega))
  have HU0 : Hid (∀ v W, LnV W 1 X0 v → Calls Try.prog 11 #[v] W (LkR 1 X1 W)) := fun v W hv => by rw [hX1]; exact upload_any 1 X0 v W O0 hv
  have HU2 : Hid (∀ v W, LnV W 1 X2 v → Calls Try.prog 11 #[v] W (LkR 1 X3 W)) := fun v W hv => by rw [hX3]; exact upload_any 1 X2 v W O2 hv
  have HA3 : Hid (∀ v W, LnV W 1 X3 v → Calls Try.prog 7 #[v, .int .i64 0] W (LkR 1 X4 W)) := fun v W hv => by rw [hX4]; exact arrive_any 1 X3 0 v W O3 hv
  have HA4 : Hid (∀ v W, LnV W 1 X4 v → Calls Try.prog 7 #[v, .int .i64 0] W (LkR 1 X5 W)) := fun v W hv => by rw [hX5]; exact arrive_any 1 X4 0 v W O4 hv
  have HLo : Hid (∀ pA pc mA mn mc W, NetO W (.slice pA 2 pc) (.slice mA mn mc) [0, X1.p] (X1.mail.map ltN) → Calls Try.prog 8 #[.agg #[.slice pA 2 pc, .slice mA mn mc], .int .i64 0] W (NeR X1.p (loseN X1.mail 0) X1.mail W)) := fun pA pc mA mn mc W hv => lose_ms 1 X1 0 pA pc mA mn mc W O1 hv
  have HN2 : Hid (∀ {W} {a b c d e f g h i j a' b' : Value}, LnV W 1 X1 (.agg #[a, b, c, d, e, f, g, h, i, j]) → NetO W a' b' [0, X1.p] ((loseN X1.mail 0).map ltN) → LnV W 1 X2 (.agg #[a', b', c, d, e, f, g, h, i, j])) := fun hv hn => by rw [hX2]; exact hv.net hn
  have HFin : Hid (∀ w', Below w.heap.size w w' → BoR true w (.returned (.bool true)) w') := fun w' h => ⟨rfl, h⟩
  generalize BoR true w = RR at *
  clear hX0 hX1 hX2 hX3 hX4 hX5 O0 O1 O2 O3 O4
  go_enter Try.func4, Try.ntmps4
  go_wp2_with fail
  with_reducible refine HOp.out.mono ?_
  rintro e w1 ⟨v1, rfl, hv1, hb1⟩
  obtain ⟨paA, pac, maA, man, mac, na, oaA, oan, oac, ka, gaA, gan, gac, eaA, ean, eac, rfl, hma, hoa, hga⟩ := hv1.parts2
  have HV1 := Lib.hid hv1
  have HB1 := Lib.hid hb1
  have hgw : w.heap.size ≤ w1.heap.size := hb1.size
  clear hv1 hb1 HOp
  go_upto_region 2 with (fail)
  have HBw2 := (Blk.new w1 34 #[.slice paA 2 pac, .slice maA man mac, .int .i64 4, .int .i64 na, .slice oaA oan oac, .int .i64 4, .int .i64 ka, .slice gaA gan gac, .slice eaA ean eac, .bool true])
  have HLw2 := (below_new w1 (.cells #[.slice paA 2 pac, .slice maA man mac, .int .i64 4, .int .i64 na, .slice oaA oan oac, .int .i64 4, .int .i64 ka, .slice gaA gan gac, .slice eaA ean eac, .bool true] 34))
  have hsw2 : (w1.alloc (.cells #[.slice paA 2 pac, .slice maA man mac, .int .i64 4, .int .i64 na, .slice oaA oan oac, .int .i64 4, .int .i64 ka, .slice gaA gan gac, .slice eaA ean eac, .bool true] 34)).heap.size = w1.heap.size + 1 := by simp
  generalize w1.alloc (.cells #[.slice paA 2 pac, .slice maA man mac, .int .i64 4, .int .i64 na, .slice oaA oan oac, .int .i64 4, .int .i64 ka, .slice gaA gan gac, .slice eaA ean eac, .bool true] 34) = w2 at HBw2 HLw2 hsw2 ⊢
  replace HBw2 := Lib.hid HBw2
  replace HLw2 := Lib.hid HLw2
  have hlw2 : w1.heap.size < w2.heap.size := by omega
  replace hsw2 := Lib.hid hsw2
  have HX2 := HBw2
  have HV2 := Lib.hid (HV1.out.now HLw2.out)
  have HB2 : Hid (Below w.heap.size w w2) := hide (HB1.out.trans (HLw2.out.mono HB1.out.size))
  clear HBw2 HLw2 hsw2 hlw2 HV1 HB1
  generalize w1.heap.size = g at *
  go_wp2_with (refine wpList_load_blk rfl 34 (.tmp 1) rfl g rfl _ _ HX2.out _ Try.underlying34 rfl (by kernel_rfl) ?_)
  with_reducible refine (HU0.out _ w2 HV2.out).mono ?_
  rintro e w3 ⟨v3, rfl, hv3, hb3⟩
  obtain ⟨pbA, pbc, mbA, mbn, mbc, nb, obA, obn, obc, kb, gbA, gbn, gbc, ebA, ebn, ebc, rfl, hmb, hob, hgb⟩ := hv3.parts2
  have HX3 := Lib.hid (HX2.out.below hb3 HX2.out.lt)
  have HB3 : Hid (Below w.heap.size w w3) := hide (HB2.out.trans (hb3.mono HB2.out.size))
  have HV3 := Lib.hid hv3
  clear hb3 hv3 HX2 HB2 HV2
  go_upto_region 3 with
    (refine wpList_store_blk rfl 34 (.tmp 1) (.tmp 6) rfl g #[.slice pbA 2 pbc, .slice mbA mbn mbc, .int .i64 4, .int .i64 nb, .slice obA obn obc, .int .i64 4, .int .i64 kb, .slice gbA gbn gbc, .slice ebA ebn ebc, .bool true] rfl rfl _ _ HX3.out (by kernel_rfl) rfl (by simp [Value.oneCell']) ?_
     intro w4 hx4 hon4
     have HX4 := Lib.hid hx4
     have HV4 := Lib.hid (HV3.out.onlyT hon4 HX3.out (by decide) (by decide) (by decide) (by decide))
     have HB4 : Hid (Below w.heap.size w w4) := hide (hon4.below HB3.out hgw)
     clear hx4 hon4)
  clear HX3 HV3 HB3
  go_wp2_with (refine wpList_load_at 27 (.tmp 8) rfl rfl ⟨g, 0, none⟩ rfl [.slice pbA 2 pbc, .slice mbA mbn mbc] (HX4.out.part 0 _ rfl) _ Try.underlying27 rfl (by kernel_rfl) ?_)
  with_reducible refine (HLo.out pbA pbc mbA mbn mbc w4 HV4.out.netO.1).mono ?_
  rintro e w5 ⟨r, qA, qn, qc, rA, rn, rc, rfl, hb5, hr⟩
  replace hr := hr.resolve_right fun h => hL h.2
  obtain ⟨rfl, rfl, hn5⟩ := hr
  have HX5 := Lib.hid (HX4.out.below hb5 HX4.out.lt)
  have HV5 := Lib.hid (HV4.out.now hb5)
  have HB5 : Hid (Below w.heap.size w w5) := hide (HB4.out.trans (hb5.mono HB4.out.size))
  have HM5 := Lib.hid hn5
  clear hb5 hn5 HX4 HV4 HB4 hL
  go_upto_region 4 with (fail)
  have HBw6 := (Blk.new w5 27 #[.slice qA 2 qc, .slice rA rn rc])
  have HLw6 := (below_new w5 (.cells #[.slice qA 2 qc, .slice rA rn rc] 27))
  have hsw6 : (w5.alloc (.cells #[.slice qA 2 qc, .slice rA rn rc] 27)).heap.size = w5.heap.size + 1 := by simp
  generalize w5.alloc (.cells #[.slice qA 2 qc, .slice rA rn rc] 27) = w6 at HBw6 HLw6 hsw6 ⊢
  replace HBw6 := Lib.hid HBw6
  replace HLw6 := Lib.hid HLw6
  have hlw6 : w5.heap.size < w6.heap.size := by omega
  replace hsw6 := Lib.hid hsw6
  have HX6 := Lib.hid (HX5.out.below HLw6.out HX5.out.lt)
  have HV6 := Lib.hid (HV5.out.now HLw6.out)
  have HM6 := Lib.hid (HM5.out.now HLw6.out)
  have HB6 : Hid (Below w.heap.size w w6) := hide (HB5.out.trans (HLw6.out.mono HB5.out.size))
  clear HLw6 hsw6 HX5 HV5 HM5 HB5
  go_upto_region 5 with
    (first
     | (refine wpList_load_blk rfl 27 (.tmp 2) rfl w5.heap.size rfl _ _ HBw6.out _ Try.underlying27 rfl (by kernel_rfl) ?_)
     | (refine wpList_store_part 27 (.tmp 14) (.tmp 13) rfl rfl g 0 #[.slice qA 2 qc, .slice rA rn rc] rfl rfl 34 _ HX6.out (by kernel_rfl) (by simp) (by simp [Value.oneCell']) #[.slice qA 2 qc, .slice rA rn rc, .int .i64 4, .int .i64 nb, .slice obA obn obc, .int .i64 4, .int .i64 kb, .slice gbA gbn gbc, .slice ebA ebn ebc, .bool true] rfl ?_
        intro w7 hx7 hon7
        have HX7 := Lib.hid hx7
        have HV7 := Lib.hid (HN2.out (HV6.out.onlyT hon7 HX6.out (by decide) (by decide) (by decide) (by decide)) (HM6.out.onlyT hon7 HX6.out (by decide) (by decide) (by decide)))
        have HB7 : Hid (Below w.heap.size w w7) := hide (hon7.below HB6.out hgw)
        clear hx7 hon7))
  clear HX6 HV6 HM6 HB6 HBw6
  go_wp2_with (refine wpList_load_blk rfl 34 (.tmp 1) rfl g rfl _ _ HX7.out _ Try.underlying34 rfl (by kernel_rfl) ?_)
  with_reducible refine (HU2.out _ w7 HV7.out).mono ?_
  rintro e w8 ⟨v8, rfl, hv8, hb8⟩
  obtain ⟨pcA, pcc, mcA, mcn, mcc, nc, ocA, ocn, occ, kc, gcA, gcn, gcc, ecA, ecn, ecc, rfl, hmc, hoc, hgc⟩ := hv8.parts2
  have HX8 := Lib.hid (HX7.out.below hb8 HX7.out.lt)
  have HB8 : Hid (Below w.heap.size w w8) := hide (HB7.out.trans (hb8.mono HB7.out.size))
  have HV8 := Lib.hid hv8
  clear hb8 hv8 HX7 HB7 HV7
  go_upto_region 6 with
    (refine wpList_store_blk rfl 34 (.tmp 1) (.tmp 16) rfl g #[.slice pcA 2 pcc, .slice mcA mcn mcc, .int .i64 4, .int .i64 nc, .slice ocA ocn occ, .int .i64 4, .int .i64 kc, .slice gcA gcn gcc, .slice ecA ecn ecc, .bool true] rfl rfl _ _ HX8.out (by kernel_rfl) rfl (by simp [Value.oneCell']) ?_
     intro w9 hx9 hon9
     have HX9 := Lib.hid hx9
     have HV9 := Lib.hid (HV8.out.onlyT hon9 HX8.out (by decide) (by decide) (by decide) (by decide))
     have HB9 : Hid (Below w.heap.size w w9) := hide (hon9.below HB8.out hgw)
     clear hx9 hon9)
  clear HX8 HV8 HB8
  go_wp2_with (refine wpList_load_blk rfl 34 (.tmp 1) rfl g rfl _ _ HX9.out _ Try.underlying34 rfl (by kernel_rfl) ?_)
  with_reducible refine (HA3.out _ w9 HV9.out).mono ?_
  rintro e w10 ⟨v10, rfl, hv10, hb10⟩
  obtain ⟨pdA, pdc, mdA, mdn, mdc, nd, odA, odn, odc, kd, gdA, gdn, gdc, edA, edn, edc, rfl, hmd, hod, hgd⟩ := hv10.parts2
  have HX10 := Lib.hid (HX9.out.below hb10 HX9.out.lt)
  have HB10 : Hid (Below w.heap.size w w10) := hide (HB9.out.trans (hb10.mono HB9.out.size))
  have HV10 := Lib.hid hv10
  clear hb10 hv10 HX9 HB9 HV9
  go_upto_region 7 with
    (refine wpList_store_blk rfl 34 (.tmp 1) (.tmp 18) rfl g #[.slice pdA 2 pdc, .slice mdA mdn mdc, .int .i64 4, .int .i64 nd, .slice odA odn odc, .int .i64 4, .int .i64 kd, .slice gdA gdn gdc, .slice edA edn edc, .bool true] rfl rfl _ _ HX10.out (by kernel_rfl) rfl (by simp [Value.oneCell']) ?_
     intro w11 hx11 hon11
     have HX11 := Lib.hid hx11
     have HV11 := Lib.hid (HV10.out.onlyT hon11 HX10.out (by decide) (by decide) (by decide) (by decide))
     have HB11 : Hid (Below w.heap.size w w11) := hide (hon11.below HB10.out hgw)
     clear hx11 hon11)
  clear HX10 HV10 HB10
  go_wp2_with (refine wpList_load_blk rfl 34 (.tmp 1) rfl g rfl _ _ HX11.out _ Try.underlying34 rfl (by kernel_rfl) ?_)
  with_reducible refine (HA4.out _ w11 HV11.out).mono ?_
  rintro e w12 ⟨v12, rfl, hv12, hb12⟩
  obtain ⟨pfA, pfc, mfA, mfn, mfc, nf, ofA, ofn, ofc, kf, gfA, gfn, gfc, efA, efn, efc, rfl, hmf, hof, hgf⟩ := hv12.parts2
  have HX12 := Lib.hid (HX11.out.below hb12 HX11.out.lt)
  have HB12 : Hid (Below w.heap.size w w12) := hide (HB11.out.trans (hb12.mono HB11.out.size))
  have HV12 := Lib.hid hv12
  clear hb12 hv12 HX11 HB11 HV11
  go_upto_region 8 with
    (refine wpList_store_blk rfl 34 (.tmp 1) (.tmp 20) rfl g #[.slice pfA 2 pfc, .slice mfA mfn mfc, .int .i64 4, .int .i64 nf, .slice ofA ofn ofc, .int .i64 4, .int .i64 kf, .slice gfA gfn gfc, .slice efA efn efc, .bool true] rfl rfl _ _ HX12.out (by kernel_rfl) rfl (by simp [Value.oneCell']) ?_
     intro w13 hx13 hon13
     have HX13 := Lib.hid hx13
     have HV13 := Lib.hid (HV12.out.onlyT hon13 HX12.out (by decide) (by decide) (by decide) (by decide))
     have HB13 : Hid (Below w.heap.size w w13) := hide (hon13.below HB12.out hgw)
     clear hx13 hon13)
  clear HX12 HV12 HB12
  have hk : gfn = 1 := by rw [hgf.out]; exact hE.1
  have ho : ofn = 0 := by rw [hof.out]; exact hE.2
  clear hmf hof hgf hE
  subst hk ho
  have z9 : w13.cell? ⟨g, 9, none⟩ = some (.bool true) := HX13.out.cell 9
  have z7 : w13.cell? ⟨g, 7, none⟩ = some (.slice gfA 1 gfc) := HX13.out.cell 7
  have z4 : w13.cell? ⟨g, 4, none⟩ = some (.slice ofA 0 ofc) := HX13.out.cell 4
  go_wp2_with fail
  try go_ret
  exact HFin.out _ HB13.out
end
end Go.Proofs.Ytedeggjefnpjgaa
