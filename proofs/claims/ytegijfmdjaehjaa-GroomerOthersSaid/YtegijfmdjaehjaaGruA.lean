/-
  The checks of vehicles of chapter 45, of the program and of its reference, walked.
-/
import Derived.Test.YtegijfmdjaehjaaGruM
namespace Go.Proofs.Ytegijfmdjaehjaa
open Go.RowKit

theorem ret_ng {k : IntKind} {a b : Int} (h : a = b) : Ending.returned (.int k a) = .returned (.int k b) := by rw [h]
def seenB (xs : List Int) (z : Int) : Option Bool := if xs.contains z = true then some true else none
theorem seenB_put (xs : List Int) (z : Int) : putF (seenB xs) z true = seenB (xs ++ [z]) := by
  funext y
  unfold putF seenB
  by_cases h : y = z
  · rw [if_pos h, if_pos (by simp [h])]
  · rw [if_neg h]
    by_cases h2 : y ∈ xs
    · rw [if_pos (by simpa using h2), if_pos (by simp [h2])]
    · rw [if_neg (by simpa using h2), if_neg (by simp [h2, h])]
theorem seenB_get (xs : List Int) (z : Int) : (seenB xs z).getD false = xs.contains z := by
  unfold seenB
  cases xs.contains z <;> rfl
theorem seenB_nil : seenB [] = fun _ => none := by funext z; rfl
theorem inG_def (id nod fuel st tg run til : Int) (win : Bool) : inG ⟨id, nod, fuel, st, tg, run, til, win⟩ = decide (1 ≤ id ∧ id ≤ 9999 ∧ 1 ≤ nod ∧ nod ≤ 9999 ∧ 0 ≤ fuel ∧ fuel ≤ 1000000 ∧ 0 ≤ st ∧ st ≤ 2 ∧ 0 ≤ til ∧ til ≤ 20000000 ∧ 0 ≤ tg ∧ tg ≤ 9999 ∧ 0 ≤ run ∧ run ≤ 9999) := rfl

set_option maxRecDepth 100000 in
set_option maxHeartbeats 4000000 in
theorem ginr_any (id nod fuel st tg run til : Int) (win b : Bool) (w : World) (hb : inG ⟨id, nod, fuel, st, tg, run, til, win⟩ = b) :
    Calls Try.prog 32 #[.agg #[.int .i64 id, .int .i64 nod, .int .i64 fuel, .int .i64 st, .int .i64 tg, .int .i64 run, .int .i64 til, .bool win]] w fun e w' => e = .returned (.bool b) ∧ Below w.heap.size w w' := by
  have HOk := Lib.hid (inG_of _ _ _ _ _ _ _ _ _ hb.symm)
  clear hb
  go_enter Try.func32, Try.ntmps32
  go_wp2_with fail
  all_goals (go_ret; refine ⟨ret_bg ?_, below_new _ _⟩; rw [HOk.out]; clear HOk; simp [*] <;> omega)
set_option maxRecDepth 100000 in
set_option maxHeartbeats 4000000 in
theorem rin_any (x lo hi : Int) (b : Bool) (w : World) (hb : (decide (lo ≤ x) && decide (x ≤ hi)) = b) : Calls Try.prog 33 #[.int .i64 x, .int .i64 lo, .int .i64 hi] w fun e w' => e = .returned (.bool b) ∧ w = w' := by
  subst hb
  go_enter Try.func33, Try.ntmps33
  by_cases h : lo ≤ x
  · go_wp2
    go_ret
    exact ⟨ret_bg (by simp [h]), rfl⟩
  · have hd : decide (lo ≤ x) = false := by simpa using h
    go_wp2
    go_ret
    exact ⟨rfl, rfl⟩
theorem find_seen (l : List Gr) (i : Int) : (l.map Gr.id).contains i = decide (findG l i ≥ 0) := by
  unfold findG
  rcases idxG_is (fun x => x.id == i) l 0 with ⟨h1, h2⟩ | ⟨k, h1, h2, h3, _⟩
  · rw [h1, show decide ((-1 : Int) ≥ 0) = false by decide]
    rw [Bool.eq_false_iff]
    intro h
    obtain ⟨x, hx, e⟩ := List.mem_map.1 (List.contains_iff_mem.1 h)
    have := h2 x hx
    simp [e] at this
  · rw [h1, decide_eq_true (by omega)]
    rw [List.contains_iff_mem]
    exact List.mem_map.2 ⟨_, gr_mem h2, by simpa using h3⟩
set_option maxRecDepth 100000 in
set_option maxHeartbeats 4000000 in
theorem rindex_any (v : Value) (l : List Gr) (i : Int) (w : World) (hv : GrV w w.heap.size v l) :
    Calls Try.prog 34 #[v, .int .i64 i] w fun e w' => e = .returned (.int .i64 (findG l i)) ∧ w = w' := by
  obtain ⟨A, n, c, rfl, HN, hc1, hc2, hr⟩ := hv.nam
  have HR := Lib.hid hr
  have hm : n ≤ maxLen := Nat.le_trans hc1 hc2
  have HS0 : Hid (findG l i = idxG (fun x => x.id == i) (l.drop 0) 0) := hide rfl
  generalize findG l i = R at *
  unfold maxLen at hm hc2
  clear hv hr
  go_enter Try.func34, Try.ntmps34
  go_wp2_with fail
  go_loopw [5] (fun v wr => ∃ k : Nat, k ≤ n ∧ v = .int .i64 k ∧ R = idxG (fun x => x.id == i) (l.drop k) k ∧ w = wr) (fun v _ => n - (intOf v).toNat)
  case atStart => exact ⟨0, by omega, rfl, HS0.out, rfl⟩
  case round =>
    obtain ⟨k, hk, rfl, hF, rfl⟩ := hrel
    have HF := Lib.hid hF
    clear hF
    by_cases hlt : k < n
    · obtain ⟨ad, rfl, hab, hcl⟩ := strs_at HR.out (fun _ => rfl) HN.out hlt gr0
      have HF1 := Lib.hid (HF.out.trans (idxG_at (fun x => x.id == i) (l := l) (k := k) (by rw [HN.out]; exact hlt)))
      generalize l.getD k gr0 = g at *
      obtain ⟨id, nod, fuel, st, tg, run, til, win⟩ := g
      have f0 : w.cell? (ad.add (k * 8)) = some (.int .i64 id) := by
        have h := hcl 0 _ rfl
        rwa [show (ad.add (k * 8)).add 0 = ad.add (k * 8) by unfold Addr.add; simp] at h
      clear hcl
      by_cases hid : id = i
      · have d1 : (id == i) = true := beq_iff_eq.2 hid
        have HE : Hid (R = (k : Int)) := hide (by have h := HF1.out; simp only [d1, if_true] at h; exact h)
        clear hid
        go_wp2_with fail
        go_ret
        exact ⟨ret_ng HE.out.symm, rfl⟩
      · have d1 : (id == i) = false := beq_eq_false_iff_ne.2 hid
        have HE : Hid (R = idxG (fun x => x.id == i) (l.drop (k + 1)) (k + 1)) := hide (by have h := HF1.out; simp only [d1] at h; exact h)
        clear hid
        go_wp2_with fail
        go_roundw
        case rel => exact ⟨k + 1, by omega, by go_num, HE.out, by first | trivial | rfl⟩
        case measure => simp [intOf]; omega
    · obtain rfl : k = n := by omega
      have HE : Hid (R = -1) := hide (by have h := HF.out; rw [List.drop_of_length_le (by rw [HN.out]; exact Nat.le_refl _)] at h; exact h)
      go_wp2_with fail
      go_ret
      exact ⟨ret_ng HE.out.symm, rfl⟩

def GRightR (l : List Gr) (w : World) (e : Ending) (w' : World) : Prop := e = .returned (.int .i64 ((rightG l : Nat) : Int)) ∧ Below w.heap.size w w'
theorem okG_def (id nod fuel st tg run til : Int) (win : Bool) : okG ⟨id, nod, fuel, st, tg, run, til, win⟩ = decide ((tg ≠ 0 ↔ st = 1) ∧ (run ≠ 0 ↔ st = 2)) := rfl
theorem okG_bits {t0 t1 t2 t3 : Bool} {tg st run : Int} (h0 : decide (tg = 0) = t0) (h1 : decide (st = 1) = t1) (h2 : decide (run = 0) = t2) (h3 : decide (st = 2) = t3) : decide ((tg ≠ 0 ↔ st = 1) ∧ (run ≠ 0 ↔ st = 2)) = (((!t0) == t1) && ((!t2) == t3)) := by
  subst h0 h1 h2 h3
  by_cases a : tg = 0 <;> by_cases b : st = 1 <;> by_cases c : run = 0 <;> by_cases d : st = 2 <;> simp [a, b, c, d]
set_option maxRecDepth 100000 in
set_option maxHeartbeats 4000000 in
theorem gright_any (v : Value) (l : List Gr) (w : World) (hv : GrV w w.heap.size v l) : Calls Try.prog 12 #[v] w (GRightR l w) := by
  obtain ⟨A, n, c, rfl, HN, hc1, hc2, hr⟩ := hv.nam
  have HR := Lib.hid hr
  have hm : n ≤ maxLen := Nat.le_trans hc1 hc2
  have HLong : Hid (16 < n → rightG l = 4) := fun h => by unfold rightG; rw [if_pos (by rw [HN.out]; exact h)]
  have HShort : Hid (¬ 16 < n → chkG [] (l.drop 0) = rightG l) := fun h => by unfold rightG; rw [if_neg (by rw [HN.out]; exact h)]; rfl
  have HFin : Hid (∀ (x : Nat) (w' : World), rightG l = x → Below w.heap.size w w' → GRightR l w (.returned (.int .i64 (x : Int))) w') := fun x w' h1 h2 => by subst h1; exact ⟨rfl, h2⟩
  generalize GRightR l w = RR at *
  obtain ⟨R, hR⟩ : ∃ x, rightG l = x := ⟨_, rfl⟩
  rw [hR] at HLong HShort HFin
  clear hR hv hr
  unfold maxLen at hm hc2
  have hmk : ∀ (w : World), (Instr.makeMap 62 none).run Try.prog w = .ok (.map (some w.heap.size)) (w.alloc (.map #[] 0)) := fun _ => rfl
  by_cases hs : 16 < n
  · have dl : decide ((n : Int) > 16) = true := decide_eq_true (by omega)
    have HE : Hid (R = 4) := hide (HLong.out hs)
    go_enter Try.func12, Try.ntmps12
    go_wp2_with fail
    try go_ret
    exact HFin.out 4 _ HE.out (Below.refl _ _)
  · have dl : decide ((n : Int) > 16) = false := decide_eq_false (by omega)
    have HS0 := Lib.hid (HShort.out hs)
    have HM0 : Hid (MapV Try.prog 3 Value.bool (w.alloc (.map #[] 0)) w.heap.size 0 (seenB [])) := hide (by rw [seenB_nil]; exact MapV.made w _ _ _)
    have HB0 : Hid (Below w.heap.size w (w.alloc (.map #[] 0))) := hide (below_new _ _)
    go_enter Try.func12, Try.ntmps12
    go_upto_region 4 with (fail)
    obtain ⟨b, hb⟩ : ∃ x, w.heap.size = x := ⟨_, rfl⟩
    rw [hb] at HM0
    have hbb : w.heap.size ≤ b := by omega
    rw [hb]
    clear hb hmk dl
    go_wp2_with fail
    go_loopw [12] (fun i wr => ∃ k nm : Nat, k ≤ n ∧ i = .int .i64 k ∧ MapV Try.prog 3 Value.bool wr b nm (seenB ((l.take k).map Gr.id)) ∧ chkG ((l.take k).map Gr.id) (l.drop k) = R ∧ nm ≤ k ∧ Below w.heap.size w wr) (fun i _ => n - (intOf i).toNat)
    case atStart => exact ⟨0, 0, by omega, rfl, HM0.out, HS0.out, by omega, HB0.out⟩
    case round =>
      obtain ⟨k, nm, hk, rfl, hM, hC, hnm, hbr⟩ := hrel
      obtain ⟨wo, rfl⟩ : ∃ wo : World, wo = wr := ⟨_, rfl⟩
      have HM := Lib.hid hM
      have HC := Lib.hid hC
      have HB := Lib.hid hbr
      have hbl : b < wo.heap.size := hM.lt
      clear hM hC hbr HM0 HB0
      by_cases hlt : k < n
      · have hkl : k < l.length := by rw [HN.out]; exact hlt
        obtain ⟨ad, rfl, hab, hcl⟩ := strs_at (HR.out.below HB.out) (fun _ => rfl) HN.out hlt gr0
        have HCk := Lib.hid ((chkG_at (seen := (l.take k).map Gr.id) (l := l) (k := k) hkl).symm.trans HC.out)
        have HSn := Lib.hid (id_snoc (l := l) (k := k) hkl)
        generalize l.getD k gr0 = g at *
        obtain ⟨id, nod, fuel, st, tg, run, til, win⟩ := g
        simp only at HCk HSn
        obtain ⟨ok, hok⟩ : ∃ x, inG ⟨id, nod, fuel, st, tg, run, til, win⟩ = x := ⟨_, rfl⟩
        obtain ⟨tw, htw⟩ : ∃ x, ((l.take k).map Gr.id).contains id = x := ⟨_, rfl⟩
        obtain ⟨os, hos⟩ : ∃ x, okG ⟨id, nod, fuel, st, tg, run, til, win⟩ = x := ⟨_, rfl⟩
        have hck := HCk.out
        rw [hok, htw, hos, ← HSn.out] at hck
        have HOk := Lib.hid hok
        have HTw := Lib.hid htw
        have HOs : Hid (decide ((tg ≠ 0 ↔ st = 1) ∧ (run ≠ 0 ↔ st = 2)) = os) := hide hos
        have HK := Lib.hid hck
        have HCl : Hid (∀ j u, ([.int .i64 id, .int .i64 nod, .int .i64 fuel, .int .i64 st, .int .i64 tg, .int .i64 run, .int .i64 til, .bool win] : List Value)[j]? = some u → wo.cell? ((ad.add (k * 8)).add j) = some u) := hcl
        clear hcl hok htw hos hck HCk
        go_upto_region 7 with (refine wpList_load_at 51 (.tmp 14) rfl rfl (ad.add (k * 8)) rfl [.int .i64 id, .int .i64 nod, .int .i64 fuel, .int .i64 st, .int .i64 tg, .int .i64 run, .int .i64 til, .bool win] HCl.out _ Try.underlying51 rfl (by kernel_rfl) ?_)
        have HBw1 := (Blk.new wo 51 #[.int .i64 id, .int .i64 nod, .int .i64 fuel, .int .i64 st, .int .i64 tg, .int .i64 run, .int .i64 til, .bool win])
        have HLw1 := (below_new wo (.cells #[.int .i64 id, .int .i64 nod, .int .i64 fuel, .int .i64 st, .int .i64 tg, .int .i64 run, .int .i64 til, .bool win] 51))
        have hsw1 : (wo.alloc (.cells #[.int .i64 id, .int .i64 nod, .int .i64 fuel, .int .i64 st, .int .i64 tg, .int .i64 run, .int .i64 til, .bool win] 51)).heap.size = wo.heap.size + 1 := by simp
        generalize wo.alloc (.cells #[.int .i64 id, .int .i64 nod, .int .i64 fuel, .int .i64 st, .int .i64 tg, .int .i64 run, .int .i64 til, .bool win] 51) = w1 at HBw1 HLw1 hsw1 ⊢
        replace HBw1 := Lib.hid HBw1
        replace HLw1 := Lib.hid HLw1
        have hlw1 : wo.heap.size < w1.heap.size := by omega
        replace hsw1 := Lib.hid hsw1
        have HM1 := Lib.hid (HM.out.below HLw1.out hbl)
        have HB1 : Hid (Below w.heap.size w w1) := hide (HB.out.trans (HLw1.out.mono HB.out.size))
        have HX1 := HBw1
        clear HBw1 HLw1 hsw1 hlw1
        go_wp2_with (refine wpList_load_g 51 (.tmp 5) rfl rfl wo.heap.size rfl _ _ HX1.out _ Try.underlying51 rfl (by kernel_rfl) ?_)
        with_reducible refine (ginr_any id nod fuel st tg run til win ok _ HOk.out).mono ?_
        rintro e w2 ⟨rfl, hb2⟩
        have HM2 := Lib.hid (HM1.out.below hb2 HM1.out.lt)
        have HB2 : Hid (Below w.heap.size w w2) := hide (HB1.out.trans (hb2.mono HB1.out.size))
        have HX2 := Lib.hid (HX1.out.below hb2 HX1.out.lt)
        clear hb2
        cases ok with
        | false =>
          have HE : Hid (R = 2) := hide (by have h := HK.out; rw [if_pos rfl] at h; exact h.symm)
          go_wp2_with fail
          try go_ret
          exact HFin.out 2 _ HE.out HB2.out
        | true =>
          have HK1 : Hid ((if tw = true then 7 else if os = false then 10 else chkG ((l.take (k + 1)).map Gr.id) (l.drop (k + 1))) = R) := hide (by have h := HK.out; rw [if_neg (by decide)] at h; exact h)
          have hin := inG_iff HOk.out
          simp only at hin
          have HWf := Lib.hid (wf_small (x := id) (by omega))
          clear hin
          have hlk : (Instr.lookup 62 (.map (some b)) (.int .i64 id) false).run Try.prog w2 = .ok (.bool tw) w2 := by
            have h := HM2.out.look1 enB_inj keyed_int Try.underlying62 (zero_bool w2) Try.underlying3 HWf.out
            rw [seenB_get, HTw.out] at h
            exact h
          have c0 : w2.cell? ⟨wo.heap.size, 0, none⟩ = some (.int .i64 id) := HX2.out.cell 0
          have c1 : w2.cell? ⟨wo.heap.size, 1, none⟩ = some (.int .i64 nod) := HX2.out.cell 1
          have c2 : w2.cell? ⟨wo.heap.size, 2, none⟩ = some (.int .i64 fuel) := HX2.out.cell 2
          have c3 : w2.cell? ⟨wo.heap.size, 3, none⟩ = some (.int .i64 st) := HX2.out.cell 3
          have c4 : w2.cell? ⟨wo.heap.size, 4, none⟩ = some (.int .i64 tg) := HX2.out.cell 4
          have c5 : w2.cell? ⟨wo.heap.size, 5, none⟩ = some (.int .i64 run) := HX2.out.cell 5
          have c6 : w2.cell? ⟨wo.heap.size, 6, none⟩ = some (.int .i64 til) := HX2.out.cell 6
          have c7 : w2.cell? ⟨wo.heap.size, 7, none⟩ = some (.bool win) := HX2.out.cell 7
          cases tw with
          | true =>
            have HE : Hid (R = 7) := hide (by have h := HK1.out; rw [if_pos rfl] at h; exact h.symm)
            go_wp2_with fail
            try go_ret
            exact HFin.out 7 _ HE.out HB2.out
          | false =>
            have HK2 : Hid ((if os = false then 10 else chkG ((l.take (k + 1)).map Gr.id) (l.drop (k + 1))) = R) := hide (by have h := HK1.out; rw [if_neg (by decide)] at h; exact h)
            go_upto_region 12 with
              (at_mapUpdate
               refine wpList_mput enB_inj HM2.out rfl (.tmp 23) (.tmp 25) (.const (.bool true)) 62 (.inl rfl) keyed_int Try.underlying62 Try.underlying3 (by simp only [maxLen]; omega) HWf.out true rfl rfl rfl ?_
               intro w3 hm3 hg3
               have HM3 : Hid (MapV Try.prog 3 Value.bool w3 b (nm + 1) (seenB ((l.take (k + 1)).map Gr.id))) := hide (by rw [HSn.out, ← seenB_put]; exact hm3)
               have HB3 := Lib.hid (below_grownAt HB2.out hg3 hbb HB2.out.size)
               have HX3 := Lib.hid (HX2.out.grown hg3 (fun h => by injection h with h; omega))
               clear hm3 hg3)
            clear hlk c0 c1 c2 c3 c4 c5 c6 c7
            have c0 : w3.cell? ⟨wo.heap.size, 0, none⟩ = some (.int .i64 id) := HX3.out.cell 0
            have c1 : w3.cell? ⟨wo.heap.size, 1, none⟩ = some (.int .i64 nod) := HX3.out.cell 1
            have c2 : w3.cell? ⟨wo.heap.size, 2, none⟩ = some (.int .i64 fuel) := HX3.out.cell 2
            have c3 : w3.cell? ⟨wo.heap.size, 3, none⟩ = some (.int .i64 st) := HX3.out.cell 3
            have c4 : w3.cell? ⟨wo.heap.size, 4, none⟩ = some (.int .i64 tg) := HX3.out.cell 4
            have c5 : w3.cell? ⟨wo.heap.size, 5, none⟩ = some (.int .i64 run) := HX3.out.cell 5
            have c6 : w3.cell? ⟨wo.heap.size, 6, none⟩ = some (.int .i64 til) := HX3.out.cell 6
            have c7 : w3.cell? ⟨wo.heap.size, 7, none⟩ = some (.bool win) := HX3.out.cell 7
            have HBt := Lib.hid (fun t0 t1 t2 t3 h0 h1 h2 h3 => (HOs.out.symm.trans (okG_bits (t0 := t0) (t1 := t1) (t2 := t2) (t3 := t3) (tg := tg) (st := st) (run := run) h0 h1 h2 h3)))
            obtain ⟨t0, h0⟩ : ∃ x, decide (tg = 0) = x := ⟨_, rfl⟩
            obtain ⟨t1, h1⟩ : ∃ x, decide (st = 1) = x := ⟨_, rfl⟩
            obtain ⟨t2, h2⟩ : ∃ x, decide (run = 0) = x := ⟨_, rfl⟩
            obtain ⟨t3, h3⟩ : ∃ x, decide (st = 2) = x := ⟨_, rfl⟩
            have HBe := Lib.hid (HBt.out t0 t1 t2 t3 h0 h1 h2 h3)
            have e0 : (tg == 0) = t0 := by rw [← h0]; rfl
            have e1 : (st == 1) = t1 := by rw [← h1]; rfl
            have e2 : (run == 0) = t2 := by rw [← h2]; rfl
            have e3 : (st == 2) = t3 := by rw [← h3]; rfl
            have e0' : (tg != 0) = !t0 := by rw [← e0]; rfl
            have e2' : (run != 0) = !t2 := by rw [← e2]; rfl
            clear h0 h1 h2 h3 HBt HOs
            cases t0 with
            | false =>
              cases t1 with
              | false =>
                have HKk : Hid (R = 10) := hide (by have h := HK2.out; rw [show os = false from HBe.out, if_pos rfl] at h; exact h.symm)
                go_wp2_with fail
                try go_ret
                exact HFin.out 10 _ HKk.out HB3.out
              | true =>
                cases t2 with
                | false =>
                  cases t3 with
                  | false =>
                    have HKk : Hid (R = 10) := hide (by have h := HK2.out; rw [show os = false from HBe.out, if_pos rfl] at h; exact h.symm)
                    go_wp2_with fail
                    try go_ret
                    exact HFin.out 10 _ HKk.out HB3.out
                  | true =>
                    have HKk : Hid (chkG ((l.take (k + 1)).map Gr.id) (l.drop (k + 1)) = R) := hide (by have h := HK2.out; rw [show os = true from HBe.out, if_neg (by decide)] at h; exact h)
                    go_wp2_with fail
                    go_roundw
                    case rel => exact ⟨k + 1, nm + 1, by omega, by go_num, HM3.out, HKk.out, by omega, HB3.out⟩
                    case measure => simp [intOf]; omega
                | true =>
                  cases t3 with
                  | false =>
                    have HKk : Hid (chkG ((l.take (k + 1)).map Gr.id) (l.drop (k + 1)) = R) := hide (by have h := HK2.out; rw [show os = true from HBe.out, if_neg (by decide)] at h; exact h)
                    go_wp2_with fail
                    go_roundw
                    case rel => exact ⟨k + 1, nm + 1, by omega, by go_num, HM3.out, HKk.out, by omega, HB3.out⟩
                    case measure => simp [intOf]; omega
                  | true =>
                    have HKk : Hid (R = 10) := hide (by have h := HK2.out; rw [show os = false from HBe.out, if_pos rfl] at h; exact h.symm)
                    go_wp2_with fail
                    try go_ret
                    exact HFin.out 10 _ HKk.out HB3.out
            | true =>
              cases t1 with
              | false =>
                cases t2 with
                | false =>
                  cases t3 with
                  | false =>
                    have HKk : Hid (R = 10) := hide (by have h := HK2.out; rw [show os = false from HBe.out, if_pos rfl] at h; exact h.symm)
                    go_wp2_with fail
                    try go_ret
                    exact HFin.out 10 _ HKk.out HB3.out
                  | true =>
                    have HKk : Hid (chkG ((l.take (k + 1)).map Gr.id) (l.drop (k + 1)) = R) := hide (by have h := HK2.out; rw [show os = true from HBe.out, if_neg (by decide)] at h; exact h)
                    go_wp2_with fail
                    go_roundw
                    case rel => exact ⟨k + 1, nm + 1, by omega, by go_num, HM3.out, HKk.out, by omega, HB3.out⟩
                    case measure => simp [intOf]; omega
                | true =>
                  cases t3 with
                  | false =>
                    have HKk : Hid (chkG ((l.take (k + 1)).map Gr.id) (l.drop (k + 1)) = R) := hide (by have h := HK2.out; rw [show os = true from HBe.out, if_neg (by decide)] at h; exact h)
                    go_wp2_with fail
                    go_roundw
                    case rel => exact ⟨k + 1, nm + 1, by omega, by go_num, HM3.out, HKk.out, by omega, HB3.out⟩
                    case measure => simp [intOf]; omega
                  | true =>
                    have HKk : Hid (R = 10) := hide (by have h := HK2.out; rw [show os = false from HBe.out, if_pos rfl] at h; exact h.symm)
                    go_wp2_with fail
                    try go_ret
                    exact HFin.out 10 _ HKk.out HB3.out
              | true =>
                have HKk : Hid (R = 10) := hide (by have h := HK2.out; rw [show os = false from HBe.out, if_pos rfl] at h; exact h.symm)
                go_wp2_with fail
                try go_ret
                exact HFin.out 10 _ HKk.out HB3.out
      · obtain rfl : k = n := by omega
        have HE : Hid (R = 0) := hide (by have h := HC.out; rw [List.drop_of_length_le (by rw [HN.out]; exact Nat.le_refl _)] at h; exact h.symm)
        go_wp2_with fail
        try go_ret
        exact HFin.out 0 _ HE.out HB.out
set_option maxRecDepth 100000 in
set_option maxHeartbeats 4000000 in
theorem rgright_any (v : Value) (l : List Gr) (w : World) (hv : GrV w w.heap.size v l) : Calls Try.prog 13 #[v] w (GRightR l w) := by
  obtain ⟨A, n, c, rfl, HN, hc1, hc2, hr⟩ := hv.nam
  have HR := Lib.hid hr
  have hm : n ≤ maxLen := Nat.le_trans hc1 hc2
  have HLong : Hid (16 < n → rightG l = 4) := fun h => by unfold rightG; rw [if_pos (by rw [HN.out]; exact h)]
  have HShort : Hid (¬ 16 < n → chkG [] (l.drop 0) = rightG l) := fun h => by unfold rightG; rw [if_neg (by rw [HN.out]; exact h)]; rfl
  have HFin : Hid (∀ (x : Nat) (w' : World), rightG l = x → Below w.heap.size w w' → GRightR l w (.returned (.int .i64 (x : Int))) w') := fun x w' h1 h2 => by subst h1; exact ⟨rfl, h2⟩
  generalize GRightR l w = RR at *
  obtain ⟨R, hR⟩ : ∃ x, rightG l = x := ⟨_, rfl⟩
  rw [hR] at HLong HShort HFin
  clear hR hv hr
  unfold maxLen at hm hc2
  by_cases hs : 16 < n
  · have dl : decide ((n : Int) > 16) = true := decide_eq_true (by omega)
    have HE : Hid (R = 4) := hide (HLong.out hs)
    go_enter Try.func13, Try.ntmps13
    go_wp2_with fail
    try go_ret
    exact HFin.out 4 _ HE.out (Below.refl _ _)
  · have dl : decide ((n : Int) > 16) = false := decide_eq_false (by omega)
    have HS0 := Lib.hid (HShort.out hs)
    have HTk : Hid (∀ k, findG (l.take k) = fun i => idxG (fun x => x.id == i) (l.take k) 0) := fun k => rfl
    go_enter Try.func13, Try.ntmps13
    go_wp2_with fail
    clear dl
    go_loopw [3] (fun i wr => ∃ k : Nat, k ≤ n ∧ i = .int .i64 k ∧ chkG ((l.take k).map Gr.id) (l.drop k) = R ∧ Below w.heap.size w wr) (fun i _ => n - (intOf i).toNat)
    case atStart => exact ⟨0, by omega, rfl, HS0.out, Below.refl _ _⟩
    case round =>
      obtain ⟨k, hk, rfl, hC, hbr⟩ := hrel
      obtain ⟨wo, rfl⟩ : ∃ wo : World, wo = wr := ⟨_, rfl⟩
      have HC := Lib.hid hC
      have HB := Lib.hid hbr
      clear hC hbr
      by_cases hlt : k < n
      · have hkl : k < l.length := by rw [HN.out]; exact hlt
        obtain ⟨ad, rfl, hab, hcl⟩ := strs_at (HR.out.below HB.out) (fun _ => rfl) HN.out hlt gr0
        have HCk := Lib.hid ((chkG_at (seen := (l.take k).map Gr.id) (l := l) (k := k) hkl).symm.trans HC.out)
        have HSn := Lib.hid (id_snoc (l := l) (k := k) hkl)
        generalize l.getD k gr0 = g at *
        obtain ⟨id, nod, fuel, st, tg, run, til, win⟩ := g
        simp only at HCk HSn
        obtain ⟨ok, hok⟩ : ∃ x, inG ⟨id, nod, fuel, st, tg, run, til, win⟩ = x := ⟨_, rfl⟩
        obtain ⟨tw, htw⟩ : ∃ x, ((l.take k).map Gr.id).contains id = x := ⟨_, rfl⟩
        obtain ⟨os, hos⟩ : ∃ x, okG ⟨id, nod, fuel, st, tg, run, til, win⟩ = x := ⟨_, rfl⟩
        have hck := HCk.out
        rw [hok, htw, hos, ← HSn.out] at hck
        have HOk := Lib.hid hok
        have HTw := Lib.hid htw
        have HOs : Hid (decide ((tg ≠ 0 ↔ st = 1) ∧ (run ≠ 0 ↔ st = 2)) = os) := hide hos
        have HK := Lib.hid hck
        have HCl : Hid (∀ j u, ([.int .i64 id, .int .i64 nod, .int .i64 fuel, .int .i64 st, .int .i64 tg, .int .i64 run, .int .i64 til, .bool win] : List Value)[j]? = some u → wo.cell? ((ad.add (k * 8)).add j) = some u) := hcl
        have HFr : Hid (Strs Gr.cells 8 wo w.heap.size (some ad) k (l.take k)) := hide (strs_front (HR.out.below HB.out) (fun _ => rfl) HN.out (Nat.le_of_lt hlt))
        clear hcl hok htw hos hck HCk
        go_upto_region 7 with (refine wpList_load_at 51 (.tmp 16) rfl rfl (ad.add (k * 8)) rfl [.int .i64 id, .int .i64 nod, .int .i64 fuel, .int .i64 st, .int .i64 tg, .int .i64 run, .int .i64 til, .bool win] HCl.out _ Try.underlying51 rfl (by kernel_rfl) ?_)
        have HBw1 := (Blk.new wo 51 #[.int .i64 id, .int .i64 nod, .int .i64 fuel, .int .i64 st, .int .i64 tg, .int .i64 run, .int .i64 til, .bool win])
        have HLw1 := (below_new wo (.cells #[.int .i64 id, .int .i64 nod, .int .i64 fuel, .int .i64 st, .int .i64 tg, .int .i64 run, .int .i64 til, .bool win] 51))
        have hsw1 : (wo.alloc (.cells #[.int .i64 id, .int .i64 nod, .int .i64 fuel, .int .i64 st, .int .i64 tg, .int .i64 run, .int .i64 til, .bool win] 51)).heap.size = wo.heap.size + 1 := by simp
        generalize wo.alloc (.cells #[.int .i64 id, .int .i64 nod, .int .i64 fuel, .int .i64 st, .int .i64 tg, .int .i64 run, .int .i64 til, .bool win] 51) = w1 at HBw1 HLw1 hsw1 ⊢
        replace HBw1 := Lib.hid HBw1
        replace HLw1 := Lib.hid HLw1
        have hlw1 : wo.heap.size < w1.heap.size := by omega
        replace hsw1 := Lib.hid hsw1
        have HB1 : Hid (Below w.heap.size w w1) := hide (HB.out.trans (HLw1.out.mono HB.out.size))
        have HFr1 : Hid (Strs Gr.cells 8 w1 w.heap.size (some ad) k (l.take k)) := hide (HFr.out.below (HLw1.out.mono HB.out.size))
        have HX1 := HBw1
        clear HBw1 HLw1 hsw1 hlw1 HFr
        have c0 : w1.cell? ⟨wo.heap.size, 0, none⟩ = some (.int .i64 id) := HX1.out.cell 0
        have c1 : w1.cell? ⟨wo.heap.size, 1, none⟩ = some (.int .i64 nod) := HX1.out.cell 1
        have c2 : w1.cell? ⟨wo.heap.size, 2, none⟩ = some (.int .i64 fuel) := HX1.out.cell 2
        have c3 : w1.cell? ⟨wo.heap.size, 3, none⟩ = some (.int .i64 st) := HX1.out.cell 3
        have c4 : w1.cell? ⟨wo.heap.size, 4, none⟩ = some (.int .i64 tg) := HX1.out.cell 4
        have c5 : w1.cell? ⟨wo.heap.size, 5, none⟩ = some (.int .i64 run) := HX1.out.cell 5
        have c6 : w1.cell? ⟨wo.heap.size, 6, none⟩ = some (.int .i64 til) := HX1.out.cell 6
        have c7 : w1.cell? ⟨wo.heap.size, 7, none⟩ = some (.bool win) := HX1.out.cell 7
        go_wp2_with fail
        obtain ⟨q0, hq0⟩ : ∃ x, (decide ((1 : Int) ≤ id) && decide (id ≤ 9999)) = x := ⟨_, rfl⟩
        with_reducible refine (rin_any id 1 9999 q0 _ hq0).mono ?_
        rintro e w' ⟨rfl, rfl⟩
        have HQ0 := Lib.hid hq0
        clear hq0
        cases q0 with
        | false =>
          have HE : Hid (R = 2) := hide (by
            have hq := HQ0.out
            have h := HK.out
            rw [if_pos (by rw [← HOk.out, inG_def]; refine decide_eq_false ?_; simp only [Bool.and_eq_false_iff, decide_eq_false_iff_not] at hq; omega)] at h
            exact h.symm)
          go_wp2_with fail
          try go_ret
          exact HFin.out 2 _ HE.out HB1.out
        | true =>
          go_wp2_with fail
          obtain ⟨q1, hq1⟩ : ∃ x, (decide ((1 : Int) ≤ nod) && decide (nod ≤ 9999)) = x := ⟨_, rfl⟩
          with_reducible refine (rin_any nod 1 9999 q1 _ hq1).mono ?_
          rintro e w' ⟨rfl, rfl⟩
          have HQ1 := Lib.hid hq1
          clear hq1
          cases q1 with
          | false =>
            have HE : Hid (R = 2) := hide (by
              have hq := HQ1.out
              have h := HK.out
              rw [if_pos (by rw [← HOk.out, inG_def]; refine decide_eq_false ?_; simp only [Bool.and_eq_false_iff, decide_eq_false_iff_not] at hq; omega)] at h
              exact h.symm)
            go_wp2_with fail
            try go_ret
            exact HFin.out 2 _ HE.out HB1.out
          | true =>
            go_wp2_with fail
            obtain ⟨q2, hq2⟩ : ∃ x, (decide ((0 : Int) ≤ fuel) && decide (fuel ≤ 1000000)) = x := ⟨_, rfl⟩
            with_reducible refine (rin_any fuel 0 1000000 q2 _ hq2).mono ?_
            rintro e w' ⟨rfl, rfl⟩
            have HQ2 := Lib.hid hq2
            clear hq2
            cases q2 with
            | false =>
              have HE : Hid (R = 2) := hide (by
                have hq := HQ2.out
                have h := HK.out
                rw [if_pos (by rw [← HOk.out, inG_def]; refine decide_eq_false ?_; simp only [Bool.and_eq_false_iff, decide_eq_false_iff_not] at hq; omega)] at h
                exact h.symm)
              go_wp2_with fail
              try go_ret
              exact HFin.out 2 _ HE.out HB1.out
            | true =>
              go_wp2_with fail
              obtain ⟨q3, hq3⟩ : ∃ x, (decide ((0 : Int) ≤ st) && decide (st ≤ 2)) = x := ⟨_, rfl⟩
              with_reducible refine (rin_any st 0 2 q3 _ hq3).mono ?_
              rintro e w' ⟨rfl, rfl⟩
              have HQ3 := Lib.hid hq3
              clear hq3
              cases q3 with
              | false =>
                have HE : Hid (R = 2) := hide (by
                  have hq := HQ3.out
                  have h := HK.out
                  rw [if_pos (by rw [← HOk.out, inG_def]; refine decide_eq_false ?_; simp only [Bool.and_eq_false_iff, decide_eq_false_iff_not] at hq; omega)] at h
                  exact h.symm)
                go_wp2_with fail
                try go_ret
                exact HFin.out 2 _ HE.out HB1.out
              | true =>
                go_wp2_with fail
                obtain ⟨q4, hq4⟩ : ∃ x, (decide ((0 : Int) ≤ til) && decide (til ≤ 20000000)) = x := ⟨_, rfl⟩
                with_reducible refine (rin_any til 0 20000000 q4 _ hq4).mono ?_
                rintro e w' ⟨rfl, rfl⟩
                have HQ4 := Lib.hid hq4
                clear hq4
                cases q4 with
                | false =>
                  have HE : Hid (R = 2) := hide (by
                    have hq := HQ4.out
                    have h := HK.out
                    rw [if_pos (by rw [← HOk.out, inG_def]; refine decide_eq_false ?_; simp only [Bool.and_eq_false_iff, decide_eq_false_iff_not] at hq; omega)] at h
                    exact h.symm)
                  go_wp2_with fail
                  try go_ret
                  exact HFin.out 2 _ HE.out HB1.out
                | true =>
                  go_wp2_with fail
                  obtain ⟨q5, hq5⟩ : ∃ x, (decide ((0 : Int) ≤ tg) && decide (tg ≤ 9999)) = x := ⟨_, rfl⟩
                  with_reducible refine (rin_any tg 0 9999 q5 _ hq5).mono ?_
                  rintro e w' ⟨rfl, rfl⟩
                  have HQ5 := Lib.hid hq5
                  clear hq5
                  cases q5 with
                  | false =>
                    have HE : Hid (R = 2) := hide (by
                      have hq := HQ5.out
                      have h := HK.out
                      rw [if_pos (by rw [← HOk.out, inG_def]; refine decide_eq_false ?_; simp only [Bool.and_eq_false_iff, decide_eq_false_iff_not] at hq; omega)] at h
                      exact h.symm)
                    go_wp2_with fail
                    try go_ret
                    exact HFin.out 2 _ HE.out HB1.out
                  | true =>
                    go_wp2_with fail
                    obtain ⟨q6, hq6⟩ : ∃ x, (decide ((0 : Int) ≤ run) && decide (run ≤ 9999)) = x := ⟨_, rfl⟩
                    with_reducible refine (rin_any run 0 9999 q6 _ hq6).mono ?_
                    rintro e w' ⟨rfl, rfl⟩
                    have HQ6 := Lib.hid hq6
                    clear hq6
                    cases q6 with
                    | false =>
                      have HE : Hid (R = 2) := hide (by
                        have hq := HQ6.out
                        have h := HK.out
                        rw [if_pos (by rw [← HOk.out, inG_def]; refine decide_eq_false ?_; simp only [Bool.and_eq_false_iff, decide_eq_false_iff_not] at hq; omega)] at h
                        exact h.symm)
                      go_wp2_with fail
                      try go_ret
                      exact HFin.out 2 _ HE.out HB1.out
                    | true =>
                      have HOt : Hid (ok = true) := hide (by
                        rw [← HOk.out, inG_def]
                        refine decide_eq_true ?_
                        have p0 := HQ0.out
                        have p1 := HQ1.out
                        have p2 := HQ2.out
                        have p3 := HQ3.out
                        have p4 := HQ4.out
                        have p5 := HQ5.out
                        have p6 := HQ6.out
                        simp only [Bool.and_eq_true, decide_eq_true_eq] at p0 p1 p2 p3 p4 p5 p6
                        omega)
                      have HK1 : Hid ((if tw = true then 7 else if os = false then 10 else chkG ((l.take (k + 1)).map Gr.id) (l.drop (k + 1))) = R) := hide (by have h := HK.out; rw [HOt.out, if_neg (by decide)] at h; exact h)
                      clear HQ0 HQ1 HQ2 HQ3 HQ4 HQ5 HQ6
                      obtain ⟨z, hz⟩ : ∃ x, findG (l.take k) id = x := ⟨_, rfl⟩
                      have HIx : Hid (∀ W : World, Below w1.heap.size w1 W → Calls Try.prog 34 #[.slice (some ad) k c, .int .i64 id] W fun e w' => e = .returned (.int .i64 z) ∧ W = w') := fun W hW => by
                        rw [← hz]
                        exact rindex_any _ (l.take k) id W ⟨some ad, c, by rw [List.length_take, Nat.min_eq_left (Nat.le_of_lt hkl)], by rw [List.length_take]; omega, by unfold maxLen; omega, by rw [List.length_take, Nat.min_eq_left (Nat.le_of_lt hkl)]; exact (HFr1.out.below (hW.mono HB1.out.size)).more (Nat.le_trans HB1.out.size hW.size)⟩
                      have HTz : Hid (tw = decide (z ≥ 0)) := hide (by rw [← hz]; exact HTw.out.symm.trans (find_seen _ _))
                      clear hz HTw
                      obtain ⟨zz, hzz⟩ : ∃ x, decide (z ≥ 0) = x := ⟨_, rfl⟩
                      have HTz2 : Hid (tw = zz) := hide (HTz.out.trans hzz)
                      clear HTz
                      have hkc : k ≤ c := by omega
                      go_wp2_with fail
                      go_cut [64] (fun s wx => s = .bool zz ∧ Below w1.heap.size w1 wx)
                      case first =>
                        have h0 : (fun W => Below w1.heap.size w1 W ∧ W.cell? ⟨wo.heap.size, 0, none⟩ = some (.int .i64 id)) w1.drew := ⟨(Below.refl _ _).drew, c0⟩
                        refine wp_region_held_drew (S := fun W => Below w1.heap.size w1 W ∧ W.cell? ⟨wo.heap.size, 0, none⟩ = some (.int .i64 id)) (by kernel_rfl) (h0) (fun hHeld => ?_)
                        refine held_run 0 (some 58) (.move (.tmp 0)) ?v9_1_2 (by rfl) (by kernel_rfl) (by kernel_rfl) (by kernel_rfl) (fun _ _ _ h => h) (fun o ho w hS => ?y9_1_2) (by assumption) ?r9_1_2
                        case y9_1_2 => (try dsimp only at hS); unfold execOp; simp only [ho]; go_simp; try with_reducible rfl
                        try simp only [Act.put, List.setIfInBounds_toArray, List.set_cons_zero, List.set_cons_succ]
                        refine held_run 1 (some 59) (.move (.tmp 3)) ?v9_1_3 (by rfl) (by kernel_rfl) (by kernel_rfl) (by kernel_rfl) (fun _ _ _ h => h) (fun o ho w hS => ?y9_1_3) (by assumption) ?r9_1_3
                        case y9_1_3 => (try dsimp only at hS); unfold execOp; simp only [ho]; go_simp; try with_reducible rfl
                        try simp only [Act.put, List.setIfInBounds_toArray, List.set_cons_zero, List.set_cons_succ]
                        refine held_run 2 (some 60) (.slice 22 (.tmp 58) none (some (.tmp 59)) none) ?v9_1_4 (by rfl) (by kernel_rfl) (by kernel_rfl) (by kernel_rfl) (fun _ _ _ h => h) (fun o ho w hS => ?y9_1_4) (by assumption) ?r9_1_4
                        case y9_1_4 => (try dsimp only at hS); unfold execOp; simp only [ho]; go_simp; try with_reducible rfl
                        try simp only [Act.put, List.setIfInBounds_toArray, List.set_cons_zero, List.set_cons_succ]
                        refine held_run 3 (some 61) (.fieldAddr 51 (.tmp 4) 0) ?v9_1_5 (by rfl) (by kernel_rfl) (by kernel_rfl) (by kernel_rfl) (fun _ _ _ h => h) (fun o ho w hS => ?y9_1_5) (by assumption) ?r9_1_5
                        case y9_1_5 => (try dsimp only at hS); unfold execOp; simp only [ho]; go_simp; try with_reducible rfl
                        try simp only [Act.put, List.setIfInBounds_toArray, List.set_cons_zero, List.set_cons_succ]
                        refine held_run 4 (some 62) (.load 3 (.tmp 61)) ?v9_1_6 (by rfl) (by kernel_rfl) (by kernel_rfl) (by kernel_rfl) (fun _ _ _ h => h) (fun o ho w hS => ?y9_1_6) (by assumption) ?r9_1_6
                        case y9_1_6 => (try dsimp only at hS); unfold execOp; simp only [ho]; go_simp; try with_reducible rfl
                        try simp only [Act.put, List.setIfInBounds_toArray, List.set_cons_zero, List.set_cons_succ]
                        refine held_call 5 (some 63) 34 [(.tmp 60), (.tmp 62)] #[22, 3] #[.slice (some ad) k c, .int .i64 id] (by rfl) (by rfl) (by kernel_rfl) Try.func34 (by rfl) (by rfl) ?_
                        refine (HIx.out _ h0.1).mono ?_
                        rintro e wx ⟨rfl, rfl⟩
                        refine ⟨_, rfl, h0, ?_⟩
                        try simp only [Act.put, List.setIfInBounds_toArray, List.set_cons_zero, List.set_cons_succ]
                        refine held_run 6 (some 64) (.binOp .geq 3 (.tmp 63) (.const (.int .i64 0)) 3) ?v9_1_8 (by rfl) (by kernel_rfl) (by kernel_rfl) (by kernel_rfl) (fun _ _ _ h => h) (fun o ho w hS => ?y9_1_8) (by assumption) ?r9_1_8
                        case y9_1_8 => (try dsimp only at hS); unfold execOp; simp only [ho]; go_simp; try with_reducible rfl
                        try simp only [Act.put, List.setIfInBounds_toArray, List.set_cons_zero, List.set_cons_succ]
                        refine wpAnyH_done (by kernel_rfl) ?_ _
                        go_wp2_with fail
                        go_meet
                        exact ⟨rfl, h0.1⟩
                      obtain ⟨rfl, hcut⟩ := hcut
                      have HX3 := Lib.hid (HX1.out.below hcut HX1.out.lt)
                      have HB3 : Hid (Below w.heap.size w wc) := hide (HB1.out.trans (hcut.mono HB1.out.size))
                      clear hcut c0 c1 c2 c3 c4 c5 c6 c7 HFr1
                      have c0 : wc.cell? ⟨wo.heap.size, 0, none⟩ = some (.int .i64 id) := HX3.out.cell 0
                      have c1 : wc.cell? ⟨wo.heap.size, 1, none⟩ = some (.int .i64 nod) := HX3.out.cell 1
                      have c2 : wc.cell? ⟨wo.heap.size, 2, none⟩ = some (.int .i64 fuel) := HX3.out.cell 2
                      have c3 : wc.cell? ⟨wo.heap.size, 3, none⟩ = some (.int .i64 st) := HX3.out.cell 3
                      have c4 : wc.cell? ⟨wo.heap.size, 4, none⟩ = some (.int .i64 tg) := HX3.out.cell 4
                      have c5 : wc.cell? ⟨wo.heap.size, 5, none⟩ = some (.int .i64 run) := HX3.out.cell 5
                      have c6 : wc.cell? ⟨wo.heap.size, 6, none⟩ = some (.int .i64 til) := HX3.out.cell 6
                      have c7 : wc.cell? ⟨wo.heap.size, 7, none⟩ = some (.bool win) := HX3.out.cell 7
                      cases zz with
                      | true =>
                        have HE : Hid (R = 7) := hide (by have h := HK1.out; rw [HTz2.out, if_pos rfl] at h; exact h.symm)
                        go_wp2_with fail
                        try go_ret
                        exact HFin.out 7 _ HE.out HB3.out
                      | false =>
                        have HK2 : Hid ((if os = false then 10 else chkG ((l.take (k + 1)).map Gr.id) (l.drop (k + 1))) = R) := hide (by have h := HK1.out; rw [HTz2.out, if_neg (by decide)] at h; exact h)
                        have HBt := Lib.hid (fun t0 t1 t2 t3 h0 h1 h2 h3 => (HOs.out.symm.trans (okG_bits (t0 := t0) (t1 := t1) (t2 := t2) (t3 := t3) (tg := tg) (st := st) (run := run) h0 h1 h2 h3)))
                        obtain ⟨t0, h0⟩ : ∃ x, decide (tg = 0) = x := ⟨_, rfl⟩
                        obtain ⟨t1, h1⟩ : ∃ x, decide (st = 1) = x := ⟨_, rfl⟩
                        obtain ⟨t2, h2⟩ : ∃ x, decide (run = 0) = x := ⟨_, rfl⟩
                        obtain ⟨t3, h3⟩ : ∃ x, decide (st = 2) = x := ⟨_, rfl⟩
                        have HBe := Lib.hid (HBt.out t0 t1 t2 t3 h0 h1 h2 h3)
                        have e0 : (tg == 0) = t0 := by rw [← h0]; rfl
                        have e1 : (st == 1) = t1 := by rw [← h1]; rfl
                        have e2 : (run == 0) = t2 := by rw [← h2]; rfl
                        have e3 : (st == 2) = t3 := by rw [← h3]; rfl
                        have e0' : (tg != 0) = !t0 := by rw [← e0]; rfl
                        have e2' : (run != 0) = !t2 := by rw [← e2]; rfl
                        clear h0 h1 h2 h3 HBt HOs
                        cases t0 with
                        | false =>
                          cases t1 with
                          | false =>
                            have HKk : Hid (R = 10) := hide (by have h := HK2.out; rw [show os = false from HBe.out, if_pos rfl] at h; exact h.symm)
                            go_wp2_with fail
                            try go_ret
                            exact HFin.out 10 _ HKk.out HB3.out
                          | true =>
                            cases t2 with
                            | false =>
                              cases t3 with
                              | false =>
                                have HKk : Hid (R = 10) := hide (by have h := HK2.out; rw [show os = false from HBe.out, if_pos rfl] at h; exact h.symm)
                                go_wp2_with fail
                                try go_ret
                                exact HFin.out 10 _ HKk.out HB3.out
                              | true =>
                                have HKk : Hid (chkG ((l.take (k + 1)).map Gr.id) (l.drop (k + 1)) = R) := hide (by have h := HK2.out; rw [show os = true from HBe.out, if_neg (by decide)] at h; exact h)
                                go_wp2_with fail
                                go_roundw
                                case rel => exact ⟨k + 1, by omega, by go_num, HKk.out, HB3.out⟩
                                case measure => simp [intOf]; omega
                            | true =>
                              cases t3 with
                              | false =>
                                have HKk : Hid (chkG ((l.take (k + 1)).map Gr.id) (l.drop (k + 1)) = R) := hide (by have h := HK2.out; rw [show os = true from HBe.out, if_neg (by decide)] at h; exact h)
                                go_wp2_with fail
                                go_roundw
                                case rel => exact ⟨k + 1, by omega, by go_num, HKk.out, HB3.out⟩
                                case measure => simp [intOf]; omega
                              | true =>
                                have HKk : Hid (R = 10) := hide (by have h := HK2.out; rw [show os = false from HBe.out, if_pos rfl] at h; exact h.symm)
                                go_wp2_with fail
                                try go_ret
                                exact HFin.out 10 _ HKk.out HB3.out
                        | true =>
                          cases t1 with
                          | false =>
                            cases t2 with
                            | false =>
                              cases t3 with
                              | false =>
                                have HKk : Hid (R = 10) := hide (by have h := HK2.out; rw [show os = false from HBe.out, if_pos rfl] at h; exact h.symm)
                                go_wp2_with fail
                                try go_ret
                                exact HFin.out 10 _ HKk.out HB3.out
                              | true =>
                                have HKk : Hid (chkG ((l.take (k + 1)).map Gr.id) (l.drop (k + 1)) = R) := hide (by have h := HK2.out; rw [show os = true from HBe.out, if_neg (by decide)] at h; exact h)
                                go_wp2_with fail
                                go_roundw
                                case rel => exact ⟨k + 1, by omega, by go_num, HKk.out, HB3.out⟩
                                case measure => simp [intOf]; omega
                            | true =>
                              cases t3 with
                              | false =>
                                have HKk : Hid (chkG ((l.take (k + 1)).map Gr.id) (l.drop (k + 1)) = R) := hide (by have h := HK2.out; rw [show os = true from HBe.out, if_neg (by decide)] at h; exact h)
                                go_wp2_with fail
                                go_roundw
                                case rel => exact ⟨k + 1, by omega, by go_num, HKk.out, HB3.out⟩
                                case measure => simp [intOf]; omega
                              | true =>
                                have HKk : Hid (R = 10) := hide (by have h := HK2.out; rw [show os = false from HBe.out, if_pos rfl] at h; exact h.symm)
                                go_wp2_with fail
                                try go_ret
                                exact HFin.out 10 _ HKk.out HB3.out
                          | true =>
                            have HKk : Hid (R = 10) := hide (by have h := HK2.out; rw [show os = false from HBe.out, if_pos rfl] at h; exact h.symm)
                            go_wp2_with fail
                            try go_ret
                            exact HFin.out 10 _ HKk.out HB3.out
      · obtain rfl : k = n := by omega
        have HE : Hid (R = 0) := hide (by have h := HC.out; rw [List.drop_of_length_le (by rw [HN.out]; exact Nat.le_refl _)] at h; exact h.symm)
        go_wp2_with fail
        try go_ret
        exact HFin.out 0 _ HE.out HB.out
end Go.Proofs.Ytegijfmdjaehjaa
