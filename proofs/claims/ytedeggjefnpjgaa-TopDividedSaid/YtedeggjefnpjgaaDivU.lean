/-
  slices.DeleteFunc over rides; uplink.Ack, walked.
-/
import Derived.Test.YtedeggjefnpjgaaDkC
import Derived.Test.YtedeggjefnpjgaaOwnX
namespace Go.Proofs.Ytedeggjefnpjgaa
open Go.RowKit

theorem filt_all {p : Rd → Bool} {l : List Rd} (h : ∀ j, j < l.length → p (l.getD j rd0) = false) : l.filter (fun r => !p r) = l := by
  rw [List.filter_eq_self]
  intro x hx
  obtain ⟨j, hj, rfl⟩ := List.getElem_of_mem hx
  have := h j hj
  simp only [List.getD_eq_getElem?_getD, List.getElem?_eq_getElem hj, Option.getD_some] at this
  rw [this]
  rfl
theorem filt_take {p : Rd → Bool} {l : List Rd} {k : Nat} (hk : k ≤ l.length) (h : ∀ j, j < k → p (l.getD j rd0) = false) : (l.take k).filter (fun r => !p r) = l.take k := by
  refine filt_all fun j hj => ?_
  rw [List.length_take, Nat.min_eq_left hk] at hj
  have := h j hj
  rwa [show (l.take k).getD j rd0 = l.getD j rd0 by simp only [List.getD_eq_getElem?_getD]; rw [List.getElem?_take, if_pos hj]]
/-- where the loop of DeleteFunc stands: i rides are kept of the first j; behind them lies the rest -/
structure DfI (p : Rd → Bool) (l L : List Rd) (i j : Nat) : Prop where
  len : L.length = l.length
  lt : i < j
  le : j ≤ l.length
  front : L.take i = (l.take j).filter (fun r => !p r)
  back : ∀ t, j ≤ t → L.getD t rd0 = l.getD t rd0
theorem DfI.start {p : Rd → Bool} {l : List Rd} {k : Nat} (hk : k < l.length) (hp : p (l.getD k rd0) = true) (h : ∀ j, j < k → p (l.getD j rd0) = false) : DfI p l l k (k + 1) := by
  refine ⟨rfl, by omega, by omega, ?_, fun t _ => rfl⟩
  rw [rd_at hk, List.filter_append, filt_take (by omega) h]
  simp only [List.filter_cons, hp, Bool.not_true, List.filter_nil, List.append_nil]
  simp
theorem DfI.keep {p : Rd → Bool} {l L : List Rd} {i j : Nat} (h : DfI p l L i j) (hj : j < l.length) (hp : p (l.getD j rd0) = false) : DfI p l (L.set i (l.getD j rd0)) (i + 1) (j + 1) := by
  have hlt := h.lt
  have hlen := h.len
  refine ⟨by rw [List.length_set]; exact h.len, by omega, by omega, ?_, fun t ht => ?_⟩
  · have h1 : (L.set i (l.getD j rd0)).take (i + 1) = L.take i ++ [l.getD j rd0] := by
      rw [List.take_succ_eq_append_getElem (by rw [List.length_set]; omega), List.getElem_set_self, List.take_set_of_le (by omega)]
    rw [h1, h.front, rd_at hj, List.filter_append]
    have h2 : [l.getD j rd0].filter (fun r => !p r) = [l.getD j rd0] := by
      rw [List.filter_cons, if_pos (by rw [hp]; rfl)]
      rfl
    rw [h2]
  · rw [← h.back t (by omega)]
    simp only [List.getD_eq_getElem?_getD]
    rw [List.getElem?_set_ne (by omega)]
theorem DfI.skip {p : Rd → Bool} {l L : List Rd} {i j : Nat} (h : DfI p l L i j) (hj : j < l.length) (hp : p (l.getD j rd0) = true) : DfI p l L i (j + 1) := by
  have hlt := h.lt
  refine ⟨h.len, by omega, by omega, ?_, fun t ht => h.back t (by omega)⟩
  rw [h.front, rd_at hj, List.filter_append]
  have h2 : [l.getD j rd0].filter (fun r => !p r) = [] := by
    rw [List.filter_cons, if_neg (by rw [hp]; decide)]
    rfl
  rw [h2, List.append_nil]
/-- what DeleteFunc leaves -/
def DfR (p : Rd → Bool) (base : Nat) (l : List Rd) (w : World) (e : Ending) (w' : World) : Prop := ∃ v, e = .returned v ∧ OwnRd w' base v (l.filter fun r => !p r) ∧ Below base w w'
set_option maxRecDepth 100000 in
set_option maxHeartbeats 8000000 in
theorem dfunc_any (F : FuncId) (cp : Value) (p : Rd → Bool) (base : Nat) (A : Option Addr) (n c : Nat) (l : List Rd) (w : World) (h : OwnRd w base (.slice A n c) l) (hl : l.length = n) (hn : n ≤ 1000000) (hb : base ≤ w.heap.size)
    (eF : ∀ args w, (callFunc F args).run Try.prog w = .ok (.enter F args) w) (hC : ∀ r W, Below base w W → Calls Try.prog F #[r.val, cp] W (BoR (p r) W)) :
    Calls Try.prog 36 #[.slice A n c, .func (.func F) #[] #[cp]] w (DfR p base l w) := by
  have hstr : Strs Rd.cells 7 w w.heap.size A n l := by
    obtain ⟨A', n', c', e, HN, _, _, hs⟩ := (OwnRd.strV h).nam
    injection e with e1 e2 e3
    subst e1 e2 e3
    exact hs
  have HI := Lib.hid (index_any F cp p A n c l w hstr hl hn eF fun r W hW => hC r W (hW.mono hb))
  have HO := Lib.hid h
  have HL := Lib.hid hl
  have HC := Lib.hid hC
  have HN : Hid (∀ w', (∀ j, j < n → p (l.getD j rd0) = false) → Below w.heap.size w w' → DfR p base l w (.returned (.slice A n c)) w') := hide fun w' h1 h2 => ⟨_, rfl, by rw [filt_all fun j hj => h1 j (by omega)]; exact own_below h h2 (Nat.le_refl _), h2.mono hb⟩
  have HFin : Hid (∀ v w', OwnRd w' base v (l.filter fun r => !p r) → Below base w w' → DfR p base l w (.returned v) w') := fun v w' h1 h2 => ⟨v, rfl, h1, h2⟩
  generalize DfR p base l w = RR at *
  clear hstr hC
  go_enter Try.func36, Try.ntmps36
  go_wp2_with fail
  with_reducible refine HI.out.mono ?_
  rintro e w2 (⟨k, hk, rfl, hp, hno, hb2⟩ | ⟨rfl, hq, hb2⟩)
  · have HD := Lib.hid (DfI.start (p := p) (l := l) (k := k) (by omega) hp hno)
    have HO2 : Hid (OwnRd w2 base (.slice A n c) l) := hide (own_below HO.out hb2 (Nat.le_refl _))
    have HB2 : Hid (Below base w w2) := hide (hb2.mono hb)
    have d0 : ((k : Int) == -1) = false := by simp
    have hw1 : IntKind.i64.wrap ((k : Int) + 1) = (k : Int) + 1 := by rw [IntKind.wrap_i64]; omega
    clear hp hno hb2 h
    go_wp2_with fail
    clear hw1 d0
    go_loopw [5, 6] (fun iv jv wr => ∃ (i j : Nat) (L : List Rd), iv = .int .i64 i ∧ jv = .int .i64 j ∧ DfI p l L i j ∧ OwnRd wr base (.slice A n c) L ∧ Below base w wr) (fun _ jv _ => n - (intOf jv).toNat)
    case atStart => exact ⟨k, k + 1, l, rfl, by go_num, HD.out, HO2.out, HB2.out⟩
    case round =>
      obtain ⟨i, j, L, rfl, rfl, hd, hO, hbr⟩ := hrel
      obtain ⟨wo, rfl⟩ : ∃ wo : World, wo = wr := ⟨_, rfl⟩
      have hij := hd.lt
      have hjn : j ≤ n := by have := hd.le; omega
      have HD := Lib.hid hd
      have HB := Lib.hid hbr
      have HOo := Lib.hid hO
      have HLl : Hid (L.length = n) := hide (hd.len.trans hl)
      have hszo : base ≤ wo.heap.size := Nat.le_trans hb hbr.size
      clear hd hO hbr
      by_cases hlt : j < n
      · obtain ⟨A', n', c', e, _, _, hcm, hs⟩ := (OwnRd.strV HOo.out).nam
        injection e with e1 e2 e3
        subst e1 e2 e3
        obtain ⟨ad, rfl, hadb, hcl⟩ := strs_at hs (fun _ => rfl) HLl.out hlt rd0
        have ek : L.getD j rd0 = l.getD j rd0 := HD.out.back j (Nat.le_refl _)
        rw [ek] at hcl
        have HKeep : Hid (p (l.getD j rd0) = false → DfI p l (L.set i (l.getD j rd0)) (i + 1) (j + 1)) := hide fun h => HD.out.keep (by omega) h
        have HSkip : Hid (p (l.getD j rd0) = true → DfI p l L i (j + 1)) := hide fun h => HD.out.skip (by omega) h
        generalize l.getD j rd0 = r at *
        have HCl : Hid (∀ i u, (Rd.cells r)[i]? = some u → wo.cell? ((ad.add (j * 7)).add i) = some u) := hcl
        have HCr := HC.out r
        obtain ⟨q, hq⟩ : ∃ q, p r = q := ⟨_, rfl⟩
        rw [hq] at HKeep HSkip HCr
        have HCr := Lib.hid HCr
        have HOne := Lib.hid (rd_cells_one r)
        clear hcl hs ek hq
        obtain ⟨gate, seq, ser, cnt, prod, lift, att⟩ := r
        go_upto_region 8 with (refine wpList_load_at 55 (.tmp 24) rfl rfl (ad.add (j * 7)) rfl [.int .i64 gate, .int .i64 seq, .int .i64 ser, .int .i64 cnt, .int .i64 prod, .int .i64 lift, .int .i64 att] HCl.out _ Try.underlying55 rfl (by kernel_rfl) ?_)
        have HBw3 := (Blk.new wo 55 #[.int .i64 gate, .int .i64 seq, .int .i64 ser, .int .i64 cnt, .int .i64 prod, .int .i64 lift, .int .i64 att])
        have HLw3 := (below_new wo (.cells #[.int .i64 gate, .int .i64 seq, .int .i64 ser, .int .i64 cnt, .int .i64 prod, .int .i64 lift, .int .i64 att] 55))
        have hsw3 : (wo.alloc (.cells #[.int .i64 gate, .int .i64 seq, .int .i64 ser, .int .i64 cnt, .int .i64 prod, .int .i64 lift, .int .i64 att] 55)).heap.size = wo.heap.size + 1 := by simp
        generalize wo.alloc (.cells #[.int .i64 gate, .int .i64 seq, .int .i64 ser, .int .i64 cnt, .int .i64 prod, .int .i64 lift, .int .i64 att] 55) = w3 at HBw3 HLw3 hsw3 ⊢
        replace HBw3 := Lib.hid HBw3
        replace HLw3 := Lib.hid HLw3
        have hlw3 : wo.heap.size < w3.heap.size := by omega
        replace hsw3 := Lib.hid hsw3
        have HX3 := HBw3
        have hx3 := hlw3
        have HB3 : Hid (Below base w w3) := hide (HB.out.trans (HLw3.out.mono hszo))
        have HL3 := HLw3
        have HCw := Lib.hid (HCr.out w3 HB3.out)
        clear HBw3 HLw3 hsw3 hlw3 HCl HCr
        have hjw : IntKind.i64.wrap ((j : Int) + 1) = (j : Int) + 1 := by rw [IntKind.wrap_i64]; omega
        have hiw : IntKind.i64.wrap ((i : Int) + 1) = (i : Int) + 1 := by rw [IntKind.wrap_i64]; omega
        cases q with
        | true =>
          go_wp2_with
            (first
             | (refine wpList_load_blk rfl 55 (.tmp 7) rfl wo.heap.size rfl _ _ HX3.out _ Try.underlying55 rfl (by kernel_rfl) ?_)
             | (go_at_fn F; refine HCw.out.mono ?_
                rintro e w4 ⟨rfl, hb4⟩
                have HX4 := Lib.hid (HX3.out.below hb4 hx3)
                have HB4 : Hid (Below base w w4) := hide (HB3.out.trans (hb4.mono (by omega)))
                have HO4 : Hid (OwnRd w4 base (.slice (some ad) n c) L) := hide (own_below HOo.out (HL3.out.trans (hb4.mono HL3.out.size)) (Nat.le_refl _))
                clear hb4))
          go_roundw
          case rel => exact ⟨i, j + 1, L, rfl, by go_num, HSkip.out trivial, HO4.out, HB4.out⟩
          case measure => simp [intOf]; omega
        | false =>
          have hin : (i : Int) < (n : Int) := by omega
          go_wp2_with
            (first
             | (refine wpList_load_blk rfl 55 (.tmp 7) rfl wo.heap.size rfl _ _ HX3.out _ Try.underlying55 rfl (by kernel_rfl) ?_)
             | (go_at_fn F; refine HCw.out.mono ?_
                rintro e w4 ⟨rfl, hb4⟩
                have HX4 := Lib.hid (HX3.out.below hb4 hx3)
                have HB4 : Hid (Below base w w4) := hide (HB3.out.trans (hb4.mono (by omega)))
                have HO4 : Hid (OwnRd w4 base (.slice (some ad) n c) L) := hide (own_below HOo.out (HL3.out.trans (hb4.mono HL3.out.size)) (Nat.le_refl _))
                clear hb4)
             | (refine wpList_load_blk rfl 55 (.tmp 7) rfl wo.heap.size rfl _ _ HX4.out _ Try.underlying55 rfl (by kernel_rfl) ?_)
             | (refine wpList_store_ownT (e := 55) (f := Rd.cells) (s := 7) 55 (.tmp 33) (.tmp 32) rfl rfl (base := base) (ad := ad) (n := n) (c := c) (l := L) HO4.out HLl.out i (by omega) ⟨gate, seq, ser, cnt, prod, lift, att⟩ #[.int .i64 gate, .int .i64 seq, .int .i64 ser, .int .i64 cnt, .int .i64 prod, .int .i64 lift, .int .i64 att] rfl rfl rfl (fun _ => rfl) (by kernel_rfl) HOne.out ?_
                intro w5 ho5 hon5
                have HO5 : Hid (OwnRd w5 base (.slice (some ad) n c) (L.set i ⟨gate, seq, ser, cnt, prod, lift, att⟩)) := hide ho5
                have HB5 : Hid (Below base w w5) := hide (hon5.below HB4.out (by
                  obtain ⟨g, _, e, hg, _⟩ := own_at (HO4.out.row HLl.out) (by omega)
                  have e2 := Option.some.inj e
                  rw [e2]
                  exact hg))
                clear ho5 hon5))
          go_roundw
          case rel => exact ⟨i + 1, j + 1, _, by go_num, by go_num, HKeep.out trivial, HO5.out, HB5.out⟩
          case measure => simp [intOf]; omega
      · obtain rfl : j = n := by omega
        obtain ⟨g, cur, hA, hg, hB, hnc, hcm, hcs, htake⟩ := own_at (HOo.out.row HLl.out) (by omega)
        subst hA
        have hfr : L.take i = l.filter (fun r => !p r) := by
          have h := HD.out.front
          rw [show l.take j = l from List.take_of_length_le (by have := HL.out; omega)] at h
          exact h
        have hclen : cur.toList.length = c * 7 := by rw [Array.length_toList, hcs]
        have HCl : Hid (∀ ty, (Builtin.clear_ #[28] ty #[.slice (some ⟨g, i * 7, none⟩) (j - i) (c - i)]).run Try.prog wo = .ok (.tuple #[]) (wo.setRow g (putL cur.toList (i * 7) (Builtin.zeroCells (Value.agg #[.int .i64 0, .int .i64 0, .int .i64 0, .int .i64 0, .int .i64 0, .int .i64 0, .int .i64 0]).cells (j - i)).toList).toArray)) := hide (fun ty => run_clear_blk (P := Try.prog) (w := wo) (t := 28) (ty := ty) Try.underlying28 (z := .agg #[.int .i64 0, .int .i64 0, .int .i64 0, .int .i64 0, .int .i64 0, .int .i64 0, .int .i64 0]) (s := 7) (by kernel_rfl) rfl (by intro u hu; simp [Value.cells] at hu; subst hu; rfl) (i * 7) (j - i) (c - i) hB (by rw [hcs]; omega))
        have HZ : Hid (∀ w', w' = wo.setRow g (putL cur.toList (i * 7) (Builtin.zeroCells (Value.agg #[.int .i64 0, .int .i64 0, .int .i64 0, .int .i64 0, .int .i64 0, .int .i64 0, .int .i64 0]).cells (j - i)).toList).toArray → OwnRd w' base (.slice (some ⟨g, 0, none⟩) i c) (l.filter fun r => !p r) ∧ Below base w w') := hide (fun w' hw' => by
          subst hw'
          have hzl : (Builtin.zeroCells (Value.agg #[.int .i64 0, .int .i64 0, .int .i64 0, .int .i64 0, .int .i64 0, .int .i64 0, .int .i64 0]).cells (j - i)).toList.length = (j - i) * 7 := by rw [Array.length_toList, size_zeroCells]; rfl
          have hLi : (L.take i).length = i := by rw [List.length_take, HLl.out, Nat.min_eq_left (by omega)]
          refine ⟨?_, (Only.setRow wo g _).below HB.out hg⟩
          rw [← hfr]
          have hrow : ∀ r ∈ L.map Rd.cells, r.length = 7 := fun r hr => by
            obtain ⟨x, _, rfl⟩ := List.mem_map.1 hr
            rfl
          have e1 : ((L.take i).map Rd.cells).flatten = cur.toList.take (i * 7) := by
            rw [List.map_take, ← flat_take 7 _ _ hrow, ← htake, List.take_take, Nat.min_eq_left (by omega)]
          unfold OwnRd
          rw [hLi, e1]
          refine ⟨by rw [List.length_take, hclen, Nat.min_eq_left (by omega)], .inr ⟨g, c, _, rfl, hg, Blk.setRow hB, by omega, hcm, ?_, ?_⟩⟩
          · rw [List.size_toArray, putL_len (by omega), hclen]
          · exact putL_front (by omega) (Nat.le_refl _))
        have hic : i ≤ c := by omega
        have hin : (i : Int) ≤ (j : Int) := by omega
        have hci : ¬ (c = i) := by omega
        have hi0 : (0 : Int) ≤ (i : Int) := by omega
        generalize (putL cur.toList (i * 7) (Builtin.zeroCells (Value.agg #[.int .i64 0, .int .i64 0, .int .i64 0, .int .i64 0, .int .i64 0, .int .i64 0, .int .i64 0]).cells (j - i)).toList) = pz at *
        have hclr := HCl.out
        clear HCl hfr htake hB hcs hclen
        go_wp2
        try go_ret
        have hz := HZ.out _ rfl
        exact HFin.out _ _ hz.1 hz.2
  · go_wp2_with fail
    try go_ret
    exact HN.out _ hq hb2
end Go.Proofs.Ytedeggjefnpjgaa
