/-
  SealBlocks answers true for every input. Its conditions: none.
-/
import Derived.Test.YtkhdlcadahdbkaaSealLaw
import Derived.Test.YtkhdlcadahdbkaaRow
namespace Go.Proofs.Ytkhdlcadahdbkaa
open Go.ChangeShapes Go.WideShapes Go.ChangeAt Go.RowKit



/-- the bytes after k rounds: byte p + i is changed by byte i of c -/
def modL (l c : List UInt8) (p : Nat) : Nat → List UInt8
  | 0 => l
  | k + 1 => (modL l c p k).set (p + k) (l.getD (p + k) 0 ^^^ c.getD k 0)
theorem modL_len (l c : List UInt8) (p k : Nat) : (modL l c p k).length = l.length := by
  induction k with
  | zero => rfl
  | succ k ih => simp [modL, ih]
theorem modL_out (l c : List UInt8) (p k j : Nat) (hj : j < p ∨ p + k ≤ j) : (modL l c p k)[j]? = l[j]? := by
  induction k with
  | zero => rfl
  | succ k ih =>
    simp only [modL]
    rw [List.getElem?_set_ne (by omega)]
    exact ih (by omega)
theorem modL_in (l c : List UInt8) (p k i : Nat) (hi : i < k) (hl : p + k ≤ l.length) : (modL l c p k)[p + i]? = some (l.getD (p + i) 0 ^^^ c.getD i 0) := by
  induction k with
  | zero => omega
  | succ k ih =>
    simp only [modL]
    by_cases h : i = k
    · subst h
      rw [List.getElem?_set_self (by rw [modL_len]; omega)]
    · rw [List.getElem?_set_ne (by omega)]
      exact ih (by omega) (by omega)
/-- has a byte among the first k been changed? -/
def chgB (c : List UInt8) : Nat → Bool
  | 0 => false
  | k + 1 => chgB c k || ((c.getD k 0).toNat : Int) != 0
theorem chgB_iff (c : List UInt8) (k : Nat) : chgB c k = true ↔ ∃ i, i < k ∧ c.getD i 0 ≠ 0 := by
  induction k with
  | zero => simp [chgB]
  | succ k ih =>
    simp only [chgB, Bool.or_eq_true, ih, bne_iff_ne]
    constructor
    · rintro (⟨i, hi, h⟩ | h)
      · exact ⟨i, by omega, h⟩
      · exact ⟨k, by omega, fun e => h (by rw [e]; rfl)⟩
    · rintro ⟨i, hi, h⟩
      by_cases e : i = k
      · subst e
        exact .inr fun e => h (UInt8.toNat_inj.1 (by simpa using e))
      · exact .inl ⟨i, by omega, h⟩
theorem modL_same (l c : List UInt8) (p k : Nat) (h : chgB c k = false) (hl : p + k ≤ l.length) : modL l c p k = l := by
  apply List.ext_getElem?
  intro j
  by_cases hj : j < p ∨ p + k ≤ j
  · exact modL_out l c p k j hj
  · have e := modL_in l c p k (j - p) (by omega) hl
    rw [show p + (j - p) = j by omega] at e
    have h0 : c.getD (j - p) 0 = 0 := by
      by_cases h0 : c.getD (j - p) 0 = 0
      · exact h0
      · have := (chgB_iff c k).2 ⟨j - p, by omega, h0⟩
        rw [h] at this
        cases this
    rw [e, h0, UInt8.xor_zero, List.getD, List.getElem?_eq_getElem (by omega)]
    rfl
theorem modL_differ (l c : List UInt8) (p k : Nat) (h : chgB c k = true) (hl : p + k ≤ l.length) : ∃ i, i < k ∧ (modL l c p k)[p + i]? ≠ l[p + i]? := by
  obtain ⟨i, hi, hc⟩ := (chgB_iff c k).1 h
  refine ⟨i, hi, fun e => hc ?_⟩
  rw [modL_in l c p k i hi hl, List.getElem?_eq_getElem (by omega)] at e
  injection e with e
  have e2 : l.getD (p + i) 0 = l[p + i]'(by omega) := by simp [List.getElem?_eq_getElem (show p + i < l.length by omega)]
  rw [← e2] at e
  have e3 : l.getD (p + i) 0 ^^^ (l.getD (p + i) 0 ^^^ c.getD i 0) = l.getD (p + i) 0 ^^^ l.getD (p + i) 0 := by rw [e]
  rwa [← UInt8.xor_assoc, UInt8.xor_self, UInt8.zero_xor] at e3
/-- the tag tells whether a byte of the block has been changed -/
theorem tag_changed (key : Nat) (l c : List UInt8) (m k : Nat) (hm : 8 * m < l.length) (hk : k ≤ 8) (hl : 8 * m + k ≤ l.length) (hend : k = 8 ∨ 8 * m + k = l.length) (h64 : l.length < 18446744073709551616) :
    ((((tagN key l : Nat) : Int) != ((tagN key (modL l c (8 * m) k) : Nat) : Int)) == chgB c k) = true := by
  cases h : chgB c k with
  | false => rw [modL_same l c _ k h hl]; simp
  | true =>
    have hne : tagN key l ≠ tagN key (modL l c (8 * m) k) := by
      refine tagN_block key l _ (modL_len _ _ _ _).symm h64 m hm ?_ ?_
      · intro e
        have e1 := leN_inj _ _ (by simp [modL_len]) e
        obtain ⟨i, hi, hd⟩ := modL_differ l c (8 * m) k h hl
        apply hd
        have e2 := congrArg (fun x : List UInt8 => x[i]?) e1
        simp only [List.getElem?_take, List.getElem?_drop] at e2
        rw [if_pos (by omega), if_pos (by omega)] at e2
        exact e2.symm
      · intro i hi
        unfold blkN
        congr 1
        apply List.ext_getElem?
        intro j
        simp only [List.getElem?_take, List.getElem?_drop]
        split
        · refine (modL_out l c _ k _ ?_).symm
          rcases hend with h8 | h8
          · omega
          · rcases Nat.lt_or_ge i m with h1 | h1 <;> omega
        · rfl
    have : (((tagN key l : Nat) : Int) != ((tagN key (modL l c (8 * m) k) : Nat) : Int)) = true := by rw [bne_iff_ne]; omega
    rw [this]
    rfl

theorem map_set_B8 (l : List UInt8) (i : Nat) (y : UInt8) (v : Value) (h : v = B8 y) : (l.map B8).set i v = (l.set i y).map B8 := by
  subst h
  rw [List.map_set]
theorem xor_byte (x y : UInt8) (a b : Nat) (ha : a = x.toNat) (hb : b = y.toNat) : Value.int .u8 (bits .xor .u8 (a : Int) (b : Int)) = B8 (x ^^^ y) := by
  subst ha
  subst hb
  rw [u8_xor_nat _ _ (UInt8.toNat_lt _) (UInt8.toNat_lt _), B8, UInt8.toNat_xor]

set_option maxHeartbeats 400000 in
theorem sealBlocks_any (w : World) (key : Int) (hkey : 0 ≤ key ∧ key < 18446744073709551616) (bA : Option Addr) (bn bc : Nat) (b : List UInt8) (b1 : bn ≤ bc) (b2 : bc ≤ maxLen) (br : Bytes w w.heap.size bA bn b)
    (cs : Array Value) (c : List UInt8) (hc : Hid (∀ j, j < 9 → cs[j]? = some (.int .u8 ((c.getD j 0).toNat : Int)))) :
    Calls Try.prog 9 #[.int .u64 key, .slice bA bn bc, .agg cs] w fun e w' => e = .returned (.bool true) ∧ Below w.heap.size w w' := by
  unfold maxLen at b2
  obtain ⟨hk0, hk1⟩ := hkey
  have HL := Lib.hid br.blen
  have HB := Lib.hid br
  clear br
  by_cases hn : bn ≤ 500
  · by_cases hz : bn = 0
    · have hz' : ((bn : Int) == 0) = true := by rw [beq_iff_eq]; omega
      go_enter Try.func9, Try.ntmps9
      go_wp2_with fail
      with_reducible refine (alive_any _).mono ?_
      rintro e w1 ⟨rfl, hb1⟩
      go_wp2_with fail
      go_ret
      exact ⟨rfl, below_alloc_of hb1⟩
    · have hz' : ((bn : Int) == 0) = false := beq_eq_false_iff_ne.2 (by omega)
      have hpos : 0 < bn := by omega
      clear hz
      go_enter Try.func9, Try.ntmps9
      go_wp2_with fail
      with_reducible refine (alive_any _).mono ?_
      rintro e w1 ⟨rfl, hb1⟩
      have HC : Hid (∀ j, j < 9 → w1.cell? ⟨w.heap.size, j, none⟩ = some (.int .u8 ((c.getD j 0).toNat : Int))) := fun j hj => (box_cell hb1 j).trans ((alloc_cell _ _ _ _).trans (hc.out j hj))
      have hb2 := below_alloc_of hb1
      have hsz : w.heap.size < w1.heap.size := by have := hb1.size; simp at this; omega
      have HB1 := Lib.hid (HB.out.below hb2)
      clear hb1
      have c8 := HC.out 8 (by omega)
      obtain ⟨x8, hx8⟩ : ∃ x8 : Nat, x8 = (c.getD 8 0).toNat := ⟨_, rfl⟩
      have hx : x8 < 256 := by rw [hx8]; exact UInt8.toNat_lt _
      rw [← hx8] at c8
      clear hx8
      obtain ⟨r, hr⟩ : ∃ r : Nat, r = x8 * 8 % bn := ⟨_, rfl⟩
      have hrn : r < bn := by rw [hr]; exact Nat.mod_lt _ hpos
      have hrem : ((x8 : Int) * 8 % (bn : Int)) = (r : Int) := by rw [hr]; simp
      clear hr
      obtain ⟨m, hm⟩ : ∃ m : Nat, m = r / 8 := ⟨_, rfl⟩
      have hm1 : 8 * m ≤ r := by omega
      have HM := Lib.hid (show ((r : Int) / 8 * 8) = 8 * (m : Int) by omega)
      clear hm
      go_wp2_with
        (at_builtin
         refine wpList_app _ ei_u8 rfl (.tmp 21) (.tmp 22) rfl w1.heap.size (.slice (some ⟨w1.heap.size, 0, none⟩) 0 0) 0 [] rfl (World.ownsRow_lit w1 #[] 0 (Nat.le_refl _) (by simp [maxLen]) rfl) w.heap.size bA bn bc (b.map B8) rfl (HB1.out.alloc hb2.size _) (oneCell_B8 b) (by simp only [maxLen]; omega) (by omega) (by simp) ?_
         intro v2 w2 hown2 _ hbw2 _
         have hbw : Below w1.heap.size w1 w2 := ((Below.refl _ _).alloc (Nat.le_refl _) _).trans hbw2
         simp only [Nat.zero_add, List.nil_append] at hown2
         obtain ⟨g, cap, rfl, hgb, hgl⟩ := hown2.form hpos
         have c8' := (hbw.cell (p := ⟨w.heap.size, 8, none⟩) hsz).trans c8
         have HC2 : Hid (∀ j, j < 9 → w2.cell? ⟨w.heap.size, j, none⟩ = some (.int .u8 ((c.getD j 0).toNat : Int))) := fun j hj => (hbw.cell (p := ⟨w.heap.size, j, none⟩) hsz).trans (HC.out j hj)
         have HO2 := Lib.hid hown2
         clear hbw2 hown2 c8 HC)
      rw [HM.out]
      clear hrem c8'
      go_loopw [9, 10] (fun ch i wr => ∃ k : Nat, k ≤ 8 ∧ 8 * m + k ≤ bn ∧ i = .int .i64 k ∧ ch = .bool (chgB c k) ∧ wr.ownsRow w1.heap.size 5 1 (.slice (some ⟨g, 0, none⟩) bn cap) bn ((modL b c (8 * m) k).map B8) ∧ Below w1.heap.size w1 wr)
        (fun _ i _ => 8 - (intOf i).toNat)
      case atStart => exact ⟨0, by omega, by omega, rfl, rfl, HO2.out, hbw⟩
      case round =>
        obtain ⟨k, hk, hkn, rfl, rfl, hown, hbr⟩ := hrel
        by_cases h1 : k < 8
        · by_cases h2 : 8 * m + k < bn
          · obtain ⟨a, ha⟩ : ∃ a : Nat, a = (b.getD (8 * m + k) 0).toNat := ⟨_, rfl⟩
            obtain ⟨x, hx⟩ : ∃ x : Nat, x = (c.getD k 0).toNat := ⟨_, rfl⟩
            have ca : wr.cell? ⟨g, 8 * m + k, none⟩ = some (.int .u8 (a : Int)) := by
              rw [hown.cellAt _ (by omega), List.getElem?_map, modL_out _ _ _ _ _ (by omega), List.getElem?_eq_getElem (by rw [HL.out]; omega), ha]
              simp [B8, List.getElem?_eq_getElem (show 8 * m + k < b.length by rw [HL.out]; omega)]
            have fa : wr.frozen? ⟨g, 8 * m + k, none⟩ = false := hown.frozenAt _
            have cx : wr.cell? ⟨w.heap.size, k, none⟩ = some (.int .u8 (x : Int)) := by
              rw [hx, hbr.cell (p := ⟨w.heap.size, k, none⟩) hsz]
              exact (hbw.cell (p := ⟨w.heap.size, k, none⟩) hsz).symm.trans (HC2.out k (by omega))
            have HOW := Lib.hid hown
            have HX := Lib.hid hx
            have HA := Lib.hid ha
            clear hown hx ha
            have cx2 : ∀ u : Value, (wr.setCell ⟨g, 8 * m + k, none⟩ u).cell? ⟨w.heap.size, k, none⟩ = some (.int .u8 (x : Int)) := fun u => (World.cell?_setCell_other wr ⟨g, 8 * m + k, none⟩ ⟨w.heap.size, k, none⟩ u (fun e => by injection e with e; omega)).trans cx
            have HW := Lib.hid cx2
            have ha' : a < 256 := by rw [HA.out]; exact UInt8.toNat_lt _
            have hx' : x < 256 := by rw [HX.out]; exact UInt8.toNat_lt _
            have hst := HOW.out.stored (8 * m + k) (.int .u8 (bits .xor .u8 (a : Int) (x : Int)))
            have HN : Hid (∀ W : World, W = (wr.setCell ⟨g, 8 * m + k, none⟩ (.int .u8 (bits .xor .u8 (a : Int) (x : Int)))).drew → W.ownsRow w1.heap.size 5 1 (.slice (some ⟨g, 0, none⟩) bn cap) bn ((modL b c (8 * m) (k + 1)).map B8) ∧ Below w1.heap.size w1 W) := by
              rintro W rfl
              refine ⟨?_, (hbr.setCell (p := ⟨g, 8 * m + k, none⟩) hgb _).drew⟩
              have e := hst.1
              rw [map_set_B8 _ _ _ _ (xor_byte _ _ _ _ HA.out HX.out)] at e
              exact e
            clear hst cx2
            cases hcb : chgB c k with
            | true =>
              have HQ := Lib.hid (show chgB c (k + 1) = true by simp [chgB, hcb])
              clear hcb
              go_wp2
              go_region
              go_wp2
              go_roundw
              case rel => exact ⟨k + 1, by omega, by omega, by go_num, by rw [HQ.out], (HN.out _ rfl).1, (HN.out _ rfl).2⟩
              case measure => simp [intOf]; omega
            | false =>
              have HQ := Lib.hid (show chgB c (k + 1) = ((x : Int) != 0) by rw [HX.out]; simp [chgB, hcb])
              clear hcb
              go_wp2
              go_region
              have cx3 := HW.out (.int .u8 (bits .xor .u8 (a : Int) (x : Int)))
              go_wp2
              go_roundw
              case rel => exact ⟨k + 1, by omega, by omega, by go_num, by rw [HQ.out], (HN.out _ rfl).1, (HN.out _ rfl).2⟩
              case measure => simp [intOf]; omega
          · have h3 : 8 * m + k = bn := by omega
            have HT := Lib.hid (tag_changed key.toNat b c m k (by rw [HL.out]; omega) hk (by rw [HL.out]; omega) (by rw [HL.out]; omega) (by rw [HL.out]; omega))
            have HBr := Lib.hid (HB1.out.below (hbr.mono hb2.size))
            have HO := Lib.hid (Reads.of_own hown)
            have hcap := hown.2
            have hbc : bn ≤ cap := by
              rcases hcap with ⟨h, _⟩ | ⟨_, _, _, h, _, _, h2, _⟩
              · cases h
              · injection h with _ _ h3
                omega
            clear hown hcap
            go_wp2_with fail
            with_reducible refine (tag_any _ hk0 hk1 _ _ _ _ _ _ HBr.out b1 (by omega)).mono ?_
            rintro e w' ⟨rfl, rfl⟩
            go_wp2_with fail
            with_reducible refine (tag_any _ hk0 hk1 _ _ _ _ _ _ HO.out hbc (by omega)).mono ?_
            rintro e w' ⟨rfl, rfl⟩
            go_wp2_with fail
            go_ret
            exact ⟨ret_bool HT.out, hb2.trans (hbr.mono hb2.size)⟩
        · have HT := Lib.hid (tag_changed key.toNat b c m k (by rw [HL.out]; omega) hk (by rw [HL.out]; omega) (by rw [HL.out]; omega) (by rw [HL.out]; omega))
          have HBr := Lib.hid (HB1.out.below (hbr.mono hb2.size))
          have HO := Lib.hid (Reads.of_own hown)
          have hcap := hown.2
          have hbc : bn ≤ cap := by
            rcases hcap with ⟨h, _⟩ | ⟨_, _, _, h, _, _, h2, _⟩
            · cases h
            · injection h with _ _ h3
              omega
          clear hown hcap
          go_wp2_with fail
          with_reducible refine (tag_any _ hk0 hk1 _ _ _ _ _ _ HBr.out b1 (by omega)).mono ?_
          rintro e w' ⟨rfl, rfl⟩
          go_wp2_with fail
          with_reducible refine (tag_any _ hk0 hk1 _ _ _ _ _ _ HO.out hbc (by omega)).mono ?_
          rintro e w' ⟨rfl, rfl⟩
          go_wp2_with fail
          go_ret
          exact ⟨ret_bool HT.out, hb2.trans (hbr.mono hb2.size)⟩
  · go_enter Try.func9, Try.ntmps9
    go_wp2_with fail
    with_reducible refine (alive_any _).mono ?_
    rintro e w1 ⟨rfl, hb1⟩
    go_wp2_with fail
    go_ret
    exact ⟨rfl, below_alloc_of hb1⟩
theorem open_arr9 {H : Type} {enc : TypeId × Value → H} {P : Program} {W : World} {base : Nat} {t e : TypeId} {v : Value} {d : DataW H} {p : List MemPlace} (ht : P.underlying t = some (.array 9 e)) (he : P.underlying e = some (.int .u8)) (hC : P.cellsOf e = 1) (hCt : P.cellsOf t = 9)
    (hv : Value.okWide P W .any base t v) (h : DataW.Trod enc P W 0 (fun _ => true) true t v d p) :
    ∃ (cs : Array Value) (c : List UInt8), v = .agg cs ∧ Hid (∀ j, j < 9 → cs[j]? = some (.int .u8 ((c.getD j 0).toNat : Int))) := by
  obtain ⟨zs, rfl, zl, zw⟩ := open_arr ht he hC hCt hv h
  obtain ⟨c, hc⟩ := u8_of zs zw
  have cl : c.length = 9 := by have := congrArg List.length hc; simpa [zl] using this.symm
  exact ⟨_, c, rfl, fun j hj => by rw [hc]; simp [B8, List.getElem?_eq_getElem (show j < c.length by omega)]⟩


theorem own_sealBlocks : ownKnob Try.prog.godebug = none := by kernel_rfl
theorem laidOut_sealBlocks : laidOutB Try.prog = true := by kernel_rfl
set_option maxRecDepth 100000 in
theorem sealBlocks_lifted (os : Os) (started : os.Started) (H : Type) (enc : TypeId × Value → H) :
    ReturnsInHanded {} Try.checked os 9 .any (Rows.sealBlocksSpec.pre6 enc Try.prog Try.f9 Rows.sealBlocksRow.domain false) (Rows.sealBlocksSpec.post enc Try.prog Try.f9 false true false false) := by
  refine returnsInHanded_of_change (C := Try.checked) own_sealBlocks started (by kernel_rfl) Try.func9
    (ChangeSpec.witness6 (enc := enc) (C := Try.checked) false ⟨#[], #[.int .u64 0, .slice none 0 0, .agg #[.int .u8 0, .int .u8 0, .int .u8 0, .int .u8 0, .int .u8 0, .int .u8 0, .int .u8 0, .int .u8 0, .int .u8 0]], []⟩ 8 (by kernel_rfl) (by kernel_rfl) (by kernel_rfl) (by kernel_rfl)) ?_
  intro W base args ds gs before hval0 hW hcnd _
  have hval : ∀ (j : Nat) t v, Try.f9.params[j]? = some t → args[j]? = some v → Value.okWide Try.prog W .any base t v := hval0
  have hW' := hW
  obtain ⟨p, q, hA0, hV, rfl, hfz, hnd⟩ := hW
  have hA : DataW.TrodAll enc Try.prog W 0 (fun _ => true) true Try.f9.params.toList args.toList ds p := hA0
  rw [Try.params9] at hA hval
  obtain ⟨v0, vs0, d0, ds0, p0, q0, hargs, rfl, rfl, h0, r0⟩ := trodAll_cons hA
  obtain ⟨v1, vs1, d1, ds1, p1, q1, rfl, rfl, rfl, h1, r1⟩ := trodAll_cons r0
  obtain ⟨v2, vs2, d2, ds2, p2, q2, rfl, rfl, rfl, h2, r2⟩ := trodAll_cons r1
  obtain ⟨rfl, rfl, rfl⟩ := trodAll_nil r2
  obtain rfl : args = #[v0, v1, v2] := by cases args; simp_all
  obtain ⟨rfl, rfl⟩ := trodVars_none hV
  obtain ⟨key, rfl, key0, key1⟩ := open_u64 Try.underlying22 (hval 0 22 v0 rfl rfl) h0
  obtain ⟨bA, bn, bc, b, rfl, b1, b2, br⟩ := open_bytes Try.underlying28 Try.underlying5 (by kernel_rfl) (hval 1 28 v1 rfl rfl) h1
  obtain ⟨cs, c, rfl, hcs⟩ := open_arr9 Try.underlying35 Try.underlying5 (by kernel_rfl) (by kernel_rfl) (hval 2 35 v2 rfl rfl) h2
  refine (sealBlocks_any W key ⟨key0, key1⟩ bA bn bc b b1 b2 br cs c hcs).mono fun e W' ⟨he, hb⟩ => ?_
  subst he
  exact ⟨_, rfl, law_post laidOut_sealBlocks (by kernel_rfl) rfl rfl Try.underlying4 hW' rfl hb⟩

theorem sealBlocks_holds : Rows.SealBlocksSaid :=
  OpenClaim.holds_of_wide 9 Try.f9 rfl rfl rfl rfl rfl rfl rfl ⟨rfl, rfl, rfl, rfl, rfl⟩ rfl rfl rfl rfl rfl (by kernel_rfl) Try.func9 (by kernel_rfl)
    (of_decide_eq_true (by kernel_rfl)) (by unfold Func.isWrapper; rw [if_neg (by decide +kernel)]; exact ⟨rfl, rfl⟩)
    (fun os started H enc _ => sealBlocks_lifted os started H enc)
#print axioms sealBlocks_holds
end Go.Proofs.Ytkhdlcadahdbkaa
