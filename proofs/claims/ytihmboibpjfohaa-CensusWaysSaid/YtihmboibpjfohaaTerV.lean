/-
  The reference's check of a map (terrain), walked: all that it says.
-/
import Derived.Test.YtihmboibpjfohaaTerA
import Derived.Test.YtihmboibpjfohaaRegA
import Derived.Test.YtihmboibpjfohaaRegC
import Derived.BigQuiet
import Derived.Deep.Light
import Derived.IntWalk
namespace Go.Proofs.Ytihmboibpjfohaa
open Go.RowKit

theorem ret_bv {a b : Bool} (h : a = b) : Ending.returned (.bool a) = .returned (.bool b) := by rw [h]
set_option maxRecDepth 100000 in
set_option maxHeartbeats 4000000 in
theorem tin_any (x lo hi : Int) (b : Bool) (w : World) (hb : (decide (lo ≤ x) && decide (x ≤ hi)) = b) : Calls Try.prog 53 #[.int .i64 x, .int .i64 lo, .int .i64 hi] w fun e w' => e = .returned (.bool b) ∧ w = w' := by
  subst hb
  go_enter Try.func53, Try.ntmps53
  by_cases h : lo ≤ x
  · go_wp2
    go_ret
    exact ⟨ret_bv (by simp [h]), rfl⟩
  · have hd : decide (lo ≤ x) = false := by simpa using h
    go_wp2
    go_ret
    exact ⟨rfl, rfl⟩


def BoolR (w : World) (e : Ending) (w' : World) : Prop := ∃ b : Bool, e = .returned (.bool b) ∧ Below w.heap.size w w'
theorem boolR_of {b : Bool} {w w' : World} (hb : Below w.heap.size w w') : BoolR w (.returned (.bool b)) w' := ⟨b, rfl, hb⟩
/-- an error, and what its absence says -/
def ErrR (p : Prop) (w : World) (e : Ending) (w' : World) : Prop := ∃ r : Int, e = .returned (.int .i64 r) ∧ (r = 0 → p) ∧ Below w.heap.size w w'
theorem errR_no {p : Prop} {r : Int} {w w' : World} (h : r ≠ 0) (hb : Below w.heap.size w w') : ErrR p w (.returned (.int .i64 r)) w' := ⟨r, rfl, fun h0 => absurd h0 h, hb⟩
theorem errR_ok {p : Prop} {r : Int} {w w' : World} (h : p) (hb : Below w.heap.size w w') : ErrR p w (.returned (.int .i64 r)) w' := ⟨r, rfl, fun _ => h, hb⟩

set_option maxRecDepth 100000 in
set_option maxHeartbeats 4000000 in
theorem rises_any (vn vl vr vb : Value) (nd : List Nd) (a b : Int) (w : World) (hm : StrV Nd.cells 2 w w.heap.size vn nd) :
    Calls Try.prog 54 #[.agg #[vn, vl, vr, vb], .int .i64 a, .int .i64 b] w (ErrR (hasN nd a = true ∧ hasN nd b = true ∧ (ndOf nd a).alt < (ndOf nd b).alt) w) := by
  have HM := Lib.hid hm
  have HC : Hid (∀ (x al : Int) (bb : Bool) (W : World), StrV Nd.cells 2 W W.heap.size vn nd → (ndOf nd x).alt = al → hasN nd x = bb → Calls Try.prog 37 #[.agg #[vn, vl, vr, vb], .int .i64 x] W fun e w' => ∃ (j : Int), e = .returned (.tuple #[.agg #[.int .i64 j, .int .i64 al], .bool bb]) ∧ Below W.heap.size W w') := fun x al bb W h h1 h2 => by
    refine (rnode_any vn vl vr vb nd x W h).mono ?_
    rintro e w' ⟨rfl, h⟩
    exact ⟨_, by rw [h1, h2], h⟩
  clear hm
  obtain ⟨al, hal⟩ : ∃ x, (ndOf nd a).alt = x := ⟨_, rfl⟩
  obtain ⟨bl, hbl⟩ : ∃ x, (ndOf nd b).alt = x := ⟨_, rfl⟩
  obtain ⟨ba, hba⟩ : ∃ x, hasN nd a = x := ⟨_, rfl⟩
  obtain ⟨bb, hbb⟩ : ∃ x, hasN nd b = x := ⟨_, rfl⟩
  have HCa : Hid (∀ (W : World), StrV Nd.cells 2 W W.heap.size vn nd → Calls Try.prog 37 #[.agg #[vn, vl, vr, vb], .int .i64 a] W fun e w' => ∃ (j : Int), e = .returned (.tuple #[.agg #[.int .i64 j, .int .i64 al], .bool ba]) ∧ Below W.heap.size W w') := fun W h => HC.out a al ba W h hal hba
  have HCb : Hid (∀ (W : World), StrV Nd.cells 2 W W.heap.size vn nd → Calls Try.prog 37 #[.agg #[vn, vl, vr, vb], .int .i64 b] W fun e w' => ∃ (j : Int), e = .returned (.tuple #[.agg #[.int .i64 j, .int .i64 bl], .bool bb]) ∧ Below W.heap.size W w') := fun W h => HC.out b bl bb W h hbl hbb
  rw [hal, hbl, hba, hbb]
  clear hal hbl HC hba hbb
  obtain ⟨P, hP⟩ : ∃ P, (ba = true ∧ bb = true ∧ al < bl) = P := ⟨_, rfl⟩
  have HPp : Hid (ba = true → bb = true → al < bl → P) := fun h1 h2 h3 => hP ▸ ⟨h1, h2, h3⟩
  rw [hP]
  clear hP
  go_enter Try.func54, Try.ntmps54
  go_wp2_with fail
  have HBwb := (Blk.new w 44 #[vn, vl, vr, vb])
  have HLwb := (below_new w (.cells #[vn, vl, vr, vb] 44))
  have hswb : (w.alloc (.cells #[vn, vl, vr, vb] 44)).heap.size = w.heap.size + 1 := by simp
  generalize w.alloc (.cells #[vn, vl, vr, vb] 44) = wb at HBwb HLwb hswb ⊢
  replace HBwb := Lib.hid HBwb
  replace HLwb := Lib.hid HLwb
  have hlwb : w.heap.size < wb.heap.size := by omega
  replace hswb := Lib.hid hswb
  have HWb := Lib.hid (HLwb.out)
  have hl0 : w.heap.size ≤ wb.heap.size := HWb.out.size
  have HBb : Hid (Below wb.heap.size wb wb) := hide (Below.refl _ _)
  have hszb : wb.heap.size ≤ wb.heap.size := Nat.le_refl _
  have HX0b : Hid (Blk wb w.heap.size 44 #[vn, vl, vr, vb]) := hide HBwb.out
  have hxx0 : w.heap.size < wb.heap.size := HX0b.out.lt
  clear HBwb HLwb hswb hlwb
  have HMb := Lib.hid (HM.out.now HWb.out)
  go_wp2_with
    (first
     | (refine wpList_load_g 44 (.tmp 3) rfl rfl w.heap.size rfl _ _ HX0b.out _ Try.underlying44 rfl (by kernel_rfl) ?_))
  with_reducible refine (HCa.out _ HMb.out).mono ?_
  rintro e w1 ⟨ja, rfl, hb1⟩
  have HB1 := Lib.hid (HBb.out.trans (hb1.mono hszb))
  have HW1 := Lib.hid (HWb.out.trans (hb1.mono HWb.out.size))
  have hsz1 : wb.heap.size ≤ w1.heap.size := Nat.le_trans hszb hb1.size
  have HX01 := Lib.hid (HX0b.out.below hb1 (Nat.lt_of_lt_of_le hxx0 hszb))
  have HM1 := Lib.hid (HMb.out.now hb1)
  clear hb1
  go_wp2_with
    (first
     | (refine wpList_store_blk rfl 63 (.tmp 7) (.tmp 15) rfl w1.heap.size #[.int .i64 ja, .int .i64 al] rfl rfl _ _ (Blk.new w1 63 #[.int .i64 0, .int .i64 0]) (by kernel_rfl) rfl (by simp [Value.oneCell']) ?_
        intro w2 hx2 hon2
        have hb2 := hon2.below (below_new w1 (.cells #[.int .i64 0, .int .i64 0] 63)) (Nat.le_refl _)
        have HLja2 := Lib.hid hx2
        have HB2 := Lib.hid (HB1.out.trans (hb2.mono hsz1))
        have HW2 := Lib.hid (HW1.out.trans (hb2.mono HW1.out.size))
        have hsz2 : wb.heap.size ≤ w2.heap.size := Nat.le_trans hsz1 hb2.size
        have HX02 := Lib.hid (HX01.out.below hb2 (Nat.lt_of_lt_of_le hxx0 hsz1))
        have HM2 := Lib.hid (HM1.out.now hb2)
        clear hx2 hon2 hb2)
     | (refine wpList_load_g 44 (.tmp 3) rfl rfl w.heap.size rfl _ _ HX02.out _ Try.underlying44 rfl (by kernel_rfl) ?_))
  with_reducible refine (HCb.out _ HM2.out).mono ?_
  rintro e w3 ⟨jb, rfl, hb3⟩
  have HB3 := Lib.hid (HB2.out.trans (hb3.mono hsz2))
  have HW3 := Lib.hid (HW2.out.trans (hb3.mono HW2.out.size))
  have hsz3 : wb.heap.size ≤ w3.heap.size := Nat.le_trans hsz2 hb3.size
  have HX03 := Lib.hid (HX02.out.below hb3 (Nat.lt_of_lt_of_le hxx0 hsz2))
  have HLja3 := Lib.hid (HLja2.out.below hb3 HLja2.out.lt)
  have HM3 := Lib.hid (HM2.out.now hb3)
  clear hb3
  cases ba with
  | false =>
    go_wp2_with
      (first
       | (refine wpList_store_blk rfl 63 (.tmp 9) (.tmp 21) rfl w3.heap.size #[.int .i64 jb, .int .i64 bl] rfl rfl _ _ (Blk.new w3 63 #[.int .i64 0, .int .i64 0]) (by kernel_rfl) rfl (by simp [Value.oneCell']) ?_
          intro w4 hx4 hon4
          have hb4 := hon4.below (below_new w3 (.cells #[.int .i64 0, .int .i64 0] 63)) (Nat.le_refl _)
          have HLjb4 := Lib.hid hx4
          have HB4 := Lib.hid (HB3.out.trans (hb4.mono hsz3))
          have HW4 := Lib.hid (HW3.out.trans (hb4.mono HW3.out.size))
          have hsz4 : wb.heap.size ≤ w4.heap.size := Nat.le_trans hsz3 hb4.size
          have HX04 := Lib.hid (HX03.out.below hb4 (Nat.lt_of_lt_of_le hxx0 hsz3))
          have HLja4 := Lib.hid (HLja3.out.below hb4 HLja3.out.lt)
          have HM4 := Lib.hid (HM3.out.now hb4)
          have e1 : w4.cell? ⟨w1.heap.size, 1, none⟩ = some (.int .i64 al) := HLja4.out.cell 1
          have f1 : w4.cell? ⟨w3.heap.size, 1, none⟩ = some (.int .i64 bl) := HLjb4.out.cell 1
          clear hx4 hon4 hb4))
    go_ret
    exact errR_no (by decide) HW4.out
  | true =>
    cases bb with
    | false =>
      go_wp2_with
        (first
         | (refine wpList_store_blk rfl 63 (.tmp 9) (.tmp 21) rfl w3.heap.size #[.int .i64 jb, .int .i64 bl] rfl rfl _ _ (Blk.new w3 63 #[.int .i64 0, .int .i64 0]) (by kernel_rfl) rfl (by simp [Value.oneCell']) ?_
            intro w4 hx4 hon4
            have hb4 := hon4.below (below_new w3 (.cells #[.int .i64 0, .int .i64 0] 63)) (Nat.le_refl _)
            have HLjb4 := Lib.hid hx4
            have HB4 := Lib.hid (HB3.out.trans (hb4.mono hsz3))
            have HW4 := Lib.hid (HW3.out.trans (hb4.mono HW3.out.size))
            have hsz4 : wb.heap.size ≤ w4.heap.size := Nat.le_trans hsz3 hb4.size
            have HX04 := Lib.hid (HX03.out.below hb4 (Nat.lt_of_lt_of_le hxx0 hsz3))
            have HLja4 := Lib.hid (HLja3.out.below hb4 HLja3.out.lt)
            have HM4 := Lib.hid (HM3.out.now hb4)
            have e1 : w4.cell? ⟨w1.heap.size, 1, none⟩ = some (.int .i64 al) := HLja4.out.cell 1
            have f1 : w4.cell? ⟨w3.heap.size, 1, none⟩ = some (.int .i64 bl) := HLjb4.out.cell 1
            clear hx4 hon4 hb4))
      go_ret
      exact errR_no (by decide) HW4.out
    | true =>
      by_cases hle : bl ≤ al
      · skip
        go_wp2_with
          (first
           | (refine wpList_store_blk rfl 63 (.tmp 9) (.tmp 21) rfl w3.heap.size #[.int .i64 jb, .int .i64 bl] rfl rfl _ _ (Blk.new w3 63 #[.int .i64 0, .int .i64 0]) (by kernel_rfl) rfl (by simp [Value.oneCell']) ?_
              intro w4 hx4 hon4
              have hb4 := hon4.below (below_new w3 (.cells #[.int .i64 0, .int .i64 0] 63)) (Nat.le_refl _)
              have HLjb4 := Lib.hid hx4
              have HB4 := Lib.hid (HB3.out.trans (hb4.mono hsz3))
              have HW4 := Lib.hid (HW3.out.trans (hb4.mono HW3.out.size))
              have hsz4 : wb.heap.size ≤ w4.heap.size := Nat.le_trans hsz3 hb4.size
              have HX04 := Lib.hid (HX03.out.below hb4 (Nat.lt_of_lt_of_le hxx0 hsz3))
              have HLja4 := Lib.hid (HLja3.out.below hb4 HLja3.out.lt)
              have HM4 := Lib.hid (HM3.out.now hb4)
              have e1 : w4.cell? ⟨w1.heap.size, 1, none⟩ = some (.int .i64 al) := HLja4.out.cell 1
              have f1 : w4.cell? ⟨w3.heap.size, 1, none⟩ = some (.int .i64 bl) := HLjb4.out.cell 1
              clear hx4 hon4 hb4))
        go_ret
        exact errR_no (by decide) HW4.out
      · have dl : decide (bl ≤ al) = false := decide_eq_false hle
        go_wp2_with
          (first
           | (refine wpList_store_blk rfl 63 (.tmp 9) (.tmp 21) rfl w3.heap.size #[.int .i64 jb, .int .i64 bl] rfl rfl _ _ (Blk.new w3 63 #[.int .i64 0, .int .i64 0]) (by kernel_rfl) rfl (by simp [Value.oneCell']) ?_
              intro w4 hx4 hon4
              have hb4 := hon4.below (below_new w3 (.cells #[.int .i64 0, .int .i64 0] 63)) (Nat.le_refl _)
              have HLjb4 := Lib.hid hx4
              have HB4 := Lib.hid (HB3.out.trans (hb4.mono hsz3))
              have HW4 := Lib.hid (HW3.out.trans (hb4.mono HW3.out.size))
              have hsz4 : wb.heap.size ≤ w4.heap.size := Nat.le_trans hsz3 hb4.size
              have HX04 := Lib.hid (HX03.out.below hb4 (Nat.lt_of_lt_of_le hxx0 hsz3))
              have HLja4 := Lib.hid (HLja3.out.below hb4 HLja3.out.lt)
              have HM4 := Lib.hid (HM3.out.now hb4)
              have e1 : w4.cell? ⟨w1.heap.size, 1, none⟩ = some (.int .i64 al) := HLja4.out.cell 1
              have f1 : w4.cell? ⟨w3.heap.size, 1, none⟩ = some (.int .i64 bl) := HLjb4.out.cell 1
              clear hx4 hon4 hb4))
        go_ret
        exact errR_ok (HPp.out trivial trivial (by omega)) HW4.out

set_option maxRecDepth 100000 in
set_option maxHeartbeats 4000000 in
theorem carriers_any (id op fr tt ln sp se sc : Int) (w : World) (h1 : 10 ≤ ln ∧ ln ≤ 6000) (h2 : 5 ≤ sc ∧ sc ≤ 1000) :
    Calls Try.prog 55 #[.agg #[.int .i64 id, .int .i64 op, .int .i64 fr, .int .i64 tt, .int .i64 ln, .int .i64 sp, .int .i64 se, .int .i64 sc]] w (BoolR w) := by
  have hw1 : IntKind.i64.wrap (2 * ln) = 2 * ln := IntWalk.i64_in _ (by omega)
  have hz : sc ≠ 0 := by omega
  have hz1 : (sc == 0) = false := beq_eq_false_iff_ne.2 hz
  go_enter Try.func55, Try.ntmps55
  go_wp2_with fail
  · with_reducible refine (tin_any _ _ _ _ _ rfl).mono ?_
    rintro e w' ⟨rfl, rfl⟩
    go_wp2_with fail
    go_ret
    exact boolR_of ((Below.refl _ _).alloc (Nat.le_refl _) _)
  · go_ret
    exact boolR_of ((Below.refl _ _).alloc (Nat.le_refl _) _)
theorem good_all {α : Type} (z : α) {P : α → Prop} {xs : List α} {n : Nat} (hl : xs.length = n) (h : ∀ j, j < n → P (xs.getD j z)) : ∀ x ∈ xs, P x := fun x hx => by
  obtain ⟨j, hj, rfl⟩ := List.getElem_of_mem hx
  have := h j (by omega)
  rwa [show xs.getD j z = xs[j] by simp [List.getElem?_eq_getElem hj]] at this
def GNd (x : Nd) : Prop := (1 ≤ x.id ∧ x.id ≤ 9999) ∧ 0 ≤ x.alt ∧ x.alt ≤ 5000
def GLf (nd : List Nd) (x : Lf) : Prop := hasN nd x.fr = true ∧ hasN nd x.tt = true ∧ 10 ≤ x.ln ∧ x.ln ≤ 6000
def GRn (nd : List Nd) (x : Rn) : Prop := (1 ≤ x.id ∧ x.id ≤ 9999) ∧ hasN nd x.fr = true ∧ hasN nd x.tt = true ∧ (ndOf nd x.tt).alt < (ndOf nd x.fr).alt ∧ (1 ≤ x.gr ∧ x.gr ≤ 4) ∧ 10 ≤ x.ln ∧ x.ln ≤ 20000

set_option maxRecDepth 100000 in
set_option maxHeartbeats 4000000 in
theorem lifts_any (vn vl vr vb : Value) (nd : List Nd) (xs : List Lf) (w : World) (hm : StrV Nd.cells 2 w w.heap.size vn nd) (hx : StrV Lf.cells 8 w w.heap.size vl xs) :
    Calls Try.prog 42 #[.agg #[vn, vl, vr, vb]] w (ErrR ((∀ x ∈ xs, GLf nd x) ∧ (∀ j, j + 1 < xs.length → (xs.getD j lf0).id < (xs.getD (j + 1) lf0).id)) w) := by
  obtain ⟨A, n, c, rfl, HL, h1, h2, hr⟩ := hx.nam
  have HR := Lib.hid hr
  have HM := Lib.hid hm
  have hn : n ≤ maxLen := Nat.le_trans h1 h2
  unfold maxLen at hn
  have HC : Hid (∀ (a b : Int) (W : World), StrV Nd.cells 2 W W.heap.size vn nd → Calls Try.prog 54 #[.agg #[vn, .slice A n c, vr, vb], .int .i64 a, .int .i64 b] W fun e w' => ∃ r : Int, e = .returned (.int .i64 r) ∧ (r = 0 → hasN nd a = true ∧ hasN nd b = true ∧ (ndOf nd a).alt < (ndOf nd b).alt) ∧ Below W.heap.size W w') := fun a b W h => rises_any _ _ _ _ nd a b W h
  clear hm hx hr h1 h2
  go_enter Try.func42, Try.ntmps42
  go_wp2_with fail
  have HBwb := (Blk.new w 44 #[vn, .slice A n c, vr, vb])
  have HLwb := (below_new w (.cells #[vn, .slice A n c, vr, vb] 44))
  have hswb : (w.alloc (.cells #[vn, .slice A n c, vr, vb] 44)).heap.size = w.heap.size + 1 := by simp
  generalize w.alloc (.cells #[vn, .slice A n c, vr, vb] 44) = wb at HBwb HLwb hswb ⊢
  replace HBwb := Lib.hid HBwb
  replace HLwb := Lib.hid HLwb
  have hlwb : w.heap.size < wb.heap.size := by omega
  replace hswb := Lib.hid hswb
  have HWb := Lib.hid (HLwb.out)
  have hl0 : w.heap.size ≤ wb.heap.size := HWb.out.size
  have HBb : Hid (Below wb.heap.size wb wb) := hide (Below.refl _ _)
  have hszb : wb.heap.size ≤ wb.heap.size := Nat.le_refl _
  have HX0b : Hid (Blk wb w.heap.size 44 #[vn, .slice A n c, vr, vb]) := hide HBwb.out
  have hxx0 : w.heap.size < wb.heap.size := HX0b.out.lt
  clear HBwb HLwb hswb hlwb
  have HMb := Lib.hid (HM.out.now HWb.out)
  have HRb := Lib.hid (HR.out.now HWb.out)
  go_loopw [3] (fun i wr => ∃ k : Nat, k ≤ n ∧ i = .int .i64 k ∧ ((∀ j, j < k → GLf nd (xs.getD j lf0)) ∧ (∀ j, j + 1 < k → (xs.getD j lf0).id < (xs.getD (j + 1) lf0).id)) ∧ Below wb.heap.size wb wr) (fun i _ => n - (intOf i).toNat)
  case atStart => exact ⟨0, by omega, rfl, ⟨fun j hj => absurd hj (by omega), fun j hj => absurd hj (by omega)⟩, Below.refl _ _⟩
  case round =>
    obtain ⟨k, hk, rfl, hG, hbr⟩ := hrel
    have HG := Lib.hid hG
    clear hG
    obtain ⟨wo, rfl⟩ : ∃ wo : World, wo = wr := ⟨_, rfl⟩
    have HBo := Lib.hid (HBb.out.trans (hbr.mono hszb))
    have HWo := Lib.hid (HWb.out.trans (hbr.mono HWb.out.size))
    have hszo : wb.heap.size ≤ wo.heap.size := Nat.le_trans hszb hbr.size
    have HX0o := Lib.hid (HX0b.out.below hbr (Nat.lt_of_lt_of_le hxx0 hszb))
    have HMo := Lib.hid (HMb.out.now hbr)
    have HRo := Lib.hid (HRb.out.now hbr)
    clear hbr
    have m0 : wo.cell? ⟨w.heap.size, 0, none⟩ = some (vn) := HX0o.out.cell 0
    have m1 : wo.cell? ⟨w.heap.size, 1, none⟩ = some (.slice A n c) := HX0o.out.cell 1
    have m2 : wo.cell? ⟨w.heap.size, 2, none⟩ = some (vr) := HX0o.out.cell 2
    have m3 : wo.cell? ⟨w.heap.size, 3, none⟩ = some (vb) := HX0o.out.cell 3
    by_cases hlt : k < n
    rotate_left
    · obtain rfl : k = n := by omega
      go_wp2_with fail
      go_ret
      exact errR_ok ⟨good_all lf0 HL.out HG.out.1, fun j hj => HG.out.2 j (by rw [← HL.out]; exact hj)⟩ HWo.out
    obtain ⟨ad, rfl, hab, hcs⟩ := strs_at HRo.out (fun _ => rfl) HL.out hlt lf0
    have HPrev : Hid (∀ k', k = k' + 1 → wo.cell? (ad.add (k' * 8)) = some (.int .i64 (xs.getD k' lf0).id)) := fun k' hk' => by
      obtain ⟨ad', had, _, hcs'⟩ := strs_at HRo.out (fun _ => rfl) HL.out (show k' < n by omega) lf0
      injection had with had
      subst had
      have h := hcs' 0 _ rfl
      rwa [show (ad.add (k' * 8)).add 0 = ad.add (k' * 8) by unfold Addr.add; simp] at h
    have HNx : Hid (GLf nd (xs.getD k lf0) → (∀ k', k = k' + 1 → (xs.getD k' lf0).id < (xs.getD k lf0).id) → (∀ j, j < k + 1 → GLf nd (xs.getD j lf0)) ∧ (∀ j, j + 1 < k + 1 → (xs.getD j lf0).id < (xs.getD (j + 1) lf0).id)) := fun h h2 => by
      refine ⟨fun j hj => ?_, fun j hj => ?_⟩
      · rcases Nat.lt_or_ge j k with h1 | h1
        · exact HG.out.1 j h1
        · obtain rfl : j = k := by omega
          exact h
      · rcases Nat.lt_or_ge (j + 1) k with h1 | h1
        · exact HG.out.2 j h1
        · obtain rfl : k = j + 1 := by omega
          exact h2 j rfl
    clear HG
    generalize xs.getD k lf0 = q at *
    obtain ⟨id, op, fr, tt, ln, sp, se, sc⟩ := q
    have HCs : Hid (∀ j u, ([.int .i64 id, .int .i64 op, .int .i64 fr, .int .i64 tt, .int .i64 ln, .int .i64 sp, .int .i64 se, .int .i64 sc] : List Value)[j]? = some u → wo.cell? ((ad.add (k * 8)).add j) = some u) := hcs
    try simp only at HNx
    clear hcs m0 m1 m2 m3
    have m0 : wo.cell? ⟨w.heap.size, 0, none⟩ = some (vn) := HX0o.out.cell 0
    have m1 : wo.cell? ⟨w.heap.size, 1, none⟩ = some (.slice (some ad) n c) := HX0o.out.cell 1
    have m2 : wo.cell? ⟨w.heap.size, 2, none⟩ = some (vr) := HX0o.out.cell 2
    have m3 : wo.cell? ⟨w.heap.size, 3, none⟩ = some (vb) := HX0o.out.cell 3
    go_wp2_with
      (first
       | (refine wpList_load_at 79 (.tmp 16) rfl rfl (ad.add (k * 8)) rfl [.int .i64 id, .int .i64 op, .int .i64 fr, .int .i64 tt, .int .i64 ln, .int .i64 sp, .int .i64 se, .int .i64 sc] HCs.out _ Try.underlying79 rfl (by kernel_rfl) ?_)
       | (refine wpList_store_blk rfl 79 (.tmp 4) (.tmp 17) rfl wo.heap.size #[.int .i64 id, .int .i64 op, .int .i64 fr, .int .i64 tt, .int .i64 ln, .int .i64 sp, .int .i64 se, .int .i64 sc] rfl rfl _ _ (Blk.new wo 79 #[.int .i64 0, .int .i64 0, .int .i64 0, .int .i64 0, .int .i64 0, .int .i64 0, .int .i64 0, .int .i64 0]) (by kernel_rfl) rfl (by simp [Value.oneCell']) ?_
          intro w1 hx1 hon1
          have hb1 := hon1.below (below_new wo (.cells #[.int .i64 0, .int .i64 0, .int .i64 0, .int .i64 0, .int .i64 0, .int .i64 0, .int .i64 0, .int .i64 0] 79)) (Nat.le_refl _)
          have HY1 := Lib.hid hx1
          have HWp := Lib.hid hb1
          have hly1 : wo.heap.size < w1.heap.size := hx1.lt
          have HB1 := Lib.hid (HBo.out.trans (hb1.mono hszo))
          have HW1 := Lib.hid (HWo.out.trans (hb1.mono HWo.out.size))
          have hsz1 : wb.heap.size ≤ w1.heap.size := Nat.le_trans hszo hb1.size
          have HX01 := Lib.hid (HX0o.out.below hb1 (Nat.lt_of_lt_of_le hxx0 hszo))
          have HM1 := Lib.hid (HMo.out.now hb1)
          have HR1 := Lib.hid (HRo.out.now hb1)
          clear m0 m1 m2 m3
          have e0 : w1.cell? ⟨wo.heap.size, 0, none⟩ = some (.int .i64 id) := HY1.out.cell 0
          have e1 : w1.cell? ⟨wo.heap.size, 1, none⟩ = some (.int .i64 op) := HY1.out.cell 1
          have e2 : w1.cell? ⟨wo.heap.size, 2, none⟩ = some (.int .i64 fr) := HY1.out.cell 2
          have e3 : w1.cell? ⟨wo.heap.size, 3, none⟩ = some (.int .i64 tt) := HY1.out.cell 3
          have e4 : w1.cell? ⟨wo.heap.size, 4, none⟩ = some (.int .i64 ln) := HY1.out.cell 4
          have e5 : w1.cell? ⟨wo.heap.size, 5, none⟩ = some (.int .i64 sp) := HY1.out.cell 5
          have e6 : w1.cell? ⟨wo.heap.size, 6, none⟩ = some (.int .i64 se) := HY1.out.cell 6
          have e7 : w1.cell? ⟨wo.heap.size, 7, none⟩ = some (.int .i64 sc) := HY1.out.cell 7
          have m0 : w1.cell? ⟨w.heap.size, 0, none⟩ = some (vn) := HX01.out.cell 0
          have m1 : w1.cell? ⟨w.heap.size, 1, none⟩ = some (.slice (some ad) n c) := HX01.out.cell 1
          have m2 : w1.cell? ⟨w.heap.size, 2, none⟩ = some (vr) := HX01.out.cell 2
          have m3 : w1.cell? ⟨w.heap.size, 3, none⟩ = some (vb) := HX01.out.cell 3
          clear hx1 hon1 hb1))
    by_cases g0 : 1 ≤ id ∧ id ≤ 9999
    rotate_left
    · with_reducible refine (tin_any id 1 9999 false _ (by simp only [Bool.and_eq_false_iff, decide_eq_false_iff_not]; omega)).mono ?_
      rintro e w' ⟨rfl, rfl⟩
      go_wp2_with fail
      go_ret
      exact errR_no (by decide) HW1.out
    with_reducible refine (tin_any id 1 9999 true _ (by simp only [Bool.and_eq_true, decide_eq_true_eq]; omega)).mono ?_
    rintro e w' ⟨rfl, rfl⟩
    go_wp2_with fail
    by_cases g1 : 1 ≤ op ∧ op ≤ 8
    rotate_left
    · with_reducible refine (tin_any op 1 8 false _ (by simp only [Bool.and_eq_false_iff, decide_eq_false_iff_not]; omega)).mono ?_
      rintro e w' ⟨rfl, rfl⟩
      go_wp2_with fail
      go_ret
      exact errR_no (by decide) HW1.out
    with_reducible refine (tin_any op 1 8 true _ (by simp only [Bool.and_eq_true, decide_eq_true_eq]; omega)).mono ?_
    rintro e w' ⟨rfl, rfl⟩
    go_wp2_with fail
    by_cases g2 : 10 ≤ ln ∧ ln ≤ 6000
    rotate_left
    · with_reducible refine (tin_any ln 10 6000 false _ (by simp only [Bool.and_eq_false_iff, decide_eq_false_iff_not]; omega)).mono ?_
      rintro e w' ⟨rfl, rfl⟩
      go_wp2_with fail
      go_ret
      exact errR_no (by decide) HW1.out
    with_reducible refine (tin_any ln 10 6000 true _ (by simp only [Bool.and_eq_true, decide_eq_true_eq]; omega)).mono ?_
    rintro e w' ⟨rfl, rfl⟩
    go_wp2_with fail
    by_cases g3 : 500 ≤ sp ∧ sp ≤ 12000
    rotate_left
    · with_reducible refine (tin_any sp 500 12000 false _ (by simp only [Bool.and_eq_false_iff, decide_eq_false_iff_not]; omega)).mono ?_
      rintro e w' ⟨rfl, rfl⟩
      go_wp2_with fail
      go_ret
      exact errR_no (by decide) HW1.out
    with_reducible refine (tin_any sp 500 12000 true _ (by simp only [Bool.and_eq_true, decide_eq_true_eq]; omega)).mono ?_
    rintro e w' ⟨rfl, rfl⟩
    go_wp2_with fail
    by_cases g4 : 1 ≤ se ∧ se ≤ 16
    rotate_left
    · with_reducible refine (tin_any se 1 16 false _ (by simp only [Bool.and_eq_false_iff, decide_eq_false_iff_not]; omega)).mono ?_
      rintro e w' ⟨rfl, rfl⟩
      go_wp2_with fail
      go_ret
      exact errR_no (by decide) HW1.out
    with_reducible refine (tin_any se 1 16 true _ (by simp only [Bool.and_eq_true, decide_eq_true_eq]; omega)).mono ?_
    rintro e w' ⟨rfl, rfl⟩
    go_wp2_with fail
    by_cases g5 : 5 ≤ sc ∧ sc ≤ 1000
    rotate_left
    · with_reducible refine (tin_any sc 5 1000 false _ (by simp only [Bool.and_eq_false_iff, decide_eq_false_iff_not]; omega)).mono ?_
      rintro e w' ⟨rfl, rfl⟩
      go_wp2_with fail
      go_ret
      exact errR_no (by decide) HW1.out
    with_reducible refine (tin_any sc 5 1000 true _ (by simp only [Bool.and_eq_true, decide_eq_true_eq]; omega)).mono ?_
    rintro e w' ⟨rfl, rfl⟩
    go_wp2_with fail
    have HPv := HPrev
    go_cut [65] (fun s wx => ∃ b : Bool, s = .bool b ∧ (b = false → ∀ k', k = k' + 1 → (xs.getD k' lf0).id < id) ∧ Below w1.heap.size w1 wx)
    case first =>
      rcases Nat.eq_zero_or_pos k with hk0 | hk0
      · subst hk0
        refine wp_region_held_drew (S := fun _ => True) (by kernel_rfl) (trivial) (fun hHeld => ?_)
        refine held_run 0 (some 52) (.move (.tmp 3)) ?v7_1_2 (by rfl) (by kernel_rfl) (by kernel_rfl) (by kernel_rfl) (fun _ _ _ h => h) (fun o ho w hS => ?y7_1_2) (by assumption) ?r7_1_2
        case y7_1_2 => (try dsimp only at hS); unfold execOp; simp only [ho]; go_simp; try with_reducible rfl
        try simp only [Act.put, List.setIfInBounds_toArray, List.set_cons_zero, List.set_cons_succ]
        refine held_run 1 (some 53) (.binOp .gtr 3 (.tmp 52) (.const (.int .i64 0)) 3) ?v7_1_3 (by rfl) (by kernel_rfl) (by kernel_rfl) (by kernel_rfl) (fun _ _ _ h => h) (fun o ho w hS => ?y7_1_3) (by assumption) ?r7_1_3
        case y7_1_3 => (try dsimp only at hS); unfold execOp; simp only [ho]; go_simp; try with_reducible rfl
        try simp only [Act.put, List.setIfInBounds_toArray, List.set_cons_zero, List.set_cons_succ]
        refine held_run 2 (some 54) (.move (.tmp 53)) ?v7_1_4 (by rfl) (by kernel_rfl) (by kernel_rfl) (by kernel_rfl) (fun _ _ _ h => h) (fun o ho w hS => ?y7_1_4) (by assumption) ?r7_1_4
        case y7_1_4 => (try dsimp only at hS); unfold execOp; simp only [ho]; go_simp; try with_reducible rfl
        try simp only [Act.put, List.setIfInBounds_toArray, List.set_cons_zero, List.set_cons_succ]
        refine held_skip 3 (some 55) (by rfl) (by kernel_rfl) (by kernel_rfl) (by kernel_rfl) (fun _ _ _ h => h) (by assumption) ?_
        try simp only [Act.put, List.setIfInBounds_toArray, List.set_cons_zero, List.set_cons_succ]
        refine held_skip 4 (some 56) (by rfl) (by kernel_rfl) (by kernel_rfl) (by kernel_rfl) (fun _ _ _ h => h) (by assumption) ?_
        try simp only [Act.put, List.setIfInBounds_toArray, List.set_cons_zero, List.set_cons_succ]
        refine held_skip 5 (some 57) (by rfl) (by kernel_rfl) (by kernel_rfl) (by kernel_rfl) (fun _ _ _ h => h) (by assumption) ?_
        try simp only [Act.put, List.setIfInBounds_toArray, List.set_cons_zero, List.set_cons_succ]
        refine held_skip 6 (some 58) (by rfl) (by kernel_rfl) (by kernel_rfl) (by kernel_rfl) (fun _ _ _ h => h) (by assumption) ?_
        try simp only [Act.put, List.setIfInBounds_toArray, List.set_cons_zero, List.set_cons_succ]
        refine held_skip 7 (some 59) (by rfl) (by kernel_rfl) (by kernel_rfl) (by kernel_rfl) (fun _ _ _ h => h) (by assumption) ?_
        try simp only [Act.put, List.setIfInBounds_toArray, List.set_cons_zero, List.set_cons_succ]
        refine held_skip 8 (some 60) (by rfl) (by kernel_rfl) (by kernel_rfl) (by kernel_rfl) (fun _ _ _ h => h) (by assumption) ?_
        try simp only [Act.put, List.setIfInBounds_toArray, List.set_cons_zero, List.set_cons_succ]
        refine held_skip 9 (some 61) (by rfl) (by kernel_rfl) (by kernel_rfl) (by kernel_rfl) (fun _ _ _ h => h) (by assumption) ?_
        try simp only [Act.put, List.setIfInBounds_toArray, List.set_cons_zero, List.set_cons_succ]
        refine held_skip 10 (some 62) (by rfl) (by kernel_rfl) (by kernel_rfl) (by kernel_rfl) (fun _ _ _ h => h) (by assumption) ?_
        try simp only [Act.put, List.setIfInBounds_toArray, List.set_cons_zero, List.set_cons_succ]
        refine held_skip 11 (some 63) (by rfl) (by kernel_rfl) (by kernel_rfl) (by kernel_rfl) (fun _ _ _ h => h) (by assumption) ?_
        try simp only [Act.put, List.setIfInBounds_toArray, List.set_cons_zero, List.set_cons_succ]
        refine held_skip 12 (some 64) (by rfl) (by kernel_rfl) (by kernel_rfl) (by kernel_rfl) (fun _ _ _ h => h) (by assumption) ?_
        try simp only [Act.put, List.setIfInBounds_toArray, List.set_cons_zero, List.set_cons_succ]
        refine held_run 13 (some 65) (.pick (.tmp 54) (.tmp 64) (.const (Value.bool false))) ?v7_1_15 (by rfl) (by kernel_rfl) (by kernel_rfl) (by kernel_rfl) (fun _ _ _ h => h) (fun o ho w hS => ?y7_1_15) (by assumption) ?r7_1_15
        case y7_1_15 => (try dsimp only at hS); unfold execOp; simp only [ho]; go_simp; try with_reducible rfl
        try simp only [Act.put, List.setIfInBounds_toArray, List.set_cons_zero, List.set_cons_succ]
        refine wpAnyH_done (by kernel_rfl) ?_ _
        go_wp2_with fail
        go_meet
        exact ⟨_, rfl, fun _ k' hk' => absurd hk' (by omega), (Below.refl _ _).drew⟩
      · obtain ⟨k', hk'⟩ : ∃ k', k = k' + 1 := ⟨k - 1, by omega⟩
        have hp := HPv.out k' hk'
        obtain ⟨p, hpe⟩ : ∃ p, (xs.getD k' lf0).id = p := ⟨_, rfl⟩
        rw [hpe] at hp
        have HPr : Hid (decide (id ≤ p) = false → ∀ k2, k = k2 + 1 → (xs.getD k2 lf0).id < id) := fun hb k2 hk2 => by
          obtain rfl : k2 = k' := by omega
          rw [hpe]
          have h3 := of_decide_eq_false hb
          omega
        clear hpe
        have cp : w1.cell? (ad.add (k' * 8)) = some (.int .i64 p) := (HWp.out.cell (by rw [block_of_add]; exact hab)).trans hp
        have hj : (k : Int) - 1 = (k' : Int) := by omega
        have hkn : k' < n := by omega
        have dk : decide (0 < k) = true := decide_eq_true hk0
        have hwr : IntKind.i64.wrap (k' : Int) = (k' : Int) := IntWalk.i64_in _ (by omega)
        clear hk' hp
        refine wp_region_held_drew (S := fun W => W.cell? ⟨wo.heap.size, 0, none⟩ = some (.int .i64 id) ∧ W.cell? ⟨w.heap.size, 1, none⟩ = some (.slice (some ad) n c) ∧ W.cell? (ad.add (k' * 8)) = some (.int .i64 p)) (by kernel_rfl) (⟨e0, m1, cp⟩) (fun hHeld => ?_)
        refine held_run 0 (some 52) (.move (.tmp 3)) ?v7_16_17 (by rfl) (by kernel_rfl) (by kernel_rfl) (by kernel_rfl) (fun _ _ _ h => h) (fun o ho w hS => ?y7_16_17) (by assumption) ?r7_16_17
        case y7_16_17 => (try dsimp only at hS); unfold execOp; simp only [ho]; go_simp; try with_reducible rfl
        try simp only [Act.put, List.setIfInBounds_toArray, List.set_cons_zero, List.set_cons_succ]
        refine held_run 1 (some 53) (.binOp .gtr 3 (.tmp 52) (.const (.int .i64 0)) 3) ?v7_16_18 (by rfl) (by kernel_rfl) (by kernel_rfl) (by kernel_rfl) (fun _ _ _ h => h) (fun o ho w hS => ?y7_16_18) (by assumption) ?r7_16_18
        case y7_16_18 => (try dsimp only at hS); unfold execOp; simp only [ho]; go_simp; try with_reducible rfl
        try simp only [Act.put, List.setIfInBounds_toArray, List.set_cons_zero, List.set_cons_succ]
        refine held_run 2 (some 54) (.move (.tmp 53)) ?v7_16_19 (by rfl) (by kernel_rfl) (by kernel_rfl) (by kernel_rfl) (fun _ _ _ h => h) (fun o ho w hS => ?y7_16_19) (by assumption) ?r7_16_19
        case y7_16_19 => (try dsimp only at hS); unfold execOp; simp only [ho]; go_simp; try with_reducible rfl
        try simp only [Act.put, List.setIfInBounds_toArray, List.set_cons_zero, List.set_cons_succ]
        refine held_run 3 (some 55) (.fieldAddr 79 (.tmp 4) 0) ?v7_16_20 (by rfl) (by kernel_rfl) (by kernel_rfl) (by kernel_rfl) (fun _ _ _ h => h) (fun o ho w hS => ?y7_16_20) (by assumption) ?r7_16_20
        case y7_16_20 => (try dsimp only at hS); unfold execOp; simp only [ho]; go_simp; try with_reducible rfl
        try simp only [Act.put, List.setIfInBounds_toArray, List.set_cons_zero, List.set_cons_succ]
        refine held_run 4 (some 56) (.load 3 (.tmp 55)) ?v7_16_21 (by rfl) (by kernel_rfl) (by kernel_rfl) (by kernel_rfl) (fun _ _ _ h => h) (fun o ho w hS => ?y7_16_21) (by assumption) ?r7_16_21
        case y7_16_21 => (try dsimp only at hS); unfold execOp; simp only [ho]; go_simp; try with_reducible rfl
        try simp only [Act.put, List.setIfInBounds_toArray, List.set_cons_zero, List.set_cons_succ]
        refine held_run 5 (some 57) (.fieldAddr 44 (.tmp 1) 1) ?v7_16_22 (by rfl) (by kernel_rfl) (by kernel_rfl) (by kernel_rfl) (fun _ _ _ h => h) (fun o ho w hS => ?y7_16_22) (by assumption) ?r7_16_22
        case y7_16_22 => (try dsimp only at hS); unfold execOp; simp only [ho]; go_simp; try with_reducible rfl
        try simp only [Act.put, List.setIfInBounds_toArray, List.set_cons_zero, List.set_cons_succ]
        refine held_run 6 (some 58) (.load 40 (.tmp 57)) ?v7_16_23 (by rfl) (by kernel_rfl) (by kernel_rfl) (by kernel_rfl) (fun _ _ _ h => h) (fun o ho w hS => ?y7_16_23) (by assumption) ?r7_16_23
        case y7_16_23 => (try dsimp only at hS); unfold execOp; simp only [ho]; go_simp; try with_reducible rfl
        try simp only [Act.put, List.setIfInBounds_toArray, List.set_cons_zero, List.set_cons_succ]
        refine held_run 7 (some 59) (.move (.tmp 3)) ?v7_16_24 (by rfl) (by kernel_rfl) (by kernel_rfl) (by kernel_rfl) (fun _ _ _ h => h) (fun o ho w hS => ?y7_16_24) (by assumption) ?r7_16_24
        case y7_16_24 => (try dsimp only at hS); unfold execOp; simp only [ho]; go_simp; try with_reducible rfl
        try simp only [Act.put, List.setIfInBounds_toArray, List.set_cons_zero, List.set_cons_succ]
        refine held_run 8 (some 60) (.binOp .sub 3 (.tmp 59) (.const (.int .i64 1)) 3) ?v7_16_25 (by rfl) (by kernel_rfl) (by kernel_rfl) (by kernel_rfl) (fun _ _ _ h => h) (fun o ho w hS => ?y7_16_25) (by assumption) ?r7_16_25
        case y7_16_25 => (try dsimp only at hS); unfold execOp; simp only [ho]; go_simp; try with_reducible rfl
        try simp only [Act.put, List.setIfInBounds_toArray, List.set_cons_zero, List.set_cons_succ]
        refine held_run 9 (some 61) (.indexAddr 40 (.tmp 58) (.tmp 60)) ?v7_16_26 (by rfl) (by kernel_rfl) (by kernel_rfl) (by kernel_rfl) (fun _ _ _ h => h) (fun o ho w hS => ?y7_16_26) (by assumption) ?r7_16_26
        case y7_16_26 => (try dsimp only at hS); unfold execOp; simp only [ho]; go_simp; try with_reducible rfl
        try simp only [Act.put, List.setIfInBounds_toArray, List.set_cons_zero, List.set_cons_succ]
        refine held_run 10 (some 62) (.fieldAddr 79 (.tmp 61) 0) ?v7_16_27 (by rfl) (by kernel_rfl) (by kernel_rfl) (by kernel_rfl) (fun _ _ _ h => h) (fun o ho w hS => ?y7_16_27) (by assumption) ?r7_16_27
        case y7_16_27 => (try dsimp only at hS); unfold execOp; simp only [ho]; go_simp; try with_reducible rfl
        try simp only [Act.put, List.setIfInBounds_toArray, List.set_cons_zero, List.set_cons_succ]
        refine held_run 11 (some 63) (.load 3 (.tmp 62)) ?v7_16_28 (by rfl) (by kernel_rfl) (by kernel_rfl) (by kernel_rfl) (fun _ _ _ h => h) (fun o ho w hS => ?y7_16_28) (by assumption) ?r7_16_28
        case y7_16_28 => (try dsimp only at hS); unfold execOp; simp only [ho]; go_simp; try with_reducible rfl
        try simp only [Act.put, List.setIfInBounds_toArray, List.set_cons_zero, List.set_cons_succ]
        refine held_run 12 (some 64) (.binOp .leq 3 (.tmp 56) (.tmp 63) 3) ?v7_16_29 (by rfl) (by kernel_rfl) (by kernel_rfl) (by kernel_rfl) (fun _ _ _ h => h) (fun o ho w hS => ?y7_16_29) (by assumption) ?r7_16_29
        case y7_16_29 => (try dsimp only at hS); unfold execOp; simp only [ho]; go_simp; try with_reducible rfl
        try simp only [Act.put, List.setIfInBounds_toArray, List.set_cons_zero, List.set_cons_succ]
        refine held_run 13 (some 65) (.pick (.tmp 54) (.tmp 64) (.const (Value.bool false))) ?v7_16_30 (by rfl) (by kernel_rfl) (by kernel_rfl) (by kernel_rfl) (fun _ _ _ h => h) (fun o ho w hS => ?y7_16_30) (by assumption) ?r7_16_30
        case y7_16_30 => (try dsimp only at hS); unfold execOp; simp only [ho]; go_simp; try with_reducible rfl
        try simp only [Act.put, List.setIfInBounds_toArray, List.set_cons_zero, List.set_cons_succ]
        refine wpAnyH_done (by kernel_rfl) ?_ _
        go_wp2_with fail
        go_meet
        exact ⟨_, rfl, fun hb k2 hk2 => HPr.out hb k2 hk2, (Below.refl _ _).drew⟩
    obtain ⟨bo, rfl, hbo, hcut⟩ := hcut
    have HBo2 := Lib.hid hbo
    clear hbo
    have HYc := Lib.hid (HY1.out.below hcut hly1)
    have hlyc : wo.heap.size < wc.heap.size := HYc.out.lt
    have HBc := Lib.hid (HB1.out.trans (hcut.mono hsz1))
    have HWc := Lib.hid (HW1.out.trans (hcut.mono HW1.out.size))
    have hszc : wb.heap.size ≤ wc.heap.size := Nat.le_trans hsz1 hcut.size
    have HX0c := Lib.hid (HX01.out.below hcut (Nat.lt_of_lt_of_le hxx0 hsz1))
    have HMc := Lib.hid (HM1.out.now hcut)
    have HRc := Lib.hid (HR1.out.now hcut)
    clear hcut e0 e1 e2 e3 e4 e5 e6 e7 m0 m1 m2 m3 HPv HPrev
    have hwc : wc = wc := rfl
    cases bo with
    | true =>
      go_wp2_with fail
      go_ret
      exact errR_no (by decide) HWc.out
    | false =>
      have e0 : wc.cell? ⟨wo.heap.size, 0, none⟩ = some (.int .i64 id) := HYc.out.cell 0
      have e1 : wc.cell? ⟨wo.heap.size, 1, none⟩ = some (.int .i64 op) := HYc.out.cell 1
      have e2 : wc.cell? ⟨wo.heap.size, 2, none⟩ = some (.int .i64 fr) := HYc.out.cell 2
      have e3 : wc.cell? ⟨wo.heap.size, 3, none⟩ = some (.int .i64 tt) := HYc.out.cell 3
      have e4 : wc.cell? ⟨wo.heap.size, 4, none⟩ = some (.int .i64 ln) := HYc.out.cell 4
      have e5 : wc.cell? ⟨wo.heap.size, 5, none⟩ = some (.int .i64 sp) := HYc.out.cell 5
      have e6 : wc.cell? ⟨wo.heap.size, 6, none⟩ = some (.int .i64 se) := HYc.out.cell 6
      have e7 : wc.cell? ⟨wo.heap.size, 7, none⟩ = some (.int .i64 sc) := HYc.out.cell 7
      go_wp2_with
        (first
         | (refine wpList_load_g 44 (.tmp 1) rfl rfl w.heap.size rfl _ _ HX0c.out _ Try.underlying44 rfl (by kernel_rfl) ?_))
      with_reducible refine (HC.out fr tt _ HMc.out).mono ?_
      rintro e w2 ⟨r, rfl, hr, hb2⟩
      have HY2 := Lib.hid (HYc.out.below hb2 hlyc)
      have HB2 := Lib.hid (HBc.out.trans (hb2.mono hszc))
      have HW2 := Lib.hid (HWc.out.trans (hb2.mono HWc.out.size))
      have hsz2 : wb.heap.size ≤ w2.heap.size := Nat.le_trans hszc hb2.size
      have HX02 := Lib.hid (HX0c.out.below hb2 (Nat.lt_of_lt_of_le hxx0 hszc))
      have HM2 := Lib.hid (HMc.out.now hb2)
      have HR2 := Lib.hid (HRc.out.now hb2)
      clear hb2
      by_cases hr0 : r = 0
      rotate_left
      · have d0 : (r == 0) = false := beq_eq_false_iff_ne.2 hr0
        go_wp2_with fail
        go_ret
        exact errR_no hr0 HW2.out
      have HGo := Lib.hid (hr hr0)
      subst hr0
      go_wp2_with
        (first
         | (refine wpList_load_g 79 (.tmp 4) rfl rfl wo.heap.size rfl _ _ HY2.out _ Try.underlying79 rfl (by kernel_rfl) ?_))
      with_reducible refine (carriers_any id op fr tt ln sp se sc _ (by omega) (by omega)).mono ?_
      rintro e w3 ⟨cb, rfl, hb3⟩
      have HB3 := Lib.hid (HB2.out.trans (hb3.mono hsz2))
      have HW3 := Lib.hid (HW2.out.trans (hb3.mono HW2.out.size))
      have hsz3 : wb.heap.size ≤ w3.heap.size := Nat.le_trans hsz2 hb3.size
      have HX03 := Lib.hid (HX02.out.below hb3 (Nat.lt_of_lt_of_le hxx0 hsz2))
      have HM3 := Lib.hid (HM2.out.now hb3)
      have HR3 := Lib.hid (HR2.out.now hb3)
      clear hb3
      cases cb with
      | false =>
        go_wp2_with fail
        go_ret
        exact errR_no (by decide) HW3.out
      | true =>
        go_wp2_with fail
        go_roundw
        case rel => exact ⟨k + 1, by omega, by go_num, HNx.out (⟨HGo.out.1, HGo.out.2.1, (show 10 ≤ ln by omega), (show ln ≤ 6000 by omega)⟩) (HBo2.out trivial), HB3.out⟩
        case measure => simp [intOf]; omega

set_option maxRecDepth 100000 in
set_option maxHeartbeats 4000000 in
theorem truns_any (vn vl vr vb : Value) (nd : List Nd) (xs : List Rn) (w : World) (hm : StrV Nd.cells 2 w w.heap.size vn nd) (hx : StrV Rn.cells 7 w w.heap.size vr xs) :
    Calls Try.prog 43 #[.agg #[vn, vl, vr, vb]] w (ErrR ((∀ x ∈ xs, GRn nd x) ∧ (∀ j, j + 1 < xs.length → (xs.getD j rn0).id < (xs.getD (j + 1) rn0).id)) w) := by
  obtain ⟨A, n, c, rfl, HL, h1, h2, hr⟩ := hx.nam
  have HR := Lib.hid hr
  have HM := Lib.hid hm
  have hn : n ≤ maxLen := Nat.le_trans h1 h2
  unfold maxLen at hn
  have HC : Hid (∀ (a b : Int) (W : World), StrV Nd.cells 2 W W.heap.size vn nd → Calls Try.prog 54 #[.agg #[vn, vl, .slice A n c, vb], .int .i64 a, .int .i64 b] W fun e w' => ∃ r : Int, e = .returned (.int .i64 r) ∧ (r = 0 → hasN nd a = true ∧ hasN nd b = true ∧ (ndOf nd a).alt < (ndOf nd b).alt) ∧ Below W.heap.size W w') := fun a b W h => rises_any _ _ _ _ nd a b W h
  clear hm hx hr h1 h2
  go_enter Try.func43, Try.ntmps43
  go_wp2_with fail
  have HBwb := (Blk.new w 44 #[vn, vl, .slice A n c, vb])
  have HLwb := (below_new w (.cells #[vn, vl, .slice A n c, vb] 44))
  have hswb : (w.alloc (.cells #[vn, vl, .slice A n c, vb] 44)).heap.size = w.heap.size + 1 := by simp
  generalize w.alloc (.cells #[vn, vl, .slice A n c, vb] 44) = wb at HBwb HLwb hswb ⊢
  replace HBwb := Lib.hid HBwb
  replace HLwb := Lib.hid HLwb
  have hlwb : w.heap.size < wb.heap.size := by omega
  replace hswb := Lib.hid hswb
  have HWb := Lib.hid (HLwb.out)
  have hl0 : w.heap.size ≤ wb.heap.size := HWb.out.size
  have HBb : Hid (Below wb.heap.size wb wb) := hide (Below.refl _ _)
  have hszb : wb.heap.size ≤ wb.heap.size := Nat.le_refl _
  have HX0b : Hid (Blk wb w.heap.size 44 #[vn, vl, .slice A n c, vb]) := hide HBwb.out
  have hxx0 : w.heap.size < wb.heap.size := HX0b.out.lt
  clear HBwb HLwb hswb hlwb
  have HMb := Lib.hid (HM.out.now HWb.out)
  have HRb := Lib.hid (HR.out.now HWb.out)
  go_loopw [3] (fun i wr => ∃ k : Nat, k ≤ n ∧ i = .int .i64 k ∧ ((∀ j, j < k → GRn nd (xs.getD j rn0)) ∧ (∀ j, j + 1 < k → (xs.getD j rn0).id < (xs.getD (j + 1) rn0).id)) ∧ Below wb.heap.size wb wr) (fun i _ => n - (intOf i).toNat)
  case atStart => exact ⟨0, by omega, rfl, ⟨fun j hj => absurd hj (by omega), fun j hj => absurd hj (by omega)⟩, Below.refl _ _⟩
  case round =>
    obtain ⟨k, hk, rfl, hG, hbr⟩ := hrel
    have HG := Lib.hid hG
    clear hG
    obtain ⟨wo, rfl⟩ : ∃ wo : World, wo = wr := ⟨_, rfl⟩
    have HBo := Lib.hid (HBb.out.trans (hbr.mono hszb))
    have HWo := Lib.hid (HWb.out.trans (hbr.mono HWb.out.size))
    have hszo : wb.heap.size ≤ wo.heap.size := Nat.le_trans hszb hbr.size
    have HX0o := Lib.hid (HX0b.out.below hbr (Nat.lt_of_lt_of_le hxx0 hszb))
    have HMo := Lib.hid (HMb.out.now hbr)
    have HRo := Lib.hid (HRb.out.now hbr)
    clear hbr
    have m0 : wo.cell? ⟨w.heap.size, 0, none⟩ = some (vn) := HX0o.out.cell 0
    have m1 : wo.cell? ⟨w.heap.size, 1, none⟩ = some (vl) := HX0o.out.cell 1
    have m2 : wo.cell? ⟨w.heap.size, 2, none⟩ = some (.slice A n c) := HX0o.out.cell 2
    have m3 : wo.cell? ⟨w.heap.size, 3, none⟩ = some (vb) := HX0o.out.cell 3
    by_cases hlt : k < n
    rotate_left
    · obtain rfl : k = n := by omega
      go_wp2_with fail
      go_ret
      exact errR_ok ⟨good_all rn0 HL.out HG.out.1, fun j hj => HG.out.2 j (by rw [← HL.out]; exact hj)⟩ HWo.out
    obtain ⟨ad, rfl, hab, hcs⟩ := strs_at HRo.out (fun _ => rfl) HL.out hlt rn0
    have HPrev : Hid (∀ k', k = k' + 1 → wo.cell? (ad.add (k' * 7)) = some (.int .i64 (xs.getD k' rn0).id)) := fun k' hk' => by
      obtain ⟨ad', had, _, hcs'⟩ := strs_at HRo.out (fun _ => rfl) HL.out (show k' < n by omega) rn0
      injection had with had
      subst had
      have h := hcs' 0 _ rfl
      rwa [show (ad.add (k' * 7)).add 0 = ad.add (k' * 7) by unfold Addr.add; simp] at h
    have HNx : Hid (GRn nd (xs.getD k rn0) → (∀ k', k = k' + 1 → (xs.getD k' rn0).id < (xs.getD k rn0).id) → (∀ j, j < k + 1 → GRn nd (xs.getD j rn0)) ∧ (∀ j, j + 1 < k + 1 → (xs.getD j rn0).id < (xs.getD (j + 1) rn0).id)) := fun h h2 => by
      refine ⟨fun j hj => ?_, fun j hj => ?_⟩
      · rcases Nat.lt_or_ge j k with h1 | h1
        · exact HG.out.1 j h1
        · obtain rfl : j = k := by omega
          exact h
      · rcases Nat.lt_or_ge (j + 1) k with h1 | h1
        · exact HG.out.2 j h1
        · obtain rfl : k = j + 1 := by omega
          exact h2 j rfl
    clear HG
    generalize xs.getD k rn0 = q at *
    obtain ⟨id, op, fr, tt, gr, zn, ln⟩ := q
    have HCs : Hid (∀ j u, ([.int .i64 id, .int .i64 op, .int .i64 fr, .int .i64 tt, .int .i64 gr, .int .i64 zn, .int .i64 ln] : List Value)[j]? = some u → wo.cell? ((ad.add (k * 7)).add j) = some u) := hcs
    try simp only at HNx
    clear hcs m0 m1 m2 m3
    have m0 : wo.cell? ⟨w.heap.size, 0, none⟩ = some (vn) := HX0o.out.cell 0
    have m1 : wo.cell? ⟨w.heap.size, 1, none⟩ = some (vl) := HX0o.out.cell 1
    have m2 : wo.cell? ⟨w.heap.size, 2, none⟩ = some (.slice (some ad) n c) := HX0o.out.cell 2
    have m3 : wo.cell? ⟨w.heap.size, 3, none⟩ = some (vb) := HX0o.out.cell 3
    go_wp2_with
      (first
       | (refine wpList_load_at 55 (.tmp 16) rfl rfl (ad.add (k * 7)) rfl [.int .i64 id, .int .i64 op, .int .i64 fr, .int .i64 tt, .int .i64 gr, .int .i64 zn, .int .i64 ln] HCs.out _ Try.underlying55 rfl (by kernel_rfl) ?_)
       | (refine wpList_store_blk rfl 55 (.tmp 4) (.tmp 17) rfl wo.heap.size #[.int .i64 id, .int .i64 op, .int .i64 fr, .int .i64 tt, .int .i64 gr, .int .i64 zn, .int .i64 ln] rfl rfl _ _ (Blk.new wo 55 #[.int .i64 0, .int .i64 0, .int .i64 0, .int .i64 0, .int .i64 0, .int .i64 0, .int .i64 0]) (by kernel_rfl) rfl (by simp [Value.oneCell']) ?_
          intro w1 hx1 hon1
          have hb1 := hon1.below (below_new wo (.cells #[.int .i64 0, .int .i64 0, .int .i64 0, .int .i64 0, .int .i64 0, .int .i64 0, .int .i64 0] 55)) (Nat.le_refl _)
          have HY1 := Lib.hid hx1
          have HWp := Lib.hid hb1
          have hly1 : wo.heap.size < w1.heap.size := hx1.lt
          have HB1 := Lib.hid (HBo.out.trans (hb1.mono hszo))
          have HW1 := Lib.hid (HWo.out.trans (hb1.mono HWo.out.size))
          have hsz1 : wb.heap.size ≤ w1.heap.size := Nat.le_trans hszo hb1.size
          have HX01 := Lib.hid (HX0o.out.below hb1 (Nat.lt_of_lt_of_le hxx0 hszo))
          have HM1 := Lib.hid (HMo.out.now hb1)
          have HR1 := Lib.hid (HRo.out.now hb1)
          clear m0 m1 m2 m3
          have e0 : w1.cell? ⟨wo.heap.size, 0, none⟩ = some (.int .i64 id) := HY1.out.cell 0
          have e1 : w1.cell? ⟨wo.heap.size, 1, none⟩ = some (.int .i64 op) := HY1.out.cell 1
          have e2 : w1.cell? ⟨wo.heap.size, 2, none⟩ = some (.int .i64 fr) := HY1.out.cell 2
          have e3 : w1.cell? ⟨wo.heap.size, 3, none⟩ = some (.int .i64 tt) := HY1.out.cell 3
          have e4 : w1.cell? ⟨wo.heap.size, 4, none⟩ = some (.int .i64 gr) := HY1.out.cell 4
          have e5 : w1.cell? ⟨wo.heap.size, 5, none⟩ = some (.int .i64 zn) := HY1.out.cell 5
          have e6 : w1.cell? ⟨wo.heap.size, 6, none⟩ = some (.int .i64 ln) := HY1.out.cell 6
          have m0 : w1.cell? ⟨w.heap.size, 0, none⟩ = some (vn) := HX01.out.cell 0
          have m1 : w1.cell? ⟨w.heap.size, 1, none⟩ = some (vl) := HX01.out.cell 1
          have m2 : w1.cell? ⟨w.heap.size, 2, none⟩ = some (.slice (some ad) n c) := HX01.out.cell 2
          have m3 : w1.cell? ⟨w.heap.size, 3, none⟩ = some (vb) := HX01.out.cell 3
          clear hx1 hon1 hb1))
    by_cases g0 : 1 ≤ id ∧ id ≤ 9999
    rotate_left
    · with_reducible refine (tin_any id 1 9999 false _ (by simp only [Bool.and_eq_false_iff, decide_eq_false_iff_not]; omega)).mono ?_
      rintro e w' ⟨rfl, rfl⟩
      go_wp2_with fail
      go_ret
      exact errR_no (by decide) HW1.out
    with_reducible refine (tin_any id 1 9999 true _ (by simp only [Bool.and_eq_true, decide_eq_true_eq]; omega)).mono ?_
    rintro e w' ⟨rfl, rfl⟩
    go_wp2_with fail
    by_cases g1 : 1 ≤ op ∧ op ≤ 8
    rotate_left
    · with_reducible refine (tin_any op 1 8 false _ (by simp only [Bool.and_eq_false_iff, decide_eq_false_iff_not]; omega)).mono ?_
      rintro e w' ⟨rfl, rfl⟩
      go_wp2_with fail
      go_ret
      exact errR_no (by decide) HW1.out
    with_reducible refine (tin_any op 1 8 true _ (by simp only [Bool.and_eq_true, decide_eq_true_eq]; omega)).mono ?_
    rintro e w' ⟨rfl, rfl⟩
    go_wp2_with fail
    by_cases g2 : 1 ≤ gr ∧ gr ≤ 4
    rotate_left
    · with_reducible refine (tin_any gr 1 4 false _ (by simp only [Bool.and_eq_false_iff, decide_eq_false_iff_not]; omega)).mono ?_
      rintro e w' ⟨rfl, rfl⟩
      go_wp2_with fail
      go_ret
      exact errR_no (by decide) HW1.out
    with_reducible refine (tin_any gr 1 4 true _ (by simp only [Bool.and_eq_true, decide_eq_true_eq]; omega)).mono ?_
    rintro e w' ⟨rfl, rfl⟩
    go_wp2_with fail
    by_cases g3 : 1 ≤ zn ∧ zn ≤ 32
    rotate_left
    · with_reducible refine (tin_any zn 1 32 false _ (by simp only [Bool.and_eq_false_iff, decide_eq_false_iff_not]; omega)).mono ?_
      rintro e w' ⟨rfl, rfl⟩
      go_wp2_with fail
      go_ret
      exact errR_no (by decide) HW1.out
    with_reducible refine (tin_any zn 1 32 true _ (by simp only [Bool.and_eq_true, decide_eq_true_eq]; omega)).mono ?_
    rintro e w' ⟨rfl, rfl⟩
    go_wp2_with fail
    by_cases g4 : 10 ≤ ln ∧ ln ≤ 20000
    rotate_left
    · with_reducible refine (tin_any ln 10 20000 false _ (by simp only [Bool.and_eq_false_iff, decide_eq_false_iff_not]; omega)).mono ?_
      rintro e w' ⟨rfl, rfl⟩
      go_wp2_with fail
      go_ret
      exact errR_no (by decide) HW1.out
    with_reducible refine (tin_any ln 10 20000 true _ (by simp only [Bool.and_eq_true, decide_eq_true_eq]; omega)).mono ?_
    rintro e w' ⟨rfl, rfl⟩
    go_wp2_with fail
    have HPv := HPrev
    go_cut [59] (fun s wx => ∃ b : Bool, s = .bool b ∧ (b = false → ∀ k', k = k' + 1 → (xs.getD k' rn0).id < id) ∧ Below w1.heap.size w1 wx)
    case first =>
      rcases Nat.eq_zero_or_pos k with hk0 | hk0
      · subst hk0
        refine wp_region_held_drew (S := fun _ => True) (by kernel_rfl) (trivial) (fun hHeld => ?_)
        refine held_run 0 (some 46) (.move (.tmp 3)) ?v7_31_32 (by rfl) (by kernel_rfl) (by kernel_rfl) (by kernel_rfl) (fun _ _ _ h => h) (fun o ho w hS => ?y7_31_32) (by assumption) ?r7_31_32
        case y7_31_32 => (try dsimp only at hS); unfold execOp; simp only [ho]; go_simp; try with_reducible rfl
        try simp only [Act.put, List.setIfInBounds_toArray, List.set_cons_zero, List.set_cons_succ]
        refine held_run 1 (some 47) (.binOp .gtr 3 (.tmp 46) (.const (.int .i64 0)) 3) ?v7_31_33 (by rfl) (by kernel_rfl) (by kernel_rfl) (by kernel_rfl) (fun _ _ _ h => h) (fun o ho w hS => ?y7_31_33) (by assumption) ?r7_31_33
        case y7_31_33 => (try dsimp only at hS); unfold execOp; simp only [ho]; go_simp; try with_reducible rfl
        try simp only [Act.put, List.setIfInBounds_toArray, List.set_cons_zero, List.set_cons_succ]
        refine held_run 2 (some 48) (.move (.tmp 47)) ?v7_31_34 (by rfl) (by kernel_rfl) (by kernel_rfl) (by kernel_rfl) (fun _ _ _ h => h) (fun o ho w hS => ?y7_31_34) (by assumption) ?r7_31_34
        case y7_31_34 => (try dsimp only at hS); unfold execOp; simp only [ho]; go_simp; try with_reducible rfl
        try simp only [Act.put, List.setIfInBounds_toArray, List.set_cons_zero, List.set_cons_succ]
        refine held_skip 3 (some 49) (by rfl) (by kernel_rfl) (by kernel_rfl) (by kernel_rfl) (fun _ _ _ h => h) (by assumption) ?_
        try simp only [Act.put, List.setIfInBounds_toArray, List.set_cons_zero, List.set_cons_succ]
        refine held_skip 4 (some 50) (by rfl) (by kernel_rfl) (by kernel_rfl) (by kernel_rfl) (fun _ _ _ h => h) (by assumption) ?_
        try simp only [Act.put, List.setIfInBounds_toArray, List.set_cons_zero, List.set_cons_succ]
        refine held_skip 5 (some 51) (by rfl) (by kernel_rfl) (by kernel_rfl) (by kernel_rfl) (fun _ _ _ h => h) (by assumption) ?_
        try simp only [Act.put, List.setIfInBounds_toArray, List.set_cons_zero, List.set_cons_succ]
        refine held_skip 6 (some 52) (by rfl) (by kernel_rfl) (by kernel_rfl) (by kernel_rfl) (fun _ _ _ h => h) (by assumption) ?_
        try simp only [Act.put, List.setIfInBounds_toArray, List.set_cons_zero, List.set_cons_succ]
        refine held_skip 7 (some 53) (by rfl) (by kernel_rfl) (by kernel_rfl) (by kernel_rfl) (fun _ _ _ h => h) (by assumption) ?_
        try simp only [Act.put, List.setIfInBounds_toArray, List.set_cons_zero, List.set_cons_succ]
        refine held_skip 8 (some 54) (by rfl) (by kernel_rfl) (by kernel_rfl) (by kernel_rfl) (fun _ _ _ h => h) (by assumption) ?_
        try simp only [Act.put, List.setIfInBounds_toArray, List.set_cons_zero, List.set_cons_succ]
        refine held_skip 9 (some 55) (by rfl) (by kernel_rfl) (by kernel_rfl) (by kernel_rfl) (fun _ _ _ h => h) (by assumption) ?_
        try simp only [Act.put, List.setIfInBounds_toArray, List.set_cons_zero, List.set_cons_succ]
        refine held_skip 10 (some 56) (by rfl) (by kernel_rfl) (by kernel_rfl) (by kernel_rfl) (fun _ _ _ h => h) (by assumption) ?_
        try simp only [Act.put, List.setIfInBounds_toArray, List.set_cons_zero, List.set_cons_succ]
        refine held_skip 11 (some 57) (by rfl) (by kernel_rfl) (by kernel_rfl) (by kernel_rfl) (fun _ _ _ h => h) (by assumption) ?_
        try simp only [Act.put, List.setIfInBounds_toArray, List.set_cons_zero, List.set_cons_succ]
        refine held_skip 12 (some 58) (by rfl) (by kernel_rfl) (by kernel_rfl) (by kernel_rfl) (fun _ _ _ h => h) (by assumption) ?_
        try simp only [Act.put, List.setIfInBounds_toArray, List.set_cons_zero, List.set_cons_succ]
        refine held_run 13 (some 59) (.pick (.tmp 48) (.tmp 58) (.const (Value.bool false))) ?v7_31_45 (by rfl) (by kernel_rfl) (by kernel_rfl) (by kernel_rfl) (fun _ _ _ h => h) (fun o ho w hS => ?y7_31_45) (by assumption) ?r7_31_45
        case y7_31_45 => (try dsimp only at hS); unfold execOp; simp only [ho]; go_simp; try with_reducible rfl
        try simp only [Act.put, List.setIfInBounds_toArray, List.set_cons_zero, List.set_cons_succ]
        refine wpAnyH_done (by kernel_rfl) ?_ _
        go_wp2_with fail
        go_meet
        exact ⟨_, rfl, fun _ k' hk' => absurd hk' (by omega), (Below.refl _ _).drew⟩
      · obtain ⟨k', hk'⟩ : ∃ k', k = k' + 1 := ⟨k - 1, by omega⟩
        have hp := HPv.out k' hk'
        obtain ⟨p, hpe⟩ : ∃ p, (xs.getD k' rn0).id = p := ⟨_, rfl⟩
        rw [hpe] at hp
        have HPr : Hid (decide (id ≤ p) = false → ∀ k2, k = k2 + 1 → (xs.getD k2 rn0).id < id) := fun hb k2 hk2 => by
          obtain rfl : k2 = k' := by omega
          rw [hpe]
          have h3 := of_decide_eq_false hb
          omega
        clear hpe
        have cp : w1.cell? (ad.add (k' * 7)) = some (.int .i64 p) := (HWp.out.cell (by rw [block_of_add]; exact hab)).trans hp
        have hj : (k : Int) - 1 = (k' : Int) := by omega
        have hkn : k' < n := by omega
        have dk : decide (0 < k) = true := decide_eq_true hk0
        have hwr : IntKind.i64.wrap (k' : Int) = (k' : Int) := IntWalk.i64_in _ (by omega)
        clear hk' hp
        refine wp_region_held_drew (S := fun W => W.cell? ⟨wo.heap.size, 0, none⟩ = some (.int .i64 id) ∧ W.cell? ⟨w.heap.size, 2, none⟩ = some (.slice (some ad) n c) ∧ W.cell? (ad.add (k' * 7)) = some (.int .i64 p)) (by kernel_rfl) (⟨e0, m2, cp⟩) (fun hHeld => ?_)
        refine held_run 0 (some 46) (.move (.tmp 3)) ?v7_46_47 (by rfl) (by kernel_rfl) (by kernel_rfl) (by kernel_rfl) (fun _ _ _ h => h) (fun o ho w hS => ?y7_46_47) (by assumption) ?r7_46_47
        case y7_46_47 => (try dsimp only at hS); unfold execOp; simp only [ho]; go_simp; try with_reducible rfl
        try simp only [Act.put, List.setIfInBounds_toArray, List.set_cons_zero, List.set_cons_succ]
        refine held_run 1 (some 47) (.binOp .gtr 3 (.tmp 46) (.const (.int .i64 0)) 3) ?v7_46_48 (by rfl) (by kernel_rfl) (by kernel_rfl) (by kernel_rfl) (fun _ _ _ h => h) (fun o ho w hS => ?y7_46_48) (by assumption) ?r7_46_48
        case y7_46_48 => (try dsimp only at hS); unfold execOp; simp only [ho]; go_simp; try with_reducible rfl
        try simp only [Act.put, List.setIfInBounds_toArray, List.set_cons_zero, List.set_cons_succ]
        refine held_run 2 (some 48) (.move (.tmp 47)) ?v7_46_49 (by rfl) (by kernel_rfl) (by kernel_rfl) (by kernel_rfl) (fun _ _ _ h => h) (fun o ho w hS => ?y7_46_49) (by assumption) ?r7_46_49
        case y7_46_49 => (try dsimp only at hS); unfold execOp; simp only [ho]; go_simp; try with_reducible rfl
        try simp only [Act.put, List.setIfInBounds_toArray, List.set_cons_zero, List.set_cons_succ]
        refine held_run 3 (some 49) (.fieldAddr 55 (.tmp 4) 0) ?v7_46_50 (by rfl) (by kernel_rfl) (by kernel_rfl) (by kernel_rfl) (fun _ _ _ h => h) (fun o ho w hS => ?y7_46_50) (by assumption) ?r7_46_50
        case y7_46_50 => (try dsimp only at hS); unfold execOp; simp only [ho]; go_simp; try with_reducible rfl
        try simp only [Act.put, List.setIfInBounds_toArray, List.set_cons_zero, List.set_cons_succ]
        refine held_run 4 (some 50) (.load 3 (.tmp 49)) ?v7_46_51 (by rfl) (by kernel_rfl) (by kernel_rfl) (by kernel_rfl) (fun _ _ _ h => h) (fun o ho w hS => ?y7_46_51) (by assumption) ?r7_46_51
        case y7_46_51 => (try dsimp only at hS); unfold execOp; simp only [ho]; go_simp; try with_reducible rfl
        try simp only [Act.put, List.setIfInBounds_toArray, List.set_cons_zero, List.set_cons_succ]
        refine held_run 5 (some 51) (.fieldAddr 44 (.tmp 1) 2) ?v7_46_52 (by rfl) (by kernel_rfl) (by kernel_rfl) (by kernel_rfl) (fun _ _ _ h => h) (fun o ho w hS => ?y7_46_52) (by assumption) ?r7_46_52
        case y7_46_52 => (try dsimp only at hS); unfold execOp; simp only [ho]; go_simp; try with_reducible rfl
        try simp only [Act.put, List.setIfInBounds_toArray, List.set_cons_zero, List.set_cons_succ]
        refine held_run 6 (some 52) (.load 41 (.tmp 51)) ?v7_46_53 (by rfl) (by kernel_rfl) (by kernel_rfl) (by kernel_rfl) (fun _ _ _ h => h) (fun o ho w hS => ?y7_46_53) (by assumption) ?r7_46_53
        case y7_46_53 => (try dsimp only at hS); unfold execOp; simp only [ho]; go_simp; try with_reducible rfl
        try simp only [Act.put, List.setIfInBounds_toArray, List.set_cons_zero, List.set_cons_succ]
        refine held_run 7 (some 53) (.move (.tmp 3)) ?v7_46_54 (by rfl) (by kernel_rfl) (by kernel_rfl) (by kernel_rfl) (fun _ _ _ h => h) (fun o ho w hS => ?y7_46_54) (by assumption) ?r7_46_54
        case y7_46_54 => (try dsimp only at hS); unfold execOp; simp only [ho]; go_simp; try with_reducible rfl
        try simp only [Act.put, List.setIfInBounds_toArray, List.set_cons_zero, List.set_cons_succ]
        refine held_run 8 (some 54) (.binOp .sub 3 (.tmp 53) (.const (.int .i64 1)) 3) ?v7_46_55 (by rfl) (by kernel_rfl) (by kernel_rfl) (by kernel_rfl) (fun _ _ _ h => h) (fun o ho w hS => ?y7_46_55) (by assumption) ?r7_46_55
        case y7_46_55 => (try dsimp only at hS); unfold execOp; simp only [ho]; go_simp; try with_reducible rfl
        try simp only [Act.put, List.setIfInBounds_toArray, List.set_cons_zero, List.set_cons_succ]
        refine held_run 9 (some 55) (.indexAddr 41 (.tmp 52) (.tmp 54)) ?v7_46_56 (by rfl) (by kernel_rfl) (by kernel_rfl) (by kernel_rfl) (fun _ _ _ h => h) (fun o ho w hS => ?y7_46_56) (by assumption) ?r7_46_56
        case y7_46_56 => (try dsimp only at hS); unfold execOp; simp only [ho]; go_simp; try with_reducible rfl
        try simp only [Act.put, List.setIfInBounds_toArray, List.set_cons_zero, List.set_cons_succ]
        refine held_run 10 (some 56) (.fieldAddr 55 (.tmp 55) 0) ?v7_46_57 (by rfl) (by kernel_rfl) (by kernel_rfl) (by kernel_rfl) (fun _ _ _ h => h) (fun o ho w hS => ?y7_46_57) (by assumption) ?r7_46_57
        case y7_46_57 => (try dsimp only at hS); unfold execOp; simp only [ho]; go_simp; try with_reducible rfl
        try simp only [Act.put, List.setIfInBounds_toArray, List.set_cons_zero, List.set_cons_succ]
        refine held_run 11 (some 57) (.load 3 (.tmp 56)) ?v7_46_58 (by rfl) (by kernel_rfl) (by kernel_rfl) (by kernel_rfl) (fun _ _ _ h => h) (fun o ho w hS => ?y7_46_58) (by assumption) ?r7_46_58
        case y7_46_58 => (try dsimp only at hS); unfold execOp; simp only [ho]; go_simp; try with_reducible rfl
        try simp only [Act.put, List.setIfInBounds_toArray, List.set_cons_zero, List.set_cons_succ]
        refine held_run 12 (some 58) (.binOp .leq 3 (.tmp 50) (.tmp 57) 3) ?v7_46_59 (by rfl) (by kernel_rfl) (by kernel_rfl) (by kernel_rfl) (fun _ _ _ h => h) (fun o ho w hS => ?y7_46_59) (by assumption) ?r7_46_59
        case y7_46_59 => (try dsimp only at hS); unfold execOp; simp only [ho]; go_simp; try with_reducible rfl
        try simp only [Act.put, List.setIfInBounds_toArray, List.set_cons_zero, List.set_cons_succ]
        refine held_run 13 (some 59) (.pick (.tmp 48) (.tmp 58) (.const (Value.bool false))) ?v7_46_60 (by rfl) (by kernel_rfl) (by kernel_rfl) (by kernel_rfl) (fun _ _ _ h => h) (fun o ho w hS => ?y7_46_60) (by assumption) ?r7_46_60
        case y7_46_60 => (try dsimp only at hS); unfold execOp; simp only [ho]; go_simp; try with_reducible rfl
        try simp only [Act.put, List.setIfInBounds_toArray, List.set_cons_zero, List.set_cons_succ]
        refine wpAnyH_done (by kernel_rfl) ?_ _
        go_wp2_with fail
        go_meet
        exact ⟨_, rfl, fun hb k2 hk2 => HPr.out hb k2 hk2, (Below.refl _ _).drew⟩
    obtain ⟨bo, rfl, hbo, hcut⟩ := hcut
    have HBo2 := Lib.hid hbo
    clear hbo
    have HYc := Lib.hid (HY1.out.below hcut hly1)
    have hlyc : wo.heap.size < wc.heap.size := HYc.out.lt
    have HBc := Lib.hid (HB1.out.trans (hcut.mono hsz1))
    have HWc := Lib.hid (HW1.out.trans (hcut.mono HW1.out.size))
    have hszc : wb.heap.size ≤ wc.heap.size := Nat.le_trans hsz1 hcut.size
    have HX0c := Lib.hid (HX01.out.below hcut (Nat.lt_of_lt_of_le hxx0 hsz1))
    have HMc := Lib.hid (HM1.out.now hcut)
    have HRc := Lib.hid (HR1.out.now hcut)
    clear hcut e0 e1 e2 e3 e4 e5 e6 m0 m1 m2 m3 HPv HPrev
    have hwc : wc = wc := rfl
    cases bo with
    | true =>
      go_wp2_with fail
      go_ret
      exact errR_no (by decide) HWc.out
    | false =>
      have e0 : wc.cell? ⟨wo.heap.size, 0, none⟩ = some (.int .i64 id) := HYc.out.cell 0
      have e1 : wc.cell? ⟨wo.heap.size, 1, none⟩ = some (.int .i64 op) := HYc.out.cell 1
      have e2 : wc.cell? ⟨wo.heap.size, 2, none⟩ = some (.int .i64 fr) := HYc.out.cell 2
      have e3 : wc.cell? ⟨wo.heap.size, 3, none⟩ = some (.int .i64 tt) := HYc.out.cell 3
      have e4 : wc.cell? ⟨wo.heap.size, 4, none⟩ = some (.int .i64 gr) := HYc.out.cell 4
      have e5 : wc.cell? ⟨wo.heap.size, 5, none⟩ = some (.int .i64 zn) := HYc.out.cell 5
      have e6 : wc.cell? ⟨wo.heap.size, 6, none⟩ = some (.int .i64 ln) := HYc.out.cell 6
      go_wp2_with
        (first
         | (refine wpList_load_g 44 (.tmp 1) rfl rfl w.heap.size rfl _ _ HX0c.out _ Try.underlying44 rfl (by kernel_rfl) ?_))
      with_reducible refine (HC.out tt fr _ HMc.out).mono ?_
      rintro e w2 ⟨r, rfl, hr, hb2⟩
      have HY2 := Lib.hid (HYc.out.below hb2 hlyc)
      have HB2 := Lib.hid (HBc.out.trans (hb2.mono hszc))
      have HW2 := Lib.hid (HWc.out.trans (hb2.mono HWc.out.size))
      have hsz2 : wb.heap.size ≤ w2.heap.size := Nat.le_trans hszc hb2.size
      have HX02 := Lib.hid (HX0c.out.below hb2 (Nat.lt_of_lt_of_le hxx0 hszc))
      have HM2 := Lib.hid (HMc.out.now hb2)
      have HR2 := Lib.hid (HRc.out.now hb2)
      clear hb2
      by_cases hr0 : r = 0
      rotate_left
      · have d0 : (r == 0) = false := beq_eq_false_iff_ne.2 hr0
        go_wp2_with fail
        go_ret
        exact errR_no hr0 HW2.out
      have HGo := Lib.hid (hr hr0)
      subst hr0
      go_wp2_with fail
      go_roundw
      case rel => exact ⟨k + 1, by omega, by go_num, HNx.out ⟨⟨(show 1 ≤ id by omega), (show id ≤ 9999 by omega)⟩, HGo.out.2.1, HGo.out.1, HGo.out.2.2, ⟨(show 1 ≤ gr by omega), (show gr ≤ 4 by omega)⟩, (show 10 ≤ ln by omega), (show ln ≤ 20000 by omega)⟩ (HBo2.out trivial), HB2.out⟩
      case measure => simp [intOf]; omega

set_option maxRecDepth 100000 in
set_option maxHeartbeats 4000000 in
theorem nodes_any (vn : Value) (nd : List Nd) (w : World) (hx : StrV Nd.cells 2 w w.heap.size vn nd) :
    Calls Try.prog 41 #[vn] w (ErrR ((∀ x ∈ nd, GNd x) ∧ (∀ j, j + 1 < nd.length → (nd.getD j nd0).id < (nd.getD (j + 1) nd0).id)) w) := by
  obtain ⟨A, n, c, rfl, HL, h1, h2, hr⟩ := hx.nam
  have HR := Lib.hid hr
  have hn : n ≤ maxLen := Nat.le_trans h1 h2
  unfold maxLen at hn
  clear hx hr h1 h2
  go_enter Try.func41, Try.ntmps41
  go_wp2_with fail
  go_loopw [3] (fun i wr => ∃ k : Nat, k ≤ n ∧ i = .int .i64 k ∧ ((∀ j, j < k → GNd (nd.getD j nd0)) ∧ (∀ j, j + 1 < k → (nd.getD j nd0).id < (nd.getD (j + 1) nd0).id)) ∧ Below w.heap.size w wr) (fun i _ => n - (intOf i).toNat)
  case atStart => exact ⟨0, by omega, rfl, ⟨fun j hj => absurd hj (by omega), fun j hj => absurd hj (by omega)⟩, Below.refl _ _⟩
  case round =>
    obtain ⟨k, hk, rfl, hG, hbr⟩ := hrel
    have HG := Lib.hid hG
    clear hG
    obtain ⟨wo, rfl⟩ : ∃ wo : World, wo = wr := ⟨_, rfl⟩
    have HB := Lib.hid hbr
    have HRo := Lib.hid (HR.out.now hbr)
    clear hbr
    by_cases hlt : k < n
    rotate_left
    · obtain rfl : k = n := by omega
      go_wp2_with fail
      go_ret
      exact errR_ok ⟨good_all nd0 HL.out HG.out.1, fun j hj => HG.out.2 j (by rw [← HL.out]; exact hj)⟩ HB.out
    obtain ⟨ad, rfl, hab, hcs⟩ := strs_at HRo.out (fun _ => rfl) HL.out hlt nd0
    have HPrev : Hid (∀ k', k = k' + 1 → wo.cell? (ad.add (k' * 2)) = some (.int .i64 (nd.getD k' nd0).id)) := fun k' hk' => by
      obtain ⟨ad', had, _, hcs'⟩ := strs_at HRo.out (fun _ => rfl) HL.out (show k' < n by omega) nd0
      injection had with had
      subst had
      have h := hcs' 0 _ rfl
      rwa [show (ad.add (k' * 2)).add 0 = ad.add (k' * 2) by unfold Addr.add; simp] at h
    have HNx : Hid (GNd (nd.getD k nd0) → (∀ k', k = k' + 1 → (nd.getD k' nd0).id < (nd.getD k nd0).id) → (∀ j, j < k + 1 → GNd (nd.getD j nd0)) ∧ (∀ j, j + 1 < k + 1 → (nd.getD j nd0).id < (nd.getD (j + 1) nd0).id)) := fun h h2 => by
      refine ⟨fun j hj => ?_, fun j hj => ?_⟩
      · rcases Nat.lt_or_ge j k with h1 | h1
        · exact HG.out.1 j h1
        · obtain rfl : j = k := by omega
          exact h
      · rcases Nat.lt_or_ge (j + 1) k with h1 | h1
        · exact HG.out.2 j h1
        · obtain rfl : k = j + 1 := by omega
          exact h2 j rfl
    clear HG
    generalize nd.getD k nd0 = q at *
    obtain ⟨id, alt⟩ := q
    have f0 : wo.cell? (ad.add (k * 2)) = some (.int .i64 id) := by
      have h := hcs 0 _ rfl
      rwa [show (ad.add (k * 2)).add 0 = ad.add (k * 2) by unfold Addr.add; simp] at h
    have f1 : wo.cell? ⟨(ad.add (k * 2)).block, (ad.add (k * 2)).off + 1, none⟩ = some (.int .i64 alt) := hcs 1 _ rfl
    clear hcs
    go_wp2_with fail
    by_cases g0 : 1 ≤ id ∧ id ≤ 9999
    rotate_left
    · with_reducible refine (tin_any id 1 9999 false _ (by simp only [Bool.and_eq_false_iff, decide_eq_false_iff_not]; omega)).mono ?_
      rintro e w' ⟨rfl, rfl⟩
      go_wp2_with fail
      go_ret
      exact errR_no (by decide) HB.out
    with_reducible refine (tin_any id 1 9999 true _ (by simp only [Bool.and_eq_true, decide_eq_true_eq]; omega)).mono ?_
    rintro e w' ⟨rfl, rfl⟩
    go_wp2_with fail
    by_cases g1 : 0 ≤ alt ∧ alt ≤ 5000
    rotate_left
    · with_reducible refine (tin_any alt 0 5000 false _ (by simp only [Bool.and_eq_false_iff, decide_eq_false_iff_not]; omega)).mono ?_
      rintro e w' ⟨rfl, rfl⟩
      go_wp2_with fail
      go_ret
      exact errR_no (by decide) HB.out
    with_reducible refine (tin_any alt 0 5000 true _ (by simp only [Bool.and_eq_true, decide_eq_true_eq]; omega)).mono ?_
    rintro e w' ⟨rfl, rfl⟩
    go_wp2_with fail
    rcases Nat.eq_zero_or_pos k with hk0 | hk0
    · subst hk0
      refine wp_region_held_drew (S := fun _ => True) (by kernel_rfl) (trivial) (fun hHeld => ?_)
      refine held_run 0 (some 26) (.move (.tmp 3)) ?v6_61_62 (by rfl) (by kernel_rfl) (by kernel_rfl) (by kernel_rfl) (fun _ _ _ h => h) (fun o ho w hS => ?y6_61_62) (by assumption) ?r6_61_62
      case y6_61_62 => (try dsimp only at hS); unfold execOp; simp only [ho]; go_simp; try with_reducible rfl
      try simp only [Act.put, List.setIfInBounds_toArray, List.set_cons_zero, List.set_cons_succ]
      refine held_run 1 (some 27) (.binOp .gtr 3 (.tmp 26) (.const (.int .i64 0)) 3) ?v6_61_63 (by rfl) (by kernel_rfl) (by kernel_rfl) (by kernel_rfl) (fun _ _ _ h => h) (fun o ho w hS => ?y6_61_63) (by assumption) ?r6_61_63
      case y6_61_63 => (try dsimp only at hS); unfold execOp; simp only [ho]; go_simp; try with_reducible rfl
      try simp only [Act.put, List.setIfInBounds_toArray, List.set_cons_zero, List.set_cons_succ]
      refine held_run 2 (some 28) (.move (.tmp 27)) ?v6_61_64 (by rfl) (by kernel_rfl) (by kernel_rfl) (by kernel_rfl) (fun _ _ _ h => h) (fun o ho w hS => ?y6_61_64) (by assumption) ?r6_61_64
      case y6_61_64 => (try dsimp only at hS); unfold execOp; simp only [ho]; go_simp; try with_reducible rfl
      try simp only [Act.put, List.setIfInBounds_toArray, List.set_cons_zero, List.set_cons_succ]
      refine held_skip 3 (some 29) (by rfl) (by kernel_rfl) (by kernel_rfl) (by kernel_rfl) (fun _ _ _ h => h) (by assumption) ?_
      try simp only [Act.put, List.setIfInBounds_toArray, List.set_cons_zero, List.set_cons_succ]
      refine held_skip 4 (some 30) (by rfl) (by kernel_rfl) (by kernel_rfl) (by kernel_rfl) (fun _ _ _ h => h) (by assumption) ?_
      try simp only [Act.put, List.setIfInBounds_toArray, List.set_cons_zero, List.set_cons_succ]
      refine held_skip 5 (some 31) (by rfl) (by kernel_rfl) (by kernel_rfl) (by kernel_rfl) (fun _ _ _ h => h) (by assumption) ?_
      try simp only [Act.put, List.setIfInBounds_toArray, List.set_cons_zero, List.set_cons_succ]
      refine held_skip 6 (some 32) (by rfl) (by kernel_rfl) (by kernel_rfl) (by kernel_rfl) (fun _ _ _ h => h) (by assumption) ?_
      try simp only [Act.put, List.setIfInBounds_toArray, List.set_cons_zero, List.set_cons_succ]
      refine held_skip 7 (some 33) (by rfl) (by kernel_rfl) (by kernel_rfl) (by kernel_rfl) (fun _ _ _ h => h) (by assumption) ?_
      try simp only [Act.put, List.setIfInBounds_toArray, List.set_cons_zero, List.set_cons_succ]
      refine held_skip 8 (some 34) (by rfl) (by kernel_rfl) (by kernel_rfl) (by kernel_rfl) (fun _ _ _ h => h) (by assumption) ?_
      try simp only [Act.put, List.setIfInBounds_toArray, List.set_cons_zero, List.set_cons_succ]
      refine held_skip 9 (some 35) (by rfl) (by kernel_rfl) (by kernel_rfl) (by kernel_rfl) (fun _ _ _ h => h) (by assumption) ?_
      try simp only [Act.put, List.setIfInBounds_toArray, List.set_cons_zero, List.set_cons_succ]
      refine held_skip 10 (some 36) (by rfl) (by kernel_rfl) (by kernel_rfl) (by kernel_rfl) (fun _ _ _ h => h) (by assumption) ?_
      try simp only [Act.put, List.setIfInBounds_toArray, List.set_cons_zero, List.set_cons_succ]
      refine held_skip 11 (some 37) (by rfl) (by kernel_rfl) (by kernel_rfl) (by kernel_rfl) (fun _ _ _ h => h) (by assumption) ?_
      try simp only [Act.put, List.setIfInBounds_toArray, List.set_cons_zero, List.set_cons_succ]
      refine held_skip 12 (some 38) (by rfl) (by kernel_rfl) (by kernel_rfl) (by kernel_rfl) (fun _ _ _ h => h) (by assumption) ?_
      try simp only [Act.put, List.setIfInBounds_toArray, List.set_cons_zero, List.set_cons_succ]
      refine held_skip 13 (some 39) (by rfl) (by kernel_rfl) (by kernel_rfl) (by kernel_rfl) (fun _ _ _ h => h) (by assumption) ?_
      try simp only [Act.put, List.setIfInBounds_toArray, List.set_cons_zero, List.set_cons_succ]
      refine held_skip 14 (some 40) (by rfl) (by kernel_rfl) (by kernel_rfl) (by kernel_rfl) (fun _ _ _ h => h) (by assumption) ?_
      try simp only [Act.put, List.setIfInBounds_toArray, List.set_cons_zero, List.set_cons_succ]
      refine held_run 15 (some 41) (.pick (.tmp 28) (.tmp 40) (.const (Value.bool false))) ?v6_61_77 (by rfl) (by kernel_rfl) (by kernel_rfl) (by kernel_rfl) (fun _ _ _ h => h) (fun o ho w hS => ?y6_61_77) (by assumption) ?r6_61_77
      case y6_61_77 => (try dsimp only at hS); unfold execOp; simp only [ho]; go_simp; try with_reducible rfl
      try simp only [Act.put, List.setIfInBounds_toArray, List.set_cons_zero, List.set_cons_succ]
      refine wpAnyH_done (by kernel_rfl) ?_ _
      go_wp2_with fail
      go_roundw
      case rel => exact ⟨1, by omega, by go_num, HNx.out ⟨⟨(show 1 ≤ id by omega), (show id ≤ 9999 by omega)⟩, (show 0 ≤ alt by omega), (show alt ≤ 5000 by omega)⟩ (fun k' hk' => absurd hk' (by omega)), HB.out.drew⟩
      case measure => simp [intOf]; omega
    · obtain ⟨k', hk'⟩ : ∃ k', k = k' + 1 := ⟨k - 1, by omega⟩
      have hp := HPrev.out k' hk'
      obtain ⟨p, hpe⟩ : ∃ p, (nd.getD k' nd0).id = p := ⟨_, rfl⟩
      rw [hpe] at hp
      have HPr : Hid (¬ id ≤ p → ∀ k2, k = k2 + 1 → (nd.getD k2 nd0).id < id) := fun hb k2 hk2 => by
        obtain rfl : k2 = k' := by omega
        rw [hpe]
        omega
      clear hpe HPrev
      have hj : (k : Int) - 1 = (k' : Int) := by omega
      have hkn : k' < n := by omega
      have dk : decide (0 < k) = true := decide_eq_true hk0
      have hwr : IntKind.i64.wrap (k' : Int) = (k' : Int) := IntWalk.i64_in _ (by omega)
      clear hk'
      by_cases h3 : id ≤ p
      · skip
        refine wp_region_held_drew (S := fun W => W.cell? (ad.add (k * 2)) = some (.int .i64 id) ∧ W.cell? (ad.add (k' * 2)) = some (.int .i64 p)) (by kernel_rfl) (⟨f0, hp⟩) (fun hHeld => ?_)
        refine held_run 0 (some 26) (.move (.tmp 3)) ?v6_78_79 (by rfl) (by kernel_rfl) (by kernel_rfl) (by kernel_rfl) (fun _ _ _ h => h) (fun o ho w hS => ?y6_78_79) (by assumption) ?r6_78_79
        case y6_78_79 => (try dsimp only at hS); unfold execOp; simp only [ho]; go_simp; try with_reducible rfl
        try simp only [Act.put, List.setIfInBounds_toArray, List.set_cons_zero, List.set_cons_succ]
        refine held_run 1 (some 27) (.binOp .gtr 3 (.tmp 26) (.const (.int .i64 0)) 3) ?v6_78_80 (by rfl) (by kernel_rfl) (by kernel_rfl) (by kernel_rfl) (fun _ _ _ h => h) (fun o ho w hS => ?y6_78_80) (by assumption) ?r6_78_80
        case y6_78_80 => (try dsimp only at hS); unfold execOp; simp only [ho]; go_simp; try with_reducible rfl
        try simp only [Act.put, List.setIfInBounds_toArray, List.set_cons_zero, List.set_cons_succ]
        refine held_run 2 (some 28) (.move (.tmp 27)) ?v6_78_81 (by rfl) (by kernel_rfl) (by kernel_rfl) (by kernel_rfl) (fun _ _ _ h => h) (fun o ho w hS => ?y6_78_81) (by assumption) ?r6_78_81
        case y6_78_81 => (try dsimp only at hS); unfold execOp; simp only [ho]; go_simp; try with_reducible rfl
        try simp only [Act.put, List.setIfInBounds_toArray, List.set_cons_zero, List.set_cons_succ]
        refine held_run 3 (some 29) (.move (.tmp 0)) ?v6_78_82 (by rfl) (by kernel_rfl) (by kernel_rfl) (by kernel_rfl) (fun _ _ _ h => h) (fun o ho w hS => ?y6_78_82) (by assumption) ?r6_78_82
        case y6_78_82 => (try dsimp only at hS); unfold execOp; simp only [ho]; go_simp; try with_reducible rfl
        try simp only [Act.put, List.setIfInBounds_toArray, List.set_cons_zero, List.set_cons_succ]
        refine held_run 4 (some 30) (.move (.tmp 3)) ?v6_78_83 (by rfl) (by kernel_rfl) (by kernel_rfl) (by kernel_rfl) (fun _ _ _ h => h) (fun o ho w hS => ?y6_78_83) (by assumption) ?r6_78_83
        case y6_78_83 => (try dsimp only at hS); unfold execOp; simp only [ho]; go_simp; try with_reducible rfl
        try simp only [Act.put, List.setIfInBounds_toArray, List.set_cons_zero, List.set_cons_succ]
        refine held_run 5 (some 31) (.indexAddr 39 (.tmp 29) (.tmp 30)) ?v6_78_84 (by rfl) (by kernel_rfl) (by kernel_rfl) (by kernel_rfl) (fun _ _ _ h => h) (fun o ho w hS => ?y6_78_84) (by assumption) ?r6_78_84
        case y6_78_84 => (try dsimp only at hS); unfold execOp; simp only [ho]; go_simp; try with_reducible rfl
        try simp only [Act.put, List.setIfInBounds_toArray, List.set_cons_zero, List.set_cons_succ]
        refine held_run 6 (some 32) (.fieldAddr 63 (.tmp 31) 0) ?v6_78_85 (by rfl) (by kernel_rfl) (by kernel_rfl) (by kernel_rfl) (fun _ _ _ h => h) (fun o ho w hS => ?y6_78_85) (by assumption) ?r6_78_85
        case y6_78_85 => (try dsimp only at hS); unfold execOp; simp only [ho]; go_simp; try with_reducible rfl
        try simp only [Act.put, List.setIfInBounds_toArray, List.set_cons_zero, List.set_cons_succ]
        refine held_run 7 (some 33) (.load 3 (.tmp 32)) ?v6_78_86 (by rfl) (by kernel_rfl) (by kernel_rfl) (by kernel_rfl) (fun _ _ _ h => h) (fun o ho w hS => ?y6_78_86) (by assumption) ?r6_78_86
        case y6_78_86 => (try dsimp only at hS); unfold execOp; simp only [ho]; go_simp; try with_reducible rfl
        try simp only [Act.put, List.setIfInBounds_toArray, List.set_cons_zero, List.set_cons_succ]
        refine held_run 8 (some 34) (.move (.tmp 0)) ?v6_78_87 (by rfl) (by kernel_rfl) (by kernel_rfl) (by kernel_rfl) (fun _ _ _ h => h) (fun o ho w hS => ?y6_78_87) (by assumption) ?r6_78_87
        case y6_78_87 => (try dsimp only at hS); unfold execOp; simp only [ho]; go_simp; try with_reducible rfl
        try simp only [Act.put, List.setIfInBounds_toArray, List.set_cons_zero, List.set_cons_succ]
        refine held_run 9 (some 35) (.move (.tmp 3)) ?v6_78_88 (by rfl) (by kernel_rfl) (by kernel_rfl) (by kernel_rfl) (fun _ _ _ h => h) (fun o ho w hS => ?y6_78_88) (by assumption) ?r6_78_88
        case y6_78_88 => (try dsimp only at hS); unfold execOp; simp only [ho]; go_simp; try with_reducible rfl
        try simp only [Act.put, List.setIfInBounds_toArray, List.set_cons_zero, List.set_cons_succ]
        refine held_run 10 (some 36) (.binOp .sub 3 (.tmp 35) (.const (.int .i64 1)) 3) ?v6_78_89 (by rfl) (by kernel_rfl) (by kernel_rfl) (by kernel_rfl) (fun _ _ _ h => h) (fun o ho w hS => ?y6_78_89) (by assumption) ?r6_78_89
        case y6_78_89 => (try dsimp only at hS); unfold execOp; simp only [ho]; go_simp; try with_reducible rfl
        try simp only [Act.put, List.setIfInBounds_toArray, List.set_cons_zero, List.set_cons_succ]
        refine held_run 11 (some 37) (.indexAddr 39 (.tmp 34) (.tmp 36)) ?v6_78_90 (by rfl) (by kernel_rfl) (by kernel_rfl) (by kernel_rfl) (fun _ _ _ h => h) (fun o ho w hS => ?y6_78_90) (by assumption) ?r6_78_90
        case y6_78_90 => (try dsimp only at hS); unfold execOp; simp only [ho]; go_simp; try with_reducible rfl
        try simp only [Act.put, List.setIfInBounds_toArray, List.set_cons_zero, List.set_cons_succ]
        refine held_run 12 (some 38) (.fieldAddr 63 (.tmp 37) 0) ?v6_78_91 (by rfl) (by kernel_rfl) (by kernel_rfl) (by kernel_rfl) (fun _ _ _ h => h) (fun o ho w hS => ?y6_78_91) (by assumption) ?r6_78_91
        case y6_78_91 => (try dsimp only at hS); unfold execOp; simp only [ho]; go_simp; try with_reducible rfl
        try simp only [Act.put, List.setIfInBounds_toArray, List.set_cons_zero, List.set_cons_succ]
        refine held_run 13 (some 39) (.load 3 (.tmp 38)) ?v6_78_92 (by rfl) (by kernel_rfl) (by kernel_rfl) (by kernel_rfl) (fun _ _ _ h => h) (fun o ho w hS => ?y6_78_92) (by assumption) ?r6_78_92
        case y6_78_92 => (try dsimp only at hS); unfold execOp; simp only [ho]; go_simp; try with_reducible rfl
        try simp only [Act.put, List.setIfInBounds_toArray, List.set_cons_zero, List.set_cons_succ]
        refine held_run 14 (some 40) (.binOp .leq 3 (.tmp 33) (.tmp 39) 3) ?v6_78_93 (by rfl) (by kernel_rfl) (by kernel_rfl) (by kernel_rfl) (fun _ _ _ h => h) (fun o ho w hS => ?y6_78_93) (by assumption) ?r6_78_93
        case y6_78_93 => (try dsimp only at hS); unfold execOp; simp only [ho]; go_simp; try with_reducible rfl
        try simp only [Act.put, List.setIfInBounds_toArray, List.set_cons_zero, List.set_cons_succ]
        refine held_run 15 (some 41) (.pick (.tmp 28) (.tmp 40) (.const (Value.bool false))) ?v6_78_94 (by rfl) (by kernel_rfl) (by kernel_rfl) (by kernel_rfl) (fun _ _ _ h => h) (fun o ho w hS => ?y6_78_94) (by assumption) ?r6_78_94
        case y6_78_94 => (try dsimp only at hS); unfold execOp; simp only [ho]; go_simp; try with_reducible rfl
        try simp only [Act.put, List.setIfInBounds_toArray, List.set_cons_zero, List.set_cons_succ]
        refine wpAnyH_done (by kernel_rfl) ?_ _
        clear hwr
        go_wp2_with fail
        go_ret
        exact errR_no (by decide) HB.out.drew
      · have d3 : decide (id ≤ p) = false := decide_eq_false h3
        refine wp_region_held_drew (S := fun W => W.cell? (ad.add (k * 2)) = some (.int .i64 id) ∧ W.cell? (ad.add (k' * 2)) = some (.int .i64 p)) (by kernel_rfl) (⟨f0, hp⟩) (fun hHeld => ?_)
        refine held_run 0 (some 26) (.move (.tmp 3)) ?v6_95_96 (by rfl) (by kernel_rfl) (by kernel_rfl) (by kernel_rfl) (fun _ _ _ h => h) (fun o ho w hS => ?y6_95_96) (by assumption) ?r6_95_96
        case y6_95_96 => (try dsimp only at hS); unfold execOp; simp only [ho]; go_simp; try with_reducible rfl
        try simp only [Act.put, List.setIfInBounds_toArray, List.set_cons_zero, List.set_cons_succ]
        refine held_run 1 (some 27) (.binOp .gtr 3 (.tmp 26) (.const (.int .i64 0)) 3) ?v6_95_97 (by rfl) (by kernel_rfl) (by kernel_rfl) (by kernel_rfl) (fun _ _ _ h => h) (fun o ho w hS => ?y6_95_97) (by assumption) ?r6_95_97
        case y6_95_97 => (try dsimp only at hS); unfold execOp; simp only [ho]; go_simp; try with_reducible rfl
        try simp only [Act.put, List.setIfInBounds_toArray, List.set_cons_zero, List.set_cons_succ]
        refine held_run 2 (some 28) (.move (.tmp 27)) ?v6_95_98 (by rfl) (by kernel_rfl) (by kernel_rfl) (by kernel_rfl) (fun _ _ _ h => h) (fun o ho w hS => ?y6_95_98) (by assumption) ?r6_95_98
        case y6_95_98 => (try dsimp only at hS); unfold execOp; simp only [ho]; go_simp; try with_reducible rfl
        try simp only [Act.put, List.setIfInBounds_toArray, List.set_cons_zero, List.set_cons_succ]
        refine held_run 3 (some 29) (.move (.tmp 0)) ?v6_95_99 (by rfl) (by kernel_rfl) (by kernel_rfl) (by kernel_rfl) (fun _ _ _ h => h) (fun o ho w hS => ?y6_95_99) (by assumption) ?r6_95_99
        case y6_95_99 => (try dsimp only at hS); unfold execOp; simp only [ho]; go_simp; try with_reducible rfl
        try simp only [Act.put, List.setIfInBounds_toArray, List.set_cons_zero, List.set_cons_succ]
        refine held_run 4 (some 30) (.move (.tmp 3)) ?v6_95_100 (by rfl) (by kernel_rfl) (by kernel_rfl) (by kernel_rfl) (fun _ _ _ h => h) (fun o ho w hS => ?y6_95_100) (by assumption) ?r6_95_100
        case y6_95_100 => (try dsimp only at hS); unfold execOp; simp only [ho]; go_simp; try with_reducible rfl
        try simp only [Act.put, List.setIfInBounds_toArray, List.set_cons_zero, List.set_cons_succ]
        refine held_run 5 (some 31) (.indexAddr 39 (.tmp 29) (.tmp 30)) ?v6_95_101 (by rfl) (by kernel_rfl) (by kernel_rfl) (by kernel_rfl) (fun _ _ _ h => h) (fun o ho w hS => ?y6_95_101) (by assumption) ?r6_95_101
        case y6_95_101 => (try dsimp only at hS); unfold execOp; simp only [ho]; go_simp; try with_reducible rfl
        try simp only [Act.put, List.setIfInBounds_toArray, List.set_cons_zero, List.set_cons_succ]
        refine held_run 6 (some 32) (.fieldAddr 63 (.tmp 31) 0) ?v6_95_102 (by rfl) (by kernel_rfl) (by kernel_rfl) (by kernel_rfl) (fun _ _ _ h => h) (fun o ho w hS => ?y6_95_102) (by assumption) ?r6_95_102
        case y6_95_102 => (try dsimp only at hS); unfold execOp; simp only [ho]; go_simp; try with_reducible rfl
        try simp only [Act.put, List.setIfInBounds_toArray, List.set_cons_zero, List.set_cons_succ]
        refine held_run 7 (some 33) (.load 3 (.tmp 32)) ?v6_95_103 (by rfl) (by kernel_rfl) (by kernel_rfl) (by kernel_rfl) (fun _ _ _ h => h) (fun o ho w hS => ?y6_95_103) (by assumption) ?r6_95_103
        case y6_95_103 => (try dsimp only at hS); unfold execOp; simp only [ho]; go_simp; try with_reducible rfl
        try simp only [Act.put, List.setIfInBounds_toArray, List.set_cons_zero, List.set_cons_succ]
        refine held_run 8 (some 34) (.move (.tmp 0)) ?v6_95_104 (by rfl) (by kernel_rfl) (by kernel_rfl) (by kernel_rfl) (fun _ _ _ h => h) (fun o ho w hS => ?y6_95_104) (by assumption) ?r6_95_104
        case y6_95_104 => (try dsimp only at hS); unfold execOp; simp only [ho]; go_simp; try with_reducible rfl
        try simp only [Act.put, List.setIfInBounds_toArray, List.set_cons_zero, List.set_cons_succ]
        refine held_run 9 (some 35) (.move (.tmp 3)) ?v6_95_105 (by rfl) (by kernel_rfl) (by kernel_rfl) (by kernel_rfl) (fun _ _ _ h => h) (fun o ho w hS => ?y6_95_105) (by assumption) ?r6_95_105
        case y6_95_105 => (try dsimp only at hS); unfold execOp; simp only [ho]; go_simp; try with_reducible rfl
        try simp only [Act.put, List.setIfInBounds_toArray, List.set_cons_zero, List.set_cons_succ]
        refine held_run 10 (some 36) (.binOp .sub 3 (.tmp 35) (.const (.int .i64 1)) 3) ?v6_95_106 (by rfl) (by kernel_rfl) (by kernel_rfl) (by kernel_rfl) (fun _ _ _ h => h) (fun o ho w hS => ?y6_95_106) (by assumption) ?r6_95_106
        case y6_95_106 => (try dsimp only at hS); unfold execOp; simp only [ho]; go_simp; try with_reducible rfl
        try simp only [Act.put, List.setIfInBounds_toArray, List.set_cons_zero, List.set_cons_succ]
        refine held_run 11 (some 37) (.indexAddr 39 (.tmp 34) (.tmp 36)) ?v6_95_107 (by rfl) (by kernel_rfl) (by kernel_rfl) (by kernel_rfl) (fun _ _ _ h => h) (fun o ho w hS => ?y6_95_107) (by assumption) ?r6_95_107
        case y6_95_107 => (try dsimp only at hS); unfold execOp; simp only [ho]; go_simp; try with_reducible rfl
        try simp only [Act.put, List.setIfInBounds_toArray, List.set_cons_zero, List.set_cons_succ]
        refine held_run 12 (some 38) (.fieldAddr 63 (.tmp 37) 0) ?v6_95_108 (by rfl) (by kernel_rfl) (by kernel_rfl) (by kernel_rfl) (fun _ _ _ h => h) (fun o ho w hS => ?y6_95_108) (by assumption) ?r6_95_108
        case y6_95_108 => (try dsimp only at hS); unfold execOp; simp only [ho]; go_simp; try with_reducible rfl
        try simp only [Act.put, List.setIfInBounds_toArray, List.set_cons_zero, List.set_cons_succ]
        refine held_run 13 (some 39) (.load 3 (.tmp 38)) ?v6_95_109 (by rfl) (by kernel_rfl) (by kernel_rfl) (by kernel_rfl) (fun _ _ _ h => h) (fun o ho w hS => ?y6_95_109) (by assumption) ?r6_95_109
        case y6_95_109 => (try dsimp only at hS); unfold execOp; simp only [ho]; go_simp; try with_reducible rfl
        try simp only [Act.put, List.setIfInBounds_toArray, List.set_cons_zero, List.set_cons_succ]
        refine held_run 14 (some 40) (.binOp .leq 3 (.tmp 33) (.tmp 39) 3) ?v6_95_110 (by rfl) (by kernel_rfl) (by kernel_rfl) (by kernel_rfl) (fun _ _ _ h => h) (fun o ho w hS => ?y6_95_110) (by assumption) ?r6_95_110
        case y6_95_110 => (try dsimp only at hS); unfold execOp; simp only [ho]; go_simp; try with_reducible rfl
        try simp only [Act.put, List.setIfInBounds_toArray, List.set_cons_zero, List.set_cons_succ]
        refine held_run 15 (some 41) (.pick (.tmp 28) (.tmp 40) (.const (Value.bool false))) ?v6_95_111 (by rfl) (by kernel_rfl) (by kernel_rfl) (by kernel_rfl) (fun _ _ _ h => h) (fun o ho w hS => ?y6_95_111) (by assumption) ?r6_95_111
        case y6_95_111 => (try dsimp only at hS); unfold execOp; simp only [ho]; go_simp; try with_reducible rfl
        try simp only [Act.put, List.setIfInBounds_toArray, List.set_cons_zero, List.set_cons_succ]
        refine wpAnyH_done (by kernel_rfl) ?_ _
        clear hwr
        go_wp2_with fail
        go_roundw
        case rel => exact ⟨k + 1, by omega, by go_num, HNx.out ⟨⟨(show 1 ≤ id by omega), (show id ≤ 9999 by omega)⟩, (show 0 ≤ alt by omega), (show alt ≤ 5000 by omega)⟩ (HPr.out h3), HB.out.drew⟩
        case measure => simp [intOf]; omega

set_option maxRecDepth 100000 in
set_option maxHeartbeats 4000000 in
theorem bases_any (vn vl vr vb : Value) (nd : List Nd) (bs : List Int) (w : World) (hm : StrV Nd.cells 2 w w.heap.size vn nd) (hb : RowV w w.heap.size vb bs) :
    Calls Try.prog 44 #[.agg #[vn, vl, vr, vb]] w (ErrR (bs ≠ [] ∧ ∀ x ∈ bs, hasN nd x = true) w) := by
  obtain ⟨A, n, c, rfl, HL, h1, h2, hr⟩ := hb.nam
  have HR := Lib.hid hr
  have HM := Lib.hid hm
  have hn : n ≤ maxLen := Nat.le_trans h1 h2
  unfold maxLen at hn
  have HC : Hid (∀ (x : Int) (b : Bool) (W : World), hasN nd x = b → StrV Nd.cells 2 W W.heap.size vn nd → Calls Try.prog 37 #[.agg #[vn, vl, vr, .slice A n c], .int .i64 x] W fun e w' => ∃ (j al : Int), e = .returned (.tuple #[.agg #[.int .i64 j, .int .i64 al], .bool b]) ∧ Below W.heap.size W w') := fun x b W hx h => by
    refine (rnode_any vn vl vr _ nd x W h).mono ?_
    rintro e w' ⟨rfl, h⟩
    exact ⟨_, _, by rw [hx], h⟩
  clear hm hb hr h1 h2
  rcases Nat.eq_zero_or_pos n with hz | hz
  · subst hz
    go_enter Try.func44, Try.ntmps44
    go_wp2_with fail
    have HBwb := (Blk.new w 44 #[vn, vl, vr, .slice A 0 c])
    have HLwb := (below_new w (.cells #[vn, vl, vr, .slice A 0 c] 44))
    have hswb : (w.alloc (.cells #[vn, vl, vr, .slice A 0 c] 44)).heap.size = w.heap.size + 1 := by simp
    generalize w.alloc (.cells #[vn, vl, vr, .slice A 0 c] 44) = wb at HBwb HLwb hswb ⊢
    replace HBwb := Lib.hid HBwb
    replace HLwb := Lib.hid HLwb
    have hlwb : w.heap.size < wb.heap.size := by omega
    replace hswb := Lib.hid hswb
    have HWb := Lib.hid (HLwb.out)
    have hl0 : w.heap.size ≤ wb.heap.size := HWb.out.size
    have HBb : Hid (Below wb.heap.size wb wb) := hide (Below.refl _ _)
    have hszb : wb.heap.size ≤ wb.heap.size := Nat.le_refl _
    have HX0b : Hid (Blk wb w.heap.size 44 #[vn, vl, vr, .slice A 0 c]) := hide HBwb.out
    have hxx0 : w.heap.size < wb.heap.size := HX0b.out.lt
    clear HBwb HLwb hswb hlwb
    go_ret
    exact errR_no (by decide) HWb.out
  have hz0 : ((n : Int) == 0) = false := beq_eq_false_iff_ne.2 (by omega)
  have hz1 : (n : Int) ≠ 0 := by omega
  go_enter Try.func44, Try.ntmps44
  go_wp2_with fail
  have HBwb := (Blk.new w 44 #[vn, vl, vr, .slice A n c])
  have HLwb := (below_new w (.cells #[vn, vl, vr, .slice A n c] 44))
  have hswb : (w.alloc (.cells #[vn, vl, vr, .slice A n c] 44)).heap.size = w.heap.size + 1 := by simp
  generalize w.alloc (.cells #[vn, vl, vr, .slice A n c] 44) = wb at HBwb HLwb hswb ⊢
  replace HBwb := Lib.hid HBwb
  replace HLwb := Lib.hid HLwb
  have hlwb : w.heap.size < wb.heap.size := by omega
  replace hswb := Lib.hid hswb
  have HWb := Lib.hid (HLwb.out)
  have hl0 : w.heap.size ≤ wb.heap.size := HWb.out.size
  have HBb : Hid (Below wb.heap.size wb wb) := hide (Below.refl _ _)
  have hszb : wb.heap.size ≤ wb.heap.size := Nat.le_refl _
  have HX0b : Hid (Blk wb w.heap.size 44 #[vn, vl, vr, .slice A n c]) := hide HBwb.out
  have hxx0 : w.heap.size < wb.heap.size := HX0b.out.lt
  clear HBwb HLwb hswb hlwb
  have HMb := Lib.hid (HM.out.now HWb.out)
  have HRb := Lib.hid (HR.out.now HWb.out)
  go_loopw [3] (fun i wr => ∃ k : Nat, k ≤ n ∧ i = .int .i64 k ∧ (∀ j, j < k → hasN nd (bs.getD j 0) = true) ∧ Below wb.heap.size wb wr) (fun i _ => n - (intOf i).toNat)
  case atStart => exact ⟨0, by omega, rfl, fun j hj => absurd hj (by omega), Below.refl _ _⟩
  case round =>
    obtain ⟨k, hk, rfl, hG, hbr⟩ := hrel
    have HG := Lib.hid hG
    clear hG
    obtain ⟨wo, rfl⟩ : ∃ wo : World, wo = wr := ⟨_, rfl⟩
    have HBo := Lib.hid (HBb.out.trans (hbr.mono hszb))
    have HWo := Lib.hid (HWb.out.trans (hbr.mono HWb.out.size))
    have hszo : wb.heap.size ≤ wo.heap.size := Nat.le_trans hszb hbr.size
    have HX0o := Lib.hid (HX0b.out.below hbr (Nat.lt_of_lt_of_le hxx0 hszb))
    have HMo := Lib.hid (HMb.out.now hbr)
    have HRo := Lib.hid (HRb.out.now hbr)
    clear hbr
    have m0 : wo.cell? ⟨w.heap.size, 0, none⟩ = some (vn) := HX0o.out.cell 0
    have m1 : wo.cell? ⟨w.heap.size, 1, none⟩ = some (vl) := HX0o.out.cell 1
    have m2 : wo.cell? ⟨w.heap.size, 2, none⟩ = some (vr) := HX0o.out.cell 2
    have m3 : wo.cell? ⟨w.heap.size, 3, none⟩ = some (.slice A n c) := HX0o.out.cell 3
    by_cases hlt : k < n
    · obtain ⟨ad, rfl, hab, hc⟩ := HRo.out.int hlt
      have HNx : Hid (hasN nd (bs.getD k 0) = true → ∀ j, j < k + 1 → hasN nd (bs.getD j 0) = true) := fun h j hj => by
        rcases Nat.lt_or_ge j k with h1 | h1
        · exact HG.out j h1
        · obtain rfl : j = k := by omega
          exact h
      generalize bs.getD k 0 = x at *
      obtain ⟨bx, hbx⟩ : ∃ b, hasN nd x = b := ⟨_, rfl⟩
      have HBx := Lib.hid hbx
      rw [hbx] at HNx
      clear hbx
      clear m0 m1 m2 m3
      have m0 : wo.cell? ⟨w.heap.size, 0, none⟩ = some (vn) := HX0o.out.cell 0
      have m1 : wo.cell? ⟨w.heap.size, 1, none⟩ = some (vl) := HX0o.out.cell 1
      have m2 : wo.cell? ⟨w.heap.size, 2, none⟩ = some (vr) := HX0o.out.cell 2
      have m3 : wo.cell? ⟨w.heap.size, 3, none⟩ = some (.slice (some ad) n c) := HX0o.out.cell 3
      go_wp2_with fail
      have HS : Hid (∀ W, Below wo.heap.size wo W → (fun W => Below wo.heap.size wo W ∧ W.cell? (ad.add k) = some (.int .i64 x) ∧ Blk W w.heap.size 44 #[vn, vl, vr, .slice (some ad) n c] ∧ W.cell? ⟨w.heap.size, 3, none⟩ = some (.slice (some ad) n c)) W) := fun W hB => ⟨hB, (hB.cell (by rw [block_of_add]; exact hab)).trans hc, HX0o.out.below hB (Nat.lt_of_lt_of_le hxx0 hszo), (HX0o.out.below hB (Nat.lt_of_lt_of_le hxx0 hszo)).cell 3⟩
      have HMod : Hid (StrV Nd.cells 2 wo.drew wo.drew.heap.size vn nd) := hide HMo.out
      go_cut [5] (fun s wx => s = .bool bx ∧ Below wo.heap.size wo wx)
      case first =>
        have h0 := HS.out _ ((Below.refl wo.heap.size wo).drew)
        clear m0 m1 m2 m3
        refine wp_region_held_drew (S := fun W => Below wo.heap.size wo W ∧ W.cell? (ad.add k) = some (.int .i64 x) ∧ Blk W w.heap.size 44 #[vn, vl, vr, .slice (some ad) n c] ∧ W.cell? ⟨w.heap.size, 3, none⟩ = some (.slice (some ad) n c)) (by kernel_rfl) (h0) (fun hHeld => ?_)
        refine held_load 0 (some 19) 44 (.tmp 1) (by rfl) (by kernel_rfl) (by kernel_rfl) (by kernel_rfl) (w.heap.size) 44 #[vn, vl, vr, .slice (some ad) n c] (fun _ _ _ h => h) (by rfl) (fun _ h => h.2.2.1) _ Try.underlying44 rfl (by kernel_rfl) (by assumption) ?_
        try simp only [Act.put, List.setIfInBounds_toArray, List.set_cons_zero, List.set_cons_succ]
        refine held_run 1 (some 20) (.fieldAddr 44 (.tmp 1) 3) ?v6_112_114 (by rfl) (by kernel_rfl) (by kernel_rfl) (by kernel_rfl) (fun _ _ _ h => h) (fun o ho w hS => ?y6_112_114) (by assumption) ?r6_112_114
        case y6_112_114 => (try dsimp only at hS); unfold execOp; simp only [ho]; go_simp; try with_reducible rfl
        try simp only [Act.put, List.setIfInBounds_toArray, List.set_cons_zero, List.set_cons_succ]
        refine held_run 2 (some 21) (.load 42 (.tmp 20)) ?v6_112_115 (by rfl) (by kernel_rfl) (by kernel_rfl) (by kernel_rfl) (fun _ _ _ h => h) (fun o ho w hS => ?y6_112_115) (by assumption) ?r6_112_115
        case y6_112_115 => (try dsimp only at hS); unfold execOp; simp only [ho]; go_simp; try with_reducible rfl
        try simp only [Act.put, List.setIfInBounds_toArray, List.set_cons_zero, List.set_cons_succ]
        refine held_run 3 (some 22) (.move (.tmp 3)) ?v6_112_116 (by rfl) (by kernel_rfl) (by kernel_rfl) (by kernel_rfl) (fun _ _ _ h => h) (fun o ho w hS => ?y6_112_116) (by assumption) ?r6_112_116
        case y6_112_116 => (try dsimp only at hS); unfold execOp; simp only [ho]; go_simp; try with_reducible rfl
        try simp only [Act.put, List.setIfInBounds_toArray, List.set_cons_zero, List.set_cons_succ]
        refine held_run 4 (some 23) (.indexAddr 42 (.tmp 21) (.tmp 22)) ?v6_112_117 (by rfl) (by kernel_rfl) (by kernel_rfl) (by kernel_rfl) (fun _ _ _ h => h) (fun o ho w hS => ?y6_112_117) (by assumption) ?r6_112_117
        case y6_112_117 => (try dsimp only at hS); unfold execOp; simp only [ho]; go_simp; try with_reducible rfl
        try simp only [Act.put, List.setIfInBounds_toArray, List.set_cons_zero, List.set_cons_succ]
        refine held_run 5 (some 24) (.load 3 (.tmp 23)) ?v6_112_118 (by rfl) (by kernel_rfl) (by kernel_rfl) (by kernel_rfl) (fun _ _ _ h => h) (fun o ho w hS => ?y6_112_118) (by assumption) ?r6_112_118
        case y6_112_118 => (try dsimp only at hS); unfold execOp; simp only [ho]; go_simp; try with_reducible rfl
        try simp only [Act.put, List.setIfInBounds_toArray, List.set_cons_zero, List.set_cons_succ]
        refine held_two 6 10 (by kernel_rfl) ?_ ?_
        · refine op_call 6 (some 25) 37 [(.tmp 19), (.tmp 24)] #[44, 3] #[.agg #[vn, vl, vr, .slice (some ad) n c], .int .i64 x] (by rfl) (by rfl) Try.func37 (by rfl) (by rfl) ?_
          refine (HC.out x bx _ HBx.out HMod.out).mono ?_
          rintro e w1 ⟨i1, i2, rfl, hb1⟩
          have HY1 : Hid (Below wo.heap.size wo w1) := hide ((Below.refl wo.heap.size wo).drew.trans hb1)
          clear h0
          have h0 := HS.out _ HY1.out
          refine ⟨_, rfl, h0, ?_⟩
          try simp only [Act.put, List.setIfInBounds_toArray, List.set_cons_zero, List.set_cons_succ]
          refine held_run 7 (some 18) (.move (.tmp 25)) ?v6_112_120 (by rfl) (by kernel_rfl) (by kernel_rfl) (by kernel_rfl) (fun _ _ _ h => h) (fun o ho w hS => ?y6_112_120) (by assumption) ?r6_112_120
          case y6_112_120 => (try dsimp only at hS); unfold execOp; simp only [ho]; go_simp; try with_reducible rfl
          try simp only [Act.put, List.setIfInBounds_toArray, List.set_cons_zero, List.set_cons_succ]
          refine held_run 8 (some 26) (.extract (.tmp 18) 0) ?v6_112_121 (by rfl) (by kernel_rfl) (by kernel_rfl) (by kernel_rfl) (fun _ _ _ h => h) (fun o ho w hS => ?y6_112_121) (by assumption) ?r6_112_121
          case y6_112_121 => (try dsimp only at hS); unfold execOp; simp only [ho]; go_simp; try with_reducible rfl
          try simp only [Act.put, List.setIfInBounds_toArray, List.set_cons_zero, List.set_cons_succ]
          refine held_run 9 (some 27) (.extract (.tmp 18) 1) ?v6_112_122 (by rfl) (by kernel_rfl) (by kernel_rfl) (by kernel_rfl) (fun _ _ _ h => h) (fun o ho w hS => ?y6_112_122) (by assumption) ?r6_112_122
          case y6_112_122 => (try dsimp only at hS); unfold execOp; simp only [ho]; go_simp; try with_reducible rfl
          try simp only [Act.put, List.setIfInBounds_toArray, List.set_cons_zero, List.set_cons_succ]
          refine held_one 10 (by kernel_rfl) ?_
          refine op_alloc 10 (some 4) 63 #[.int .i64 0, .int .i64 0] (by rfl) (by kernel_rfl) ?_
          intro w2 hx2 hb2
          have HZ2 := Lib.hid hx2
          have HY2 : Hid (Below wo.heap.size wo w2) := hide (HY1.out.trans (hb2.mono HY1.out.size))
          clear h0
          have h0 := HS.out _ HY2.out
          refine ⟨h0, ?_⟩
          try simp only [Act.put, List.setIfInBounds_toArray, List.set_cons_zero, List.set_cons_succ]
          refine held_one 11 (by kernel_rfl) ?_
          refine op_store_blk 11 63 (.tmp 4) (.tmp 26) (by rfl) (w1.heap.size) #[.int .i64 i1, .int .i64 i2] rfl rfl _ _ (HZ2.out) (by kernel_rfl) rfl (by simp [Value.oneCell']) ?_
          intro w3 hx3 hon3
          have HY3 : Hid (Below wo.heap.size wo w3) := hide (hon3.below HY2.out HY1.out.size)
          clear h0
          have h0 := HS.out _ HY3.out
          refine ⟨h0, ?_⟩
          try simp only [Act.put]
          refine held_run 12 (some 5) (.assign (.tmp 27)) ?v6_112_125 (by rfl) (by kernel_rfl) (by kernel_rfl) (by kernel_rfl) (fun _ _ _ h => h) (fun o ho w hS => ?y6_112_125) (by assumption) ?r6_112_125
          case y6_112_125 => (try dsimp only at hS); unfold execOp; simp only [ho]; go_simp; try with_reducible rfl
          try simp only [Act.put, List.setIfInBounds_toArray, List.set_cons_zero, List.set_cons_succ]
          refine wpAnyH_done (by kernel_rfl) ?_ _
          go_wp2_with fail
          go_meet
          exact ⟨rfl, HY3.out⟩
        · refine op_alloc 10 (some 4) 63 #[.int .i64 0, .int .i64 0] (by rfl) (by kernel_rfl) ?_
          intro w2 hx2 hb2
          have HZ2 := Lib.hid hx2
          have HY2 : Hid (Below wo.heap.size wo w2) := hide ((Below.refl wo.heap.size wo).drew.trans hb2)
          have hlw := hx2.lt
          have HM2 : Hid (StrV Nd.cells 2 w2 w2.heap.size vn nd) := hide (HMod.out.now hb2)
          clear h0
          have h0 := HS.out _ HY2.out
          refine ⟨h0, ?_⟩
          try simp only [Act.put, List.setIfInBounds_toArray, List.set_cons_zero, List.set_cons_succ]
          refine held_call 6 (some 25) 37 [(.tmp 19), (.tmp 24)] #[44, 3] #[.agg #[vn, vl, vr, .slice (some ad) n c], .int .i64 x] (by rfl) (by rfl) (by kernel_rfl) Try.func37 (by rfl) (by rfl) ?_
          refine (HC.out x bx _ HBx.out HM2.out).mono ?_
          rintro e w1 ⟨i1, i2, rfl, hb1⟩
          have HY1 : Hid (Below wo.heap.size wo w1) := hide (HY2.out.trans (hb1.mono HY2.out.size))
          have HZ1 := Lib.hid (HZ2.out.below hb1 hlw)
          clear h0
          have h0 := HS.out _ HY1.out
          refine ⟨_, rfl, h0, ?_⟩
          try simp only [Act.put, List.setIfInBounds_toArray, List.set_cons_zero, List.set_cons_succ]
          refine held_run 7 (some 18) (.move (.tmp 25)) ?v6_112_128 (by rfl) (by kernel_rfl) (by kernel_rfl) (by kernel_rfl) (fun _ _ _ h => h) (fun o ho w hS => ?y6_112_128) (by assumption) ?r6_112_128
          case y6_112_128 => (try dsimp only at hS); unfold execOp; simp only [ho]; go_simp; try with_reducible rfl
          try simp only [Act.put, List.setIfInBounds_toArray, List.set_cons_zero, List.set_cons_succ]
          refine held_run 8 (some 26) (.extract (.tmp 18) 0) ?v6_112_129 (by rfl) (by kernel_rfl) (by kernel_rfl) (by kernel_rfl) (fun _ _ _ h => h) (fun o ho w hS => ?y6_112_129) (by assumption) ?r6_112_129
          case y6_112_129 => (try dsimp only at hS); unfold execOp; simp only [ho]; go_simp; try with_reducible rfl
          try simp only [Act.put, List.setIfInBounds_toArray, List.set_cons_zero, List.set_cons_succ]
          refine held_run 9 (some 27) (.extract (.tmp 18) 1) ?v6_112_130 (by rfl) (by kernel_rfl) (by kernel_rfl) (by kernel_rfl) (fun _ _ _ h => h) (fun o ho w hS => ?y6_112_130) (by assumption) ?r6_112_130
          case y6_112_130 => (try dsimp only at hS); unfold execOp; simp only [ho]; go_simp; try with_reducible rfl
          try simp only [Act.put, List.setIfInBounds_toArray, List.set_cons_zero, List.set_cons_succ]
          refine held_one 11 (by kernel_rfl) ?_
          refine op_store_blk 11 63 (.tmp 4) (.tmp 26) (by rfl) (wo.drew.heap.size) #[.int .i64 i1, .int .i64 i2] rfl rfl _ _ (HZ1.out) (by kernel_rfl) rfl (by simp [Value.oneCell']) ?_
          intro w3 hx3 hon3
          have HY3 : Hid (Below wo.heap.size wo w3) := hide (hon3.below HY1.out (Nat.le_refl _))
          clear h0
          have h0 := HS.out _ HY3.out
          refine ⟨h0, ?_⟩
          try simp only [Act.put]
          refine held_run 12 (some 5) (.assign (.tmp 27)) ?v6_112_132 (by rfl) (by kernel_rfl) (by kernel_rfl) (by kernel_rfl) (fun _ _ _ h => h) (fun o ho w hS => ?y6_112_132) (by assumption) ?r6_112_132
          case y6_112_132 => (try dsimp only at hS); unfold execOp; simp only [ho]; go_simp; try with_reducible rfl
          try simp only [Act.put, List.setIfInBounds_toArray, List.set_cons_zero, List.set_cons_succ]
          refine wpAnyH_done (by kernel_rfl) ?_ _
          go_wp2_with fail
          go_meet
          exact ⟨rfl, HY3.out⟩
      obtain ⟨rfl, hcut⟩ := hcut
      clear HS m0 m1 m2 m3
      have HBc := Lib.hid (HBo.out.trans (hcut.mono hszo))
      have HWc := Lib.hid (HWo.out.trans (hcut.mono HWo.out.size))
      have hszc : wb.heap.size ≤ wc.heap.size := Nat.le_trans hszo hcut.size
      have HX0c := Lib.hid (HX0o.out.below hcut (Nat.lt_of_lt_of_le hxx0 hszo))
      have HMc := Lib.hid (HMo.out.now hcut)
      have HRc := Lib.hid (HRo.out.now hcut)
      clear hcut
      have hwc : wc = wc := rfl
      cases bx with
      | false =>
        go_wp2_with fail
        go_ret
        exact errR_no (by decide) HWc.out
      | true =>
        go_wp2_with fail
        go_roundw
        case rel => exact ⟨k + 1, by omega, by go_num, HNx.out rfl, HBc.out⟩
        case measure => simp [intOf]; omega
    · obtain rfl : k = n := by omega
      go_wp2_with fail
      clear m0 m1 m2 m3
      go_loopw [6] (fun i wr => ∃ m : Nat, 1 ≤ m ∧ m ≤ k ∧ i = .int .i64 m ∧ Below wb.heap.size wb wr) (fun i _ => k - (intOf i).toNat)
      case atStart => exact ⟨1, by omega, by omega, rfl, HBo.out⟩
      case round =>
        obtain ⟨m, hm1, hm, rfl, hbr⟩ := hrel
        clear HBo HWo HX0o HMo HRo hszo
        obtain ⟨wo, rfl⟩ : ∃ wo : World, wo = wr := ⟨_, rfl⟩
        have HBo := Lib.hid (HBb.out.trans (hbr.mono hszb))
        have HWo := Lib.hid (HWb.out.trans (hbr.mono HWb.out.size))
        have hszo : wb.heap.size ≤ wo.heap.size := Nat.le_trans hszb hbr.size
        have HX0o := Lib.hid (HX0b.out.below hbr (Nat.lt_of_lt_of_le hxx0 hszb))
        have HMo := Lib.hid (HMb.out.now hbr)
        have HRo := Lib.hid (HRb.out.now hbr)
        clear hbr
        have m0 : wo.cell? ⟨w.heap.size, 0, none⟩ = some (vn) := HX0o.out.cell 0
        have m1 : wo.cell? ⟨w.heap.size, 1, none⟩ = some (vl) := HX0o.out.cell 1
        have m2 : wo.cell? ⟨w.heap.size, 2, none⟩ = some (vr) := HX0o.out.cell 2
        have m3 : wo.cell? ⟨w.heap.size, 3, none⟩ = some (.slice A k c) := HX0o.out.cell 3
        by_cases hlt2 : m < k
        rotate_left
        · obtain rfl : m = k := by omega
          go_wp2_with fail
          go_ret
          exact errR_ok ⟨fun e => by have h := HL.out; rw [e] at h; simp at h; omega, good_all 0 HL.out HG.out⟩ HWo.out
        obtain ⟨m', hm'⟩ : ∃ m', m = m' + 1 := ⟨m - 1, by omega⟩
        obtain ⟨ad, rfl, hab, hc⟩ := HRo.out.int hlt2
        obtain ⟨ad', had, _, hc'⟩ := HRo.out.int (show m' < k by omega)
        injection had with had
        subst had
        generalize bs.getD m 0 = x at *
        generalize bs.getD m' 0 = p at *
        have hj : (m : Int) - 1 = (m' : Int) := by omega
        have hkn : m' < k := by omega
        have hwr : IntKind.i64.wrap (m' : Int) = (m' : Int) := IntWalk.i64_in _ (by omega)
        clear hm'
        go_wp2_with fail
        by_cases h3 : x ≤ p
        · skip
          refine wp_region_held_drew (S := fun W => W.cell? ⟨w.heap.size, 3, none⟩ = some (.slice (some ad) k c) ∧ W.cell? (ad.add m) = some (.int .i64 x) ∧ W.cell? (ad.add m') = some (.int .i64 p)) (by kernel_rfl) (⟨m3, hc, hc'⟩) (fun hHeld => ?_)
          refine held_run 0 (some 37) (.fieldAddr 44 (.tmp 1) 3) ?v12_133_134 (by rfl) (by kernel_rfl) (by kernel_rfl) (by kernel_rfl) (fun _ _ _ h => h) (fun o ho w hS => ?y12_133_134) (by assumption) ?r12_133_134
          case y12_133_134 => (try dsimp only at hS); unfold execOp; simp only [ho]; go_simp; try with_reducible rfl
          try simp only [Act.put, List.setIfInBounds_toArray, List.set_cons_zero, List.set_cons_succ]
          refine held_run 1 (some 38) (.load 42 (.tmp 37)) ?v12_133_135 (by rfl) (by kernel_rfl) (by kernel_rfl) (by kernel_rfl) (fun _ _ _ h => h) (fun o ho w hS => ?y12_133_135) (by assumption) ?r12_133_135
          case y12_133_135 => (try dsimp only at hS); unfold execOp; simp only [ho]; go_simp; try with_reducible rfl
          try simp only [Act.put, List.setIfInBounds_toArray, List.set_cons_zero, List.set_cons_succ]
          refine held_run 2 (some 39) (.move (.tmp 6)) ?v12_133_136 (by rfl) (by kernel_rfl) (by kernel_rfl) (by kernel_rfl) (fun _ _ _ h => h) (fun o ho w hS => ?y12_133_136) (by assumption) ?r12_133_136
          case y12_133_136 => (try dsimp only at hS); unfold execOp; simp only [ho]; go_simp; try with_reducible rfl
          try simp only [Act.put, List.setIfInBounds_toArray, List.set_cons_zero, List.set_cons_succ]
          refine held_run 3 (some 40) (.indexAddr 42 (.tmp 38) (.tmp 39)) ?v12_133_137 (by rfl) (by kernel_rfl) (by kernel_rfl) (by kernel_rfl) (fun _ _ _ h => h) (fun o ho w hS => ?y12_133_137) (by assumption) ?r12_133_137
          case y12_133_137 => (try dsimp only at hS); unfold execOp; simp only [ho]; go_simp; try with_reducible rfl
          try simp only [Act.put, List.setIfInBounds_toArray, List.set_cons_zero, List.set_cons_succ]
          refine held_run 4 (some 41) (.load 3 (.tmp 40)) ?v12_133_138 (by rfl) (by kernel_rfl) (by kernel_rfl) (by kernel_rfl) (fun _ _ _ h => h) (fun o ho w hS => ?y12_133_138) (by assumption) ?r12_133_138
          case y12_133_138 => (try dsimp only at hS); unfold execOp; simp only [ho]; go_simp; try with_reducible rfl
          try simp only [Act.put, List.setIfInBounds_toArray, List.set_cons_zero, List.set_cons_succ]
          refine held_run 5 (some 42) (.fieldAddr 44 (.tmp 1) 3) ?v12_133_139 (by rfl) (by kernel_rfl) (by kernel_rfl) (by kernel_rfl) (fun _ _ _ h => h) (fun o ho w hS => ?y12_133_139) (by assumption) ?r12_133_139
          case y12_133_139 => (try dsimp only at hS); unfold execOp; simp only [ho]; go_simp; try with_reducible rfl
          try simp only [Act.put, List.setIfInBounds_toArray, List.set_cons_zero, List.set_cons_succ]
          refine held_run 6 (some 43) (.load 42 (.tmp 42)) ?v12_133_140 (by rfl) (by kernel_rfl) (by kernel_rfl) (by kernel_rfl) (fun _ _ _ h => h) (fun o ho w hS => ?y12_133_140) (by assumption) ?r12_133_140
          case y12_133_140 => (try dsimp only at hS); unfold execOp; simp only [ho]; go_simp; try with_reducible rfl
          try simp only [Act.put, List.setIfInBounds_toArray, List.set_cons_zero, List.set_cons_succ]
          refine held_run 7 (some 44) (.move (.tmp 6)) ?v12_133_141 (by rfl) (by kernel_rfl) (by kernel_rfl) (by kernel_rfl) (fun _ _ _ h => h) (fun o ho w hS => ?y12_133_141) (by assumption) ?r12_133_141
          case y12_133_141 => (try dsimp only at hS); unfold execOp; simp only [ho]; go_simp; try with_reducible rfl
          try simp only [Act.put, List.setIfInBounds_toArray, List.set_cons_zero, List.set_cons_succ]
          refine held_run 8 (some 45) (.binOp .sub 3 (.tmp 44) (.const (.int .i64 1)) 3) ?v12_133_142 (by rfl) (by kernel_rfl) (by kernel_rfl) (by kernel_rfl) (fun _ _ _ h => h) (fun o ho w hS => ?y12_133_142) (by assumption) ?r12_133_142
          case y12_133_142 => (try dsimp only at hS); unfold execOp; simp only [ho]; go_simp; try with_reducible rfl
          try simp only [Act.put, List.setIfInBounds_toArray, List.set_cons_zero, List.set_cons_succ]
          refine held_run 9 (some 46) (.indexAddr 42 (.tmp 43) (.tmp 45)) ?v12_133_143 (by rfl) (by kernel_rfl) (by kernel_rfl) (by kernel_rfl) (fun _ _ _ h => h) (fun o ho w hS => ?y12_133_143) (by assumption) ?r12_133_143
          case y12_133_143 => (try dsimp only at hS); unfold execOp; simp only [ho]; go_simp; try with_reducible rfl
          try simp only [Act.put, List.setIfInBounds_toArray, List.set_cons_zero, List.set_cons_succ]
          refine held_run 10 (some 47) (.load 3 (.tmp 46)) ?v12_133_144 (by rfl) (by kernel_rfl) (by kernel_rfl) (by kernel_rfl) (fun _ _ _ h => h) (fun o ho w hS => ?y12_133_144) (by assumption) ?r12_133_144
          case y12_133_144 => (try dsimp only at hS); unfold execOp; simp only [ho]; go_simp; try with_reducible rfl
          try simp only [Act.put, List.setIfInBounds_toArray, List.set_cons_zero, List.set_cons_succ]
          refine held_run 11 (some 48) (.binOp .leq 3 (.tmp 41) (.tmp 47) 3) ?v12_133_145 (by rfl) (by kernel_rfl) (by kernel_rfl) (by kernel_rfl) (fun _ _ _ h => h) (fun o ho w hS => ?y12_133_145) (by assumption) ?r12_133_145
          case y12_133_145 => (try dsimp only at hS); unfold execOp; simp only [ho]; go_simp; try with_reducible rfl
          try simp only [Act.put, List.setIfInBounds_toArray, List.set_cons_zero, List.set_cons_succ]
          refine wpAnyH_done (by kernel_rfl) ?_ _
          clear hwr
          go_wp2_with fail
          go_ret
          exact errR_no (by decide) HWo.out.drew
        · have d3 : decide (x ≤ p) = false := decide_eq_false h3
          refine wp_region_held_drew (S := fun W => W.cell? ⟨w.heap.size, 3, none⟩ = some (.slice (some ad) k c) ∧ W.cell? (ad.add m) = some (.int .i64 x) ∧ W.cell? (ad.add m') = some (.int .i64 p)) (by kernel_rfl) (⟨m3, hc, hc'⟩) (fun hHeld => ?_)
          refine held_run 0 (some 37) (.fieldAddr 44 (.tmp 1) 3) ?v12_146_147 (by rfl) (by kernel_rfl) (by kernel_rfl) (by kernel_rfl) (fun _ _ _ h => h) (fun o ho w hS => ?y12_146_147) (by assumption) ?r12_146_147
          case y12_146_147 => (try dsimp only at hS); unfold execOp; simp only [ho]; go_simp; try with_reducible rfl
          try simp only [Act.put, List.setIfInBounds_toArray, List.set_cons_zero, List.set_cons_succ]
          refine held_run 1 (some 38) (.load 42 (.tmp 37)) ?v12_146_148 (by rfl) (by kernel_rfl) (by kernel_rfl) (by kernel_rfl) (fun _ _ _ h => h) (fun o ho w hS => ?y12_146_148) (by assumption) ?r12_146_148
          case y12_146_148 => (try dsimp only at hS); unfold execOp; simp only [ho]; go_simp; try with_reducible rfl
          try simp only [Act.put, List.setIfInBounds_toArray, List.set_cons_zero, List.set_cons_succ]
          refine held_run 2 (some 39) (.move (.tmp 6)) ?v12_146_149 (by rfl) (by kernel_rfl) (by kernel_rfl) (by kernel_rfl) (fun _ _ _ h => h) (fun o ho w hS => ?y12_146_149) (by assumption) ?r12_146_149
          case y12_146_149 => (try dsimp only at hS); unfold execOp; simp only [ho]; go_simp; try with_reducible rfl
          try simp only [Act.put, List.setIfInBounds_toArray, List.set_cons_zero, List.set_cons_succ]
          refine held_run 3 (some 40) (.indexAddr 42 (.tmp 38) (.tmp 39)) ?v12_146_150 (by rfl) (by kernel_rfl) (by kernel_rfl) (by kernel_rfl) (fun _ _ _ h => h) (fun o ho w hS => ?y12_146_150) (by assumption) ?r12_146_150
          case y12_146_150 => (try dsimp only at hS); unfold execOp; simp only [ho]; go_simp; try with_reducible rfl
          try simp only [Act.put, List.setIfInBounds_toArray, List.set_cons_zero, List.set_cons_succ]
          refine held_run 4 (some 41) (.load 3 (.tmp 40)) ?v12_146_151 (by rfl) (by kernel_rfl) (by kernel_rfl) (by kernel_rfl) (fun _ _ _ h => h) (fun o ho w hS => ?y12_146_151) (by assumption) ?r12_146_151
          case y12_146_151 => (try dsimp only at hS); unfold execOp; simp only [ho]; go_simp; try with_reducible rfl
          try simp only [Act.put, List.setIfInBounds_toArray, List.set_cons_zero, List.set_cons_succ]
          refine held_run 5 (some 42) (.fieldAddr 44 (.tmp 1) 3) ?v12_146_152 (by rfl) (by kernel_rfl) (by kernel_rfl) (by kernel_rfl) (fun _ _ _ h => h) (fun o ho w hS => ?y12_146_152) (by assumption) ?r12_146_152
          case y12_146_152 => (try dsimp only at hS); unfold execOp; simp only [ho]; go_simp; try with_reducible rfl
          try simp only [Act.put, List.setIfInBounds_toArray, List.set_cons_zero, List.set_cons_succ]
          refine held_run 6 (some 43) (.load 42 (.tmp 42)) ?v12_146_153 (by rfl) (by kernel_rfl) (by kernel_rfl) (by kernel_rfl) (fun _ _ _ h => h) (fun o ho w hS => ?y12_146_153) (by assumption) ?r12_146_153
          case y12_146_153 => (try dsimp only at hS); unfold execOp; simp only [ho]; go_simp; try with_reducible rfl
          try simp only [Act.put, List.setIfInBounds_toArray, List.set_cons_zero, List.set_cons_succ]
          refine held_run 7 (some 44) (.move (.tmp 6)) ?v12_146_154 (by rfl) (by kernel_rfl) (by kernel_rfl) (by kernel_rfl) (fun _ _ _ h => h) (fun o ho w hS => ?y12_146_154) (by assumption) ?r12_146_154
          case y12_146_154 => (try dsimp only at hS); unfold execOp; simp only [ho]; go_simp; try with_reducible rfl
          try simp only [Act.put, List.setIfInBounds_toArray, List.set_cons_zero, List.set_cons_succ]
          refine held_run 8 (some 45) (.binOp .sub 3 (.tmp 44) (.const (.int .i64 1)) 3) ?v12_146_155 (by rfl) (by kernel_rfl) (by kernel_rfl) (by kernel_rfl) (fun _ _ _ h => h) (fun o ho w hS => ?y12_146_155) (by assumption) ?r12_146_155
          case y12_146_155 => (try dsimp only at hS); unfold execOp; simp only [ho]; go_simp; try with_reducible rfl
          try simp only [Act.put, List.setIfInBounds_toArray, List.set_cons_zero, List.set_cons_succ]
          refine held_run 9 (some 46) (.indexAddr 42 (.tmp 43) (.tmp 45)) ?v12_146_156 (by rfl) (by kernel_rfl) (by kernel_rfl) (by kernel_rfl) (fun _ _ _ h => h) (fun o ho w hS => ?y12_146_156) (by assumption) ?r12_146_156
          case y12_146_156 => (try dsimp only at hS); unfold execOp; simp only [ho]; go_simp; try with_reducible rfl
          try simp only [Act.put, List.setIfInBounds_toArray, List.set_cons_zero, List.set_cons_succ]
          refine held_run 10 (some 47) (.load 3 (.tmp 46)) ?v12_146_157 (by rfl) (by kernel_rfl) (by kernel_rfl) (by kernel_rfl) (fun _ _ _ h => h) (fun o ho w hS => ?y12_146_157) (by assumption) ?r12_146_157
          case y12_146_157 => (try dsimp only at hS); unfold execOp; simp only [ho]; go_simp; try with_reducible rfl
          try simp only [Act.put, List.setIfInBounds_toArray, List.set_cons_zero, List.set_cons_succ]
          refine held_run 11 (some 48) (.binOp .leq 3 (.tmp 41) (.tmp 47) 3) ?v12_146_158 (by rfl) (by kernel_rfl) (by kernel_rfl) (by kernel_rfl) (fun _ _ _ h => h) (fun o ho w hS => ?y12_146_158) (by assumption) ?r12_146_158
          case y12_146_158 => (try dsimp only at hS); unfold execOp; simp only [ho]; go_simp; try with_reducible rfl
          try simp only [Act.put, List.setIfInBounds_toArray, List.set_cons_zero, List.set_cons_succ]
          refine wpAnyH_done (by kernel_rfl) ?_ _
          clear hwr
          go_wp2_with fail
          go_roundw
          case rel => exact ⟨m + 1, by omega, by omega, by go_num, HBo.out.drew⟩
          case measure => simp [intOf]; omega

set_option maxRecDepth 100000 in
set_option maxHeartbeats 4000000 in
theorem tright_any (vn vl vr vb : Value) (nd : List Nd) (lf : List Lf) (rs : List Rn) (bs : List Int) (w : World) (hm : StrV Nd.cells 2 w w.heap.size vn nd) (hl : StrV Lf.cells 8 w w.heap.size vl lf) (hr : StrV Rn.cells 7 w w.heap.size vr rs) (hb : RowV w w.heap.size vb bs) :
    Calls Try.prog 33 #[.agg #[vn, vl, vr, vb]] w (ErrR (MapOK nd lf rs bs) w) := by
  obtain ⟨A1, n1, c1, rfl, L1, _, _, _⟩ := hm.nam
  obtain ⟨A2, n2, c2, rfl, L2, _, _, _⟩ := hl.nam
  obtain ⟨A3, n3, c3, rfl, L3, _, _, _⟩ := hr.nam
  obtain ⟨A4, n4, c4, rfl, L4, _, _, _⟩ := hb.nam
  have HM := Lib.hid hm
  have HL := Lib.hid hl
  have HR := Lib.hid hr
  have HB0 := Lib.hid hb
  clear hm hl hr hb
  by_cases q0 : 64 < n1
  · have qq : True := trivial
    go_enter Try.func33, Try.ntmps33
    go_wp2_with fail
    have HBwb := (Blk.new w 44 #[.slice A1 n1 c1, .slice A2 n2 c2, .slice A3 n3 c3, .slice A4 n4 c4])
    have HLwb := (below_new w (.cells #[.slice A1 n1 c1, .slice A2 n2 c2, .slice A3 n3 c3, .slice A4 n4 c4] 44))
    have hswb : (w.alloc (.cells #[.slice A1 n1 c1, .slice A2 n2 c2, .slice A3 n3 c3, .slice A4 n4 c4] 44)).heap.size = w.heap.size + 1 := by simp
    generalize w.alloc (.cells #[.slice A1 n1 c1, .slice A2 n2 c2, .slice A3 n3 c3, .slice A4 n4 c4] 44) = wb at HBwb HLwb hswb ⊢
    replace HBwb := Lib.hid HBwb
    replace HLwb := Lib.hid HLwb
    have hlwb : w.heap.size < wb.heap.size := by omega
    replace hswb := Lib.hid hswb
    have HWb := Lib.hid (HLwb.out)
    have hl0 : w.heap.size ≤ wb.heap.size := HWb.out.size
    have HBb : Hid (Below wb.heap.size wb wb) := hide (Below.refl _ _)
    have hszb : wb.heap.size ≤ wb.heap.size := Nat.le_refl _
    have HX0b : Hid (Blk wb w.heap.size 44 #[.slice A1 n1 c1, .slice A2 n2 c2, .slice A3 n3 c3, .slice A4 n4 c4]) := hide HBwb.out
    have hxx0 : w.heap.size < wb.heap.size := HX0b.out.lt
    clear HBwb HLwb hswb hlwb
    go_ret
    exact errR_no (by decide) HWb.out
  have t0 : decide (64 < n1) = false := decide_eq_false q0
  by_cases q1 : 32 < n2
  · have qq : True := trivial
    go_enter Try.func33, Try.ntmps33
    go_wp2_with fail
    have HBwb := (Blk.new w 44 #[.slice A1 n1 c1, .slice A2 n2 c2, .slice A3 n3 c3, .slice A4 n4 c4])
    have HLwb := (below_new w (.cells #[.slice A1 n1 c1, .slice A2 n2 c2, .slice A3 n3 c3, .slice A4 n4 c4] 44))
    have hswb : (w.alloc (.cells #[.slice A1 n1 c1, .slice A2 n2 c2, .slice A3 n3 c3, .slice A4 n4 c4] 44)).heap.size = w.heap.size + 1 := by simp
    generalize w.alloc (.cells #[.slice A1 n1 c1, .slice A2 n2 c2, .slice A3 n3 c3, .slice A4 n4 c4] 44) = wb at HBwb HLwb hswb ⊢
    replace HBwb := Lib.hid HBwb
    replace HLwb := Lib.hid HLwb
    have hlwb : w.heap.size < wb.heap.size := by omega
    replace hswb := Lib.hid hswb
    have HWb := Lib.hid (HLwb.out)
    have hl0 : w.heap.size ≤ wb.heap.size := HWb.out.size
    have HBb : Hid (Below wb.heap.size wb wb) := hide (Below.refl _ _)
    have hszb : wb.heap.size ≤ wb.heap.size := Nat.le_refl _
    have HX0b : Hid (Blk wb w.heap.size 44 #[.slice A1 n1 c1, .slice A2 n2 c2, .slice A3 n3 c3, .slice A4 n4 c4]) := hide HBwb.out
    have hxx0 : w.heap.size < wb.heap.size := HX0b.out.lt
    clear HBwb HLwb hswb hlwb
    go_ret
    exact errR_no (by decide) HWb.out
  have t1 : decide (32 < n2) = false := decide_eq_false q1
  by_cases q2 : 64 < n3
  · have qq : True := trivial
    go_enter Try.func33, Try.ntmps33
    go_wp2_with fail
    have HBwb := (Blk.new w 44 #[.slice A1 n1 c1, .slice A2 n2 c2, .slice A3 n3 c3, .slice A4 n4 c4])
    have HLwb := (below_new w (.cells #[.slice A1 n1 c1, .slice A2 n2 c2, .slice A3 n3 c3, .slice A4 n4 c4] 44))
    have hswb : (w.alloc (.cells #[.slice A1 n1 c1, .slice A2 n2 c2, .slice A3 n3 c3, .slice A4 n4 c4] 44)).heap.size = w.heap.size + 1 := by simp
    generalize w.alloc (.cells #[.slice A1 n1 c1, .slice A2 n2 c2, .slice A3 n3 c3, .slice A4 n4 c4] 44) = wb at HBwb HLwb hswb ⊢
    replace HBwb := Lib.hid HBwb
    replace HLwb := Lib.hid HLwb
    have hlwb : w.heap.size < wb.heap.size := by omega
    replace hswb := Lib.hid hswb
    have HWb := Lib.hid (HLwb.out)
    have hl0 : w.heap.size ≤ wb.heap.size := HWb.out.size
    have HBb : Hid (Below wb.heap.size wb wb) := hide (Below.refl _ _)
    have hszb : wb.heap.size ≤ wb.heap.size := Nat.le_refl _
    have HX0b : Hid (Blk wb w.heap.size 44 #[.slice A1 n1 c1, .slice A2 n2 c2, .slice A3 n3 c3, .slice A4 n4 c4]) := hide HBwb.out
    have hxx0 : w.heap.size < wb.heap.size := HX0b.out.lt
    clear HBwb HLwb hswb hlwb
    go_ret
    exact errR_no (by decide) HWb.out
  have t2 : decide (64 < n3) = false := decide_eq_false q2
  by_cases q3 : 64 < n4
  · have qq : True := trivial
    go_enter Try.func33, Try.ntmps33
    go_wp2_with fail
    have HBwb := (Blk.new w 44 #[.slice A1 n1 c1, .slice A2 n2 c2, .slice A3 n3 c3, .slice A4 n4 c4])
    have HLwb := (below_new w (.cells #[.slice A1 n1 c1, .slice A2 n2 c2, .slice A3 n3 c3, .slice A4 n4 c4] 44))
    have hswb : (w.alloc (.cells #[.slice A1 n1 c1, .slice A2 n2 c2, .slice A3 n3 c3, .slice A4 n4 c4] 44)).heap.size = w.heap.size + 1 := by simp
    generalize w.alloc (.cells #[.slice A1 n1 c1, .slice A2 n2 c2, .slice A3 n3 c3, .slice A4 n4 c4] 44) = wb at HBwb HLwb hswb ⊢
    replace HBwb := Lib.hid HBwb
    replace HLwb := Lib.hid HLwb
    have hlwb : w.heap.size < wb.heap.size := by omega
    replace hswb := Lib.hid hswb
    have HWb := Lib.hid (HLwb.out)
    have hl0 : w.heap.size ≤ wb.heap.size := HWb.out.size
    have HBb : Hid (Below wb.heap.size wb wb) := hide (Below.refl _ _)
    have hszb : wb.heap.size ≤ wb.heap.size := Nat.le_refl _
    have HX0b : Hid (Blk wb w.heap.size 44 #[.slice A1 n1 c1, .slice A2 n2 c2, .slice A3 n3 c3, .slice A4 n4 c4]) := hide HBwb.out
    have hxx0 : w.heap.size < wb.heap.size := HX0b.out.lt
    clear HBwb HLwb hswb hlwb
    go_ret
    exact errR_no (by decide) HWb.out
  have t3 : decide (64 < n4) = false := decide_eq_false q3
  go_enter Try.func33, Try.ntmps33
  go_wp2_with fail
  have HBwb := (Blk.new w 44 #[.slice A1 n1 c1, .slice A2 n2 c2, .slice A3 n3 c3, .slice A4 n4 c4])
  have HLwb := (below_new w (.cells #[.slice A1 n1 c1, .slice A2 n2 c2, .slice A3 n3 c3, .slice A4 n4 c4] 44))
  have hswb : (w.alloc (.cells #[.slice A1 n1 c1, .slice A2 n2 c2, .slice A3 n3 c3, .slice A4 n4 c4] 44)).heap.size = w.heap.size + 1 := by simp
  generalize w.alloc (.cells #[.slice A1 n1 c1, .slice A2 n2 c2, .slice A3 n3 c3, .slice A4 n4 c4] 44) = wb at HBwb HLwb hswb ⊢
  replace HBwb := Lib.hid HBwb
  replace HLwb := Lib.hid HLwb
  have hlwb : w.heap.size < wb.heap.size := by omega
  replace hswb := Lib.hid hswb
  have HWb := Lib.hid (HLwb.out)
  have hl0 : w.heap.size ≤ wb.heap.size := HWb.out.size
  have HBb : Hid (Below wb.heap.size wb wb) := hide (Below.refl _ _)
  have hszb : wb.heap.size ≤ wb.heap.size := Nat.le_refl _
  have HX0b : Hid (Blk wb w.heap.size 44 #[.slice A1 n1 c1, .slice A2 n2 c2, .slice A3 n3 c3, .slice A4 n4 c4]) := hide HBwb.out
  have hxx0 : w.heap.size < wb.heap.size := HX0b.out.lt
  clear HBwb HLwb hswb hlwb
  have HMb := Lib.hid (HM.out.now HWb.out)
  have HLb := Lib.hid (HL.out.now HWb.out)
  have HRb := Lib.hid (HR.out.now HWb.out)
  have HB0b := Lib.hid (HB0.out.now HWb.out)
  with_reducible refine (nodes_any _ nd _ HMb.out).mono ?_
  rintro e w1 ⟨r1, rfl, hr1, hb1⟩
  have HB1 := Lib.hid (HBb.out.trans (hb1.mono hszb))
  have HW1 := Lib.hid (HWb.out.trans (hb1.mono HWb.out.size))
  have hsz1 : wb.heap.size ≤ w1.heap.size := Nat.le_trans hszb hb1.size
  have HX01 := Lib.hid (HX0b.out.below hb1 (Nat.lt_of_lt_of_le hxx0 hszb))
  have HM1 := Lib.hid (HMb.out.now hb1)
  have HL1 := Lib.hid (HLb.out.now hb1)
  have HR1 := Lib.hid (HRb.out.now hb1)
  have HB01 := Lib.hid (HB0b.out.now hb1)
  clear hb1
  by_cases z1 : r1 = 0
  rotate_left
  · have d0 : (r1 == 0) = false := beq_eq_false_iff_ne.2 z1
    go_wp2_with fail
    go_ret
    exact errR_no z1 HW1.out
  have HP1 := Lib.hid (hr1 z1)
  subst z1
  clear hr1
  go_wp2_with
    (first
     | (refine wpList_load_g 44 (.tmp 1) rfl rfl w.heap.size rfl _ _ HX01.out _ Try.underlying44 rfl (by kernel_rfl) ?_))
  with_reducible refine (lifts_any _ _ _ _ nd lf _ HM1.out HL1.out).mono ?_
  rintro e w2 ⟨r2, rfl, hr2, hb2⟩
  have HB2 := Lib.hid (HB1.out.trans (hb2.mono hsz1))
  have HW2 := Lib.hid (HW1.out.trans (hb2.mono HW1.out.size))
  have hsz2 : wb.heap.size ≤ w2.heap.size := Nat.le_trans hsz1 hb2.size
  have HX02 := Lib.hid (HX01.out.below hb2 (Nat.lt_of_lt_of_le hxx0 hsz1))
  have HM2 := Lib.hid (HM1.out.now hb2)
  have HL2 := Lib.hid (HL1.out.now hb2)
  have HR2 := Lib.hid (HR1.out.now hb2)
  have HB02 := Lib.hid (HB01.out.now hb2)
  clear hb2
  by_cases z2 : r2 = 0
  rotate_left
  · have d0 : (r2 == 0) = false := beq_eq_false_iff_ne.2 z2
    go_wp2_with fail
    go_ret
    exact errR_no z2 HW2.out
  have HP2 := Lib.hid (hr2 z2)
  subst z2
  clear hr2
  go_wp2_with
    (first
     | (refine wpList_load_g 44 (.tmp 1) rfl rfl w.heap.size rfl _ _ HX02.out _ Try.underlying44 rfl (by kernel_rfl) ?_))
  with_reducible refine (truns_any _ _ _ _ nd rs _ HM2.out HR2.out).mono ?_
  rintro e w3 ⟨r3, rfl, hr3, hb3⟩
  have HB3 := Lib.hid (HB2.out.trans (hb3.mono hsz2))
  have HW3 := Lib.hid (HW2.out.trans (hb3.mono HW2.out.size))
  have hsz3 : wb.heap.size ≤ w3.heap.size := Nat.le_trans hsz2 hb3.size
  have HX03 := Lib.hid (HX02.out.below hb3 (Nat.lt_of_lt_of_le hxx0 hsz2))
  have HM3 := Lib.hid (HM2.out.now hb3)
  have HL3 := Lib.hid (HL2.out.now hb3)
  have HR3 := Lib.hid (HR2.out.now hb3)
  have HB03 := Lib.hid (HB02.out.now hb3)
  clear hb3
  by_cases z3 : r3 = 0
  rotate_left
  · have d0 : (r3 == 0) = false := beq_eq_false_iff_ne.2 z3
    go_wp2_with fail
    go_ret
    exact errR_no z3 HW3.out
  have HP3 := Lib.hid (hr3 z3)
  subst z3
  clear hr3
  go_wp2_with
    (first
     | (refine wpList_load_g 44 (.tmp 1) rfl rfl w.heap.size rfl _ _ HX03.out _ Try.underlying44 rfl (by kernel_rfl) ?_))
  with_reducible refine (bases_any _ _ _ _ nd bs _ HM3.out HB03.out).mono ?_
  rintro e w4 ⟨r4, rfl, hr4, hb4⟩
  have HP4 := Lib.hid hr4
  have HB4 := Lib.hid (HB3.out.trans (hb4.mono hsz3))
  have HW4 := Lib.hid (HW3.out.trans (hb4.mono HW3.out.size))
  have hsz4 : wb.heap.size ≤ w4.heap.size := Nat.le_trans hsz3 hb4.size
  have HX04 := Lib.hid (HX03.out.below hb4 (Nat.lt_of_lt_of_le hxx0 hsz3))
  have HM4 := Lib.hid (HM3.out.now hb4)
  have HL4 := Lib.hid (HL3.out.now hb4)
  have HR4 := Lib.hid (HR3.out.now hb4)
  have HB04 := Lib.hid (HB03.out.now hb4)
  clear hb4 hr4
  go_wp2_with fail
  go_ret
  refine ⟨r4, rfl, fun h => ?_, HW4.out⟩
  exact ⟨by rw [L1.out]; omega, by rw [L2.out]; omega, by rw [L3.out]; omega, by rw [L4.out]; omega, HP1.out.1, fun k hk => HP1.out.2 k hk, HP2.out.1, HP3.out.1, fun k hk => HP3.out.2 k hk, (HP4.out h).1, (HP4.out h).2⟩
end Go.Proofs.Ytihmboibpjfohaa
