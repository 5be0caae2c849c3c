/-
  Issue of the reference of chapter 49, walked.
-/
import Derived.Test.YtmbdlnimegdigaaBulI
import Derived.Test.YtmbdlnimegdigaaBulS
namespace Go.Proofs.Ytmbdlnimegdigaa
open Go.RowKit

theorem rowsV_of {w : World} {B : Nat} : ∀ {vs : List Value} {rs : List (List Int)}, vs.length = rs.length → (∀ (i : Nat) (r : List Int) (z : Value), rs[i]? = some r → vs[i]? = some z → RowV w B z r) → RowsV w B vs rs
  | [], [], _, _ => trivial
  | v :: vs, r :: rs, hl, h => ⟨h 0 r v rfl rfl, rowsV_of (by simpa using hl) fun i r' z hr hz => h (i + 1) r' z (by simpa using hr) (by simpa using hz)⟩
  | [], _ :: _, hl, _ => by cases hl
  | _ :: _, [], hl, _ => by cases hl
theorem RowsV.snoc {w : World} {B : Nat} : ∀ {vs : List Value} {rs : List (List Int)} {v : Value} {r : List Int}, RowsV w B vs rs → RowV w B v r → RowsV w B (vs ++ [v]) (rs ++ [r])
  | [], [], _, _, _, h => ⟨h, trivial⟩
  | _ :: _, _ :: _, _, _, h, h' => ⟨h.1, RowsV.snoc h.2 h'⟩
  | [], _ :: _, _, _, h, _ => h.elim
  | _ :: _, [], _, _, h, _ => h.elim
theorem RowsV.map_ {w w' : World} {B B' : Nat} (hf : ∀ v r, RowV w B v r → RowV w' B' v r) : ∀ {vs : List Value} {rs : List (List Int)}, RowsV w B vs rs → RowsV w' B' vs rs
  | [], [], _ => trivial
  | _ :: _, _ :: _, h => ⟨hf _ _ h.1, RowsV.map_ hf h.2⟩
  | [], _ :: _, h => h.elim
  | _ :: _, [], h => h.elim
theorem RowsV.one {w : World} {B : Nat} : ∀ {vs : List Value} {rs : List (List Int)}, RowsV w B vs rs → ∀ z ∈ vs, z.oneCell' = true
  | [], _, _, z, hz => by cases hz
  | v :: vs, r :: rs, h, z, hz => by
    rcases List.mem_cons.1 hz with rfl | hz
    · obtain ⟨a, c, rfl, _⟩ := h.1
      rfl
    · exact RowsV.one h.2 z hz
  | _ :: _, [], h, _, _ => h.elim

set_option maxRecDepth 100000 in
set_option maxHeartbeats 4000000 in
theorem rissue_any (A : Option Addr) (n c : Nat) (bs : List Bu) (b : Bu) (A0 : Option Addr) (n0 c0 : Nat) (w : World) (hr : Buls w w.heap.size A n bs) (hn : n ≤ 100) (hr0 : Ints w w.heap.size A0 n0 b.zs) (h01 : n0 ≤ c0) (h02 : c0 ≤ maxLen) :
    Calls Try.prog 15 #[.slice A n c, .agg #[.int .i64 b.ver, .int .i64 b.fr, .int .i64 b.ti, .int .i64 b.lo, .int .i64 b.hi, .slice A0 n0 c0, .int .i64 b.lev]] w (IssR (bs ++ [b]) w) := by
  have HL := Lib.hid hr.len
  obtain ⟨zl, hzl, _, hrd, hrow⟩ := hr
  have HZl := Lib.hid hzl
  have HRd := Lib.hid hrd
  have hrows : RowsV w w.heap.size (zl ++ [.slice A0 n0 c0]) (bs.map Bu.zs ++ [b.zs]) := by
    refine RowsV.snoc (rowsV_of (by rw [List.length_map, hzl, HL.out]) fun i r z hi hz => ?_) ?_
    · rw [List.getElem?_map] at hi
      cases hb : bs[i]? with
      | none => rw [hb] at hi; cases hi
      | some bb =>
        rw [hb] at hi
        injection hi with hi
        subst hi
        exact hrow i bb z hb hz
    · have h := hr0.ilen
      exact ⟨A0, c0, by rw [h], by rw [h]; exact h01, h02, by rw [h]; exact hr0⟩
  have HRw := Lib.hid hrows
  have HOne : Hid (∀ u ∈ flatB bs zl, u.oneCell' = true) := hide (flatB_one bs zl fun z hz => RowsV.one hrows z (by simp [hz]))
  obtain ⟨r, hrr⟩ : ∃ r, rightN (bs ++ [b]) = r := ⟨_, rfl⟩
  have HRR := Lib.hid hrr
  have hpost : ∀ e w', (Below w.heap.size w w' ∧ ((r ≠ 0 ∧ e = .returned (.tuple #[.slice none 0 0, .int .i64 r])) ∨ (r = 0 ∧ ∃ A n c, e = .returned (.tuple #[.slice A n c, .int .i64 0]) ∧ n ≤ c ∧ c ≤ maxLen ∧ Buls w' w'.heap.size A n (bs ++ [b])))) → IssR (bs ++ [b]) w e w' := fun e w' h => by
    unfold IssR
    rw [hrr]
    exact h
  have HPost := Lib.hid hpost
  clear hr0 hrr hpost hrows hrow hrd hzl h02
  have HCb : Hid (([.int .i64 b.ver, .int .i64 b.fr, .int .i64 b.ti, .int .i64 b.lo, .int .i64 b.hi, .slice A0 n0 c0, .int .i64 b.lev] : List Value) = b.cells (.slice A0 n0 c0)) := rfl
  generalize b.ver = ver at *
  generalize b.fr = fr at *
  generalize b.ti = ti at *
  generalize b.lo = lo at *
  generalize b.hi = hi at *
  generalize b.lev = lev at *
  go_enter Try.func15, Try.ntmps15
  go_wp2_with
    (first
     | (refine wpList_box_blk rfl 31 (.tmp 1) rfl #[.int .i64 ver, .int .i64 fr, .int .i64 ti, .int .i64 lo, .int .i64 hi, .slice A0 n0 c0, .int .i64 lev] rfl ?_
        intro wa hxa hba hsa
        have HXa := Lib.hid hxa
        have HBa := Lib.hid hba
        have hla : w.heap.size < wa.heap.size := hxa.lt
        have hsa' := hba.size
        clear hxa hba hsa)
     | (at_builtin
        refine wpList_app _ ei_bul rfl (.tmp 8) (.tmp 9) rfl wa.heap.size (.slice none 0 0) 0 [] rfl (World.ownsRow_nil _ _ _ _) w.heap.size A n c (flatB bs zl) rfl (HRd.out.below HBa.out) HOne.out (by simp only [maxLen]; omega) (by omega) (Nat.le_refl _) ?_
        intro v1 w1 hown1 hg1 hb1 hat1
        simp only [Nat.zero_add, List.nil_append] at hown1
        have HO1 := Lib.hid hown1
        have HB1 := Lib.hid (HBa.out.trans (hb1.mono HBa.out.size))
        have HXa1 := Lib.hid (HXa.out.below hb1 hla)
        have hs1 : wa.heap.size ≤ w1.heap.size := hb1.size
        clear hown1 hg1 hb1 hat1)
     | (refine wpList_load_g 31 (.tmp 3) rfl rfl w.heap.size rfl _ _ HXa1.out _ Try.underlying31 rfl (by kernel_rfl) ?_)
     | (at_builtin
        refine wpList_app_lit ei_bul rfl (.tmp 11) (.tmp 13) rfl wa.heap.size v1 n (flatB bs zl) rfl HO1.out 1 rfl rfl (by simp [Value.oneCell']) (by simp only [maxLen]; omega) (by omega) hs1 ?_
        intro v2 w2 hown2 hb2 hg2 hat2
        have HO2 : Hid (w2.ownsRow wa.heap.size 31 7 v2 (n + 1) (flatB (bs ++ [b]) (zl ++ [.slice A0 n0 c0]))) := by
          show World.ownsRow _ _ _ _ _ _ _
          rw [flatB_snoc _ _ (by rw [HL.out, HZl.out])]
          rw [← HCb.out]
          exact hown2
        have HB2 := Lib.hid (HB1.out.trans (hb2.mono HBa.out.size))
        obtain ⟨A3, c3, hv3, hc31, hc32, _⟩ := own_open HO2.out
        subst hv3
        have HBu : Hid (Buls w2 w2.heap.size A3 (n + 1) (bs ++ [b])) := by
          refine hide (Buls.of_own HO2.out (by simp [HZl.out]) (by simp [HL.out]) ?_)
          have h2 : RowsV w2 w2.heap.size (zl ++ [.slice A0 n0 c0]) (bs.map Bu.zs ++ [b.zs]) := HRw.out.map_ fun v r h => (h.below HB2.out).more HB2.out.size
          simpa using h2
        clear hown2 hb2 hg2 hat2))
  with_reducible refine (rright_any _ _ _ _ _ HBu.out).mono ?_
  rw [HRR.out]
  rintro e w4 ⟨rfl, hb4⟩
  have HB4 := Lib.hid (HB2.out.trans (hb4.mono HB2.out.size))
  have HBu4 := Lib.hid (HBu.out.now hb4)
  clear hb4
  by_cases h0 : r = 0
  · subst h0
    go_wp2_with fail
    go_ret2
    exact HPost.out _ _ ⟨HB4.out, .inr ⟨by first | exact trivial | rfl, _, _, _, rfl, hc31, hc32, HBu4.out⟩⟩
  · have d1 : (r != 0) = true := bne_iff_ne.2 h0
    have d2 : (r == 0) = false := beq_eq_false_iff_ne.2 h0
    have H0 := Lib.hid h0
    clear h0
    go_wp2_with fail
    go_ret2
    exact HPost.out _ _ ⟨HB4.out, .inl ⟨H0.out, rfl⟩⟩
end Go.Proofs.Ytmbdlnimegdigaa
