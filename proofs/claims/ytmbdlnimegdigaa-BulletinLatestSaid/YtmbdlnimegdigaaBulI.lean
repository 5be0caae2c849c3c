/-
  Copies of bulletins, Clone, copied, walked.
-/
import Derived.Test.YtmbdlnimegdigaaBulR
import Derived.Test.YtmbdlnimegdigaaMatOwn
namespace Go.Proofs.Ytmbdlnimegdigaa
open Go.RowKit

theorem ei_bul : EInfo Try.prog 22 31 7 72 := EInfo.mk' Try.underlying22 (z := .agg #[.int .i64 0, .int .i64 0, .int .i64 0, .int .i64 0, .int .i64 0, .slice none 0 0, .int .i64 0]) (by kernel_rfl) rfl (by omega)
abbrev flatB (bs : List Bu) (zs : List Value) : List Value := (List.zipWith Bu.cells bs zs).flatten
theorem flatB_snoc (bs : List Bu) (zs : List Value) (h : bs.length = zs.length) (b : Bu) (z : Value) : flatB (bs ++ [b]) (zs ++ [z]) = flatB bs zs ++ b.cells z := by
  unfold flatB
  rw [List.zipWith_append h, List.flatten_append]
  simp
theorem flatB_one (bs : List Bu) (zs : List Value) (h : ∀ z ∈ zs, z.oneCell' = true) : ∀ u ∈ flatB bs zs, u.oneCell' = true := by
  intro u hu
  obtain ⟨r, hr, hu⟩ := List.mem_flatten.1 hu
  obtain ⟨i, hi, rfl⟩ := List.getElem_of_mem hr
  rw [List.getElem_zipWith] at hu
  simp only [Bu.cells, List.mem_cons, List.not_mem_nil, or_false] at hu
  rcases hu with rfl | rfl | rfl | rfl | rfl | rfl | rfl <;> first | rfl | exact h _ (List.getElem_mem _)
theorem Buls.of_own {w : World} {base : Nat} {A : Option Addr} {n c : Nat} {bs : List Bu} {zs : List Value} (ho : w.ownsRow base 31 7 (.slice A n c) n (flatB bs zs)) (hz : zs.length = n) (hb : bs.length = n) (hr : RowsV w w.heap.size zs (bs.map Bu.zs)) : Buls w w.heap.size A n bs := by
  refine ⟨zs, hz, hb, Reads.of_own ho, fun i b z hi hz' => ?_⟩
  obtain ⟨_, h⟩ := hr.at_
  obtain ⟨v, hv, hrow⟩ := h i b.zs (by simp [hi])
  rw [hz'] at hv
  injection hv with hv
  rw [hv]
  exact hrow

set_option maxHeartbeats 400000 in
theorem clone_i (A : Option Addr) (n c B : Nat) (l : List Int) (w : World) (hr : Ints w B A n l) (hn : n ≤ 100000000) (hB : B ≤ w.heap.size) :
    Calls Try.prog 35 #[.slice A n c] w fun e w' => ∃ v, e = .returned v ∧ OwnI w' w.heap.size v l ∧ Below w.heap.size w w' := by
  have HR := Lib.hid hr
  have HL := Lib.hid hr.ilen
  clear hr
  have q : ∀ (w : World) (a : Option Addr) (n c n' c' : Nat), (binOp .eql 29 (.slice a n c) (.slice none n' c')).run Try.prog w = .ok (.bool a.isNone) w := fun w a n c n' c' => Lib.run_eql_slice_nil w _ _ a n c n' c' Try.underlying29
  cases A with
  | none =>
    have hn0 : n = 0 := by
      rcases Nat.eq_zero_or_pos n with h | h
      · exact h
      · obtain ⟨ad, h1, _⟩ := HR.out.2 h
        cases h1
    subst hn0
    go_enter Try.func35, Try.ntmps35
    go_wp2
    go_ret
    refine ⟨_, rfl, ?_, Below.refl _ _⟩
    rw [List.eq_nil_of_length_eq_zero HL.out]
    exact OwnI.nil _ _
  | some ad =>
    go_enter Try.func35, Try.ntmps35
    go_wp2_with
      (at_builtin
       refine wpList_app _ ei_ints rfl (.tmp 5) (.tmp 6) rfl w.heap.size (.slice (some ⟨w.heap.size, 0, none⟩) 0 0) 0 [] rfl (World.ownsRow_lit w #[] 0 (Nat.le_refl _) (by simp [maxLen]) rfl) B (some ad) n c (l.map (Value.int .i64)) rfl (HR.out.alloc hB _) (oneCell_ints l) (by simp only [maxLen]; omega) (by omega) (by simp) ?_
       intro v2 w2 hown2 _ hbw2 _
       have hbw : Below w.heap.size w w2 := ((Below.refl _ _).alloc (Nat.le_refl _) _).trans hbw2
       simp only [Nat.zero_add, List.nil_append] at hown2
       have HO := Lib.hid (OwnI.mk' hown2 HL.out.symm rfl)
       clear hown2 hbw2)
    go_ret
    exact ⟨_, rfl, HO.out, hbw⟩

set_option maxRecDepth 100000 in
set_option maxHeartbeats 2000000 in
theorem copied_any (b : Bu) (A : Option Addr) (n c : Nat) (w : World) (hr : Ints w w.heap.size A n b.zs) (hn : n ≤ 100000) :
    Calls Try.prog 28 #[.agg #[.int .i64 b.ver, .int .i64 b.fr, .int .i64 b.ti, .int .i64 b.lo, .int .i64 b.hi, .slice A n c, .int .i64 b.lev]] w
      fun e w' => ∃ z, e = .returned (.agg #[.int .i64 b.ver, .int .i64 b.fr, .int .i64 b.ti, .int .i64 b.lo, .int .i64 b.hi, z, .int .i64 b.lev]) ∧ OwnI w' w.heap.size z b.zs ∧ Below w.heap.size w w' := by
  obtain ⟨ver, fr, ti, lo, hi, lev, zs⟩ := b
  have HR := Lib.hid hr
  clear hr
  go_enter Try.func28, Try.ntmps28
  go_wp2_with fail
  have HBw0 := (Blk.new w 31 #[.int .i64 ver, .int .i64 fr, .int .i64 ti, .int .i64 lo, .int .i64 hi, .slice A n c, .int .i64 lev])
  have HLw0 := (below_new w (.cells #[.int .i64 ver, .int .i64 fr, .int .i64 ti, .int .i64 lo, .int .i64 hi, .slice A n c, .int .i64 lev] 31))
  have hsw0 : (w.alloc (.cells #[.int .i64 ver, .int .i64 fr, .int .i64 ti, .int .i64 lo, .int .i64 hi, .slice A n c, .int .i64 lev] 31)).heap.size = w.heap.size + 1 := by simp
  generalize w.alloc (.cells #[.int .i64 ver, .int .i64 fr, .int .i64 ti, .int .i64 lo, .int .i64 hi, .slice A n c, .int .i64 lev] 31) = w0 at HBw0 HLw0 hsw0 ⊢
  replace HBw0 := Lib.hid HBw0
  replace HLw0 := Lib.hid HLw0
  have hlw0 : w.heap.size < w0.heap.size := by omega
  replace hsw0 := Lib.hid hsw0
  have HBwb := (Blk.new w0 31 #[.int .i64 0, .int .i64 0, .int .i64 0, .int .i64 0, .int .i64 0, .slice none 0 0, .int .i64 0])
  have HLwb := (below_new w0 (.cells #[.int .i64 0, .int .i64 0, .int .i64 0, .int .i64 0, .int .i64 0, .slice none 0 0, .int .i64 0] 31))
  have hswb : (w0.alloc (.cells #[.int .i64 0, .int .i64 0, .int .i64 0, .int .i64 0, .int .i64 0, .slice none 0 0, .int .i64 0] 31)).heap.size = w0.heap.size + 1 := by simp
  generalize w0.alloc (.cells #[.int .i64 0, .int .i64 0, .int .i64 0, .int .i64 0, .int .i64 0, .slice none 0 0, .int .i64 0] 31) = wb at HBwb HLwb hswb ⊢
  replace HBwb := Lib.hid HBwb
  replace HLwb := Lib.hid HLwb
  have hlwb : w0.heap.size < wb.heap.size := by omega
  replace hswb := Lib.hid hswb
  have HXb := Lib.hid (HBw0.out.below HLwb.out hlw0)
  have HYb : Hid (Blk wb (w.heap.size + 1) 31 #[.int .i64 0, .int .i64 0, .int .i64 0, .int .i64 0, .int .i64 0, .slice none 0 0, .int .i64 0]) := by rw [← hsw0.out]; exact HBwb.out
  have HBb := Lib.hid (HLw0.out.trans (HLwb.out.mono HLw0.out.size))
  have HRb := Lib.hid (HR.out.now HBb.out)
  have hl1 : w.heap.size < wb.heap.size := by omega
  have hl2 : w.heap.size + 1 < wb.heap.size := by have := hsw0.out; omega
  clear HBw0 HBwb HLw0 HLwb hsw0 hswb hlw0 hlwb
  with_reducible refine (clone_i _ _ _ _ zs _ HRb.out (by omega) (Nat.le_refl _)).mono ?_
  rintro e w2 ⟨z, rfl, hown, hb2⟩
  have HB2 := Lib.hid (HBb.out.trans (hb2.mono HBb.out.size))
  have HX2 := Lib.hid (HXb.out.below hb2 hl1)
  have HY2 := Lib.hid (HYb.out.below hb2 hl2)
  have hz1 : z.oneCell' = true := by obtain ⟨A', c', rfl, _⟩ := hown.open_; rfl
  have hzc : z.cells = #[z] := by obtain ⟨A', c', rfl, _⟩ := hown.open_; rfl
  have hzb : ∀ g, z.ownBlock = some g → wb.heap.size ≤ g := fun g hg => (World.ownsRow.lt hown g hg).1
  have HO2 := Lib.hid hown
  have hs2 := hb2.size
  clear hb2 hown
  go_wp2_with
    (first
     | (refine wpList_store_field 29 (.tmp 6) (.tmp 5) rfl rfl w.heap.size 5 z rfl rfl _ _ HX2.out (by kernel_rfl) (by simp) hz1 hzc ?_
        intro w3 hx3 hon3
        have HX3 : Hid (Blk w3 w.heap.size 31 #[.int .i64 ver, .int .i64 fr, .int .i64 ti, .int .i64 lo, .int .i64 hi, z, .int .i64 lev]) := hide hx3
        have HB3 := Lib.hid (hon3.below HB2.out (Nat.le_refl _))
        have HY3 := Lib.hid (hon3.blk HY2.out (by omega))
        have HO3 : Hid (OwnI w3 wb.heap.size z zs) := hide (hon3.own HO2.out (fun h => by have := hzb _ h; omega))
        have hs3 := hon3.size
        clear hx3 hon3)
     | (refine wpList_load_g 31 (.tmp 1) rfl rfl w.heap.size rfl _ _ HX3.out _ Try.underlying31 rfl (by kernel_rfl) ?_)
     | (refine wpList_store_blk rfl 31 (.tmp 2) (.tmp 7) rfl (w.heap.size + 1) #[.int .i64 ver, .int .i64 fr, .int .i64 ti, .int .i64 lo, .int .i64 hi, z, .int .i64 lev] rfl rfl _ _ HY3.out (by kernel_rfl) rfl (by simp [hz1, show ∀ (x : Int), (Value.int .i64 x).oneCell' = true from fun _ => rfl]) ?_
        intro w4 hx4 hon4
        have HX4 := Lib.hid hx4
        have HB4 := Lib.hid (hon4.below HB3.out (by omega))
        have HO4 : Hid (OwnI w4 wb.heap.size z zs) := hide (hon4.own HO3.out (fun h => by have := hzb _ h; omega))
        clear hx4 hon4))
  refine bodyPost_ret (results_cell_row rfl _ _ (w.heap.size + 1) 31 _ (0, 0) _ rfl HX4.out Try.underlying31 rfl (by kernel_rfl)) rfl ?_
  exact ⟨z, rfl, HO4.out.mono (by omega), HB4.out⟩

/-- what Issue returns: the error, and without one the bulletins -/
def IssR (l : List Bu) (w : World) (e : Ending) (w' : World) : Prop :=
  Below w.heap.size w w' ∧ ((rightN l ≠ 0 ∧ e = .returned (.tuple #[.slice none 0 0, .int .i64 (rightN l)])) ∨ (rightN l = 0 ∧ ∃ A n c, e = .returned (.tuple #[.slice A n c, .int .i64 0]) ∧ n ≤ c ∧ c ≤ maxLen ∧ Buls w' w'.heap.size A n l))

set_option maxRecDepth 100000 in
set_option maxHeartbeats 4000000 in
theorem issue_any (A : Option Addr) (n c : Nat) (bs : List Bu) (b : Bu) (A0 : Option Addr) (n0 c0 : Nat) (w : World) (hr : Buls w w.heap.size A n bs) (hn : n ≤ 100) (hz : ∀ b ∈ bs, b.zs.length ≤ 1000) (hr0 : Ints w w.heap.size A0 n0 b.zs) (hn0 : n0 ≤ 1000) :
    Calls Try.prog 14 #[.slice A n c, .agg #[.int .i64 b.ver, .int .i64 b.fr, .int .i64 b.ti, .int .i64 b.lo, .int .i64 b.hi, .slice A0 n0 c0, .int .i64 b.lev]] w (IssR (bs ++ [b]) w) := by
  have HR := Lib.hid hr
  have HL := Lib.hid hr.len
  have HR0 := Lib.hid hr0
  have HZs := Lib.hid hz
  obtain ⟨r, hrr⟩ : ∃ r, rightN (bs ++ [b]) = r := ⟨_, rfl⟩
  have HRR := Lib.hid hrr
  have hpost : ∀ e w', (Below w.heap.size w w' ∧ ((r ≠ 0 ∧ e = .returned (.tuple #[.slice none 0 0, .int .i64 r])) ∨ (r = 0 ∧ ∃ A n c, e = .returned (.tuple #[.slice A n c, .int .i64 0]) ∧ n ≤ c ∧ c ≤ maxLen ∧ Buls w' w'.heap.size A n (bs ++ [b])))) → IssR (bs ++ [b]) w e w' := fun e w' h => by
    unfold IssR
    rw [hrr]
    exact h
  have HPost := Lib.hid hpost
  clear hr hr0 hz hrr hpost
  have HC : Hid (∀ W : World, Ints W W.heap.size A0 n0 b.zs → Calls Try.prog 28 #[.agg #[.int .i64 b.ver, .int .i64 b.fr, .int .i64 b.ti, .int .i64 b.lo, .int .i64 b.hi, .slice A0 n0 c0, .int .i64 b.lev]] W
      fun e w' => ∃ z, e = .returned (.agg #[.int .i64 b.ver, .int .i64 b.fr, .int .i64 b.ti, .int .i64 b.lo, .int .i64 b.hi, z, .int .i64 b.lev]) ∧ OwnI w' W.heap.size z b.zs ∧ Below W.heap.size W w') := fun W hW => copied_any b A0 n0 c0 W hW (by omega)
  have HCb : Hid (∀ z : Value, ([.int .i64 b.ver, .int .i64 b.fr, .int .i64 b.ti, .int .i64 b.lo, .int .i64 b.hi, z, .int .i64 b.lev] : List Value) = b.cells z) := fun z => rfl
  generalize b.ver = ver at *
  generalize b.fr = fr at *
  generalize b.ti = ti at *
  generalize b.lo = lo at *
  generalize b.hi = hi at *
  generalize b.lev = lev at *
  obtain ⟨i0, hi0, hz0, hz1, hz2⟩ := info_parts (show (Try.prog.info? 31).map (fun i => (i.zero, i.size, i.bytes)) = some (some (.agg #[.int .i64 0, .int .i64 0, .int .i64 0, .int .i64 0, .int .i64 0, .slice none 0 0, .int .i64 0]), 7, 72) by kernel_rfl)
  have HI := Lib.hid (And.intro hi0 (And.intro hz0 (And.intro hz1 hz2)))
  clear hi0 hz0 hz1 hz2
  go_enter Try.func14, Try.ntmps14
  go_wp2_with
    (first
     | (refine wpList_box_blk rfl 31 (.tmp 1) rfl #[.int .i64 ver, .int .i64 fr, .int .i64 ti, .int .i64 lo, .int .i64 hi, .slice A0 n0 c0, .int .i64 lev] rfl ?_
        intro wa hxa hba hsa
        have HXa := Lib.hid hxa
        have HBa := Lib.hid hba
        have hla : w.heap.size < wa.heap.size := hxa.lt
        clear hxa hba hsa)
     | (at_make
        refine wpList_make_own _ rfl (.const (.int .i64 0)) (.tmp 12) 22 rfl wa.heap.size 31 i0 (.agg #[.int .i64 0, .int .i64 0, .int .i64 0, .int .i64 0, .int .i64 0, .slice none 0 0, .int .i64 0]) 7 Try.underlying22 HI.out.1 HI.out.2.1 HI.out.2.2.1 .i64 .i64 ((n : Int) + 1) (n + 1) rfl rfl (by simp) (by rw [HI.out.2.2.2]; omega) (by simp only [maxLen]; omega) (Nat.le_refl _) ?_
        intro wb hownb hgb
        have hbb : Below wa.heap.size wa wb := (Below.refl _ _).grown hgb (Nat.le_refl _) (fun k hk => by cases hk)
        have HOb := Lib.hid hownb
        have HBbb := Lib.hid hbb
        have HBb := Lib.hid (HBa.out.trans (hbb.mono HBa.out.size))
        have HXb := Lib.hid (HXa.out.below hbb hla)
        have hlb : wa.heap.size ≤ wb.heap.size := hbb.size
        clear hownb hgb hbb))
  go_loopw [6, 16] (fun v i wr => ∃ (k : Nat) (zl : List Value), k ≤ n ∧ i = .int .i64 k ∧ zl.length = k ∧ wr.ownsRow wa.heap.size 31 7 v k (flatB (bs.take k) zl) ∧ OwnR wr wa.heap.size 3 zl ((bs.take k).map Bu.zs) ∧ wa.heap.size ≤ wr.heap.size ∧ Below wa.heap.size wa wr) (fun _ i _ => n - (intOf i).toNat)
  case atStart => exact ⟨0, [], by omega, rfl, rfl, HOb.out, trivial, hlb, HBbb.out⟩
  case round =>
    obtain ⟨k, zl, hk, rfl, hzl, hown, hrows, hsz, hbr⟩ := hrel
    obtain ⟨wo, rfl⟩ : ∃ wo : World, wo = wr := ⟨_, rfl⟩
    obtain ⟨Av, cv, rfl, hcv1, hcv2, _⟩ := own_open hown
    have HB := Lib.hid (HBa.out.trans (hbr.mono HBa.out.size))
    have HBa1 := Lib.hid hbr
    have HO := Lib.hid hown
    have HRw := Lib.hid hrows
    have HZl := Lib.hid hzl
    have hsz0 : w.heap.size ≤ wo.heap.size := by omega
    clear hbr hown hrows hzl
    have HTl : Hid ((bs.take k).length = k) := by show _ = _; rw [List.length_take, HL.out]; omega
    by_cases hlt : k < n
    · have HMem : Hid ((bs.getD k ⟨0, 0, 0, 0, 0, 0, []⟩).zs.length ≤ 1000) := HZs.out _ (by rw [show bs.getD k ⟨0, 0, 0, 0, 0, 0, []⟩ = bs[k]'(by rw [HL.out]; exact hlt) by simp [List.getElem?_eq_getElem (show k < bs.length by rw [HL.out]; exact hlt)]]; exact List.getElem_mem _)
      obtain ⟨ad, z0, rfl, hab, hcs, hrow⟩ := (HR.out.below HB.out).at_ hlt
      have HTk := Lib.hid (bu_take bs k (by rw [HL.out]; exact hlt))
      generalize bs.getD k ⟨0, 0, 0, 0, 0, 0, []⟩ = bb at *
      obtain ⟨A2, c2, rfl, hz1, hz2, hzr⟩ := hrow
      obtain ⟨n2, hn2⟩ : ∃ n2, bb.zs.length = n2 := ⟨_, rfl⟩
      rw [hn2] at hz1 hzr hcs HMem
      have hm2 : n2 ≤ 1000 := HMem.out
      have HCs := Lib.hid hcs
      have HZr := Lib.hid hzr
      have HCk : Hid (∀ W : World, Ints W W.heap.size A2 n2 bb.zs → Calls Try.prog 28 #[.agg #[.int .i64 bb.ver, .int .i64 bb.fr, .int .i64 bb.ti, .int .i64 bb.lo, .int .i64 bb.hi, .slice A2 n2 c2, .int .i64 bb.lev]] W
          fun e w' => ∃ z, e = .returned (.agg #[.int .i64 bb.ver, .int .i64 bb.fr, .int .i64 bb.ti, .int .i64 bb.lo, .int .i64 bb.hi, z, .int .i64 bb.lev]) ∧ OwnI w' W.heap.size z bb.zs ∧ Below W.heap.size W w') := fun W hW => copied_any bb A2 n2 c2 W hW (by omega)
      have HCc : Hid (∀ z : Value, ([.int .i64 bb.ver, .int .i64 bb.fr, .int .i64 bb.ti, .int .i64 bb.lo, .int .i64 bb.hi, z, .int .i64 bb.lev] : List Value) = bb.cells z) := fun z => rfl
      have HC7 : Hid (∀ j u, ([.int .i64 bb.ver, .int .i64 bb.fr, .int .i64 bb.ti, .int .i64 bb.lo, .int .i64 bb.hi, .slice A2 n2 c2, .int .i64 bb.lev] : List Value)[j]? = some u → wo.cell? ((ad.add (k * 7)).add j) = some u) := HCs.out
      have HTkm : Hid ((bs.take (k + 1)).map Bu.zs = (bs.take k).map Bu.zs ++ [bb.zs]) := by show _ = _; rw [HTk.out]; simp
      clear hcs hzr hn2 HMem
      generalize bb.ver = vere at *
      generalize bb.fr = fre at *
      generalize bb.ti = tie at *
      generalize bb.lo = loe at *
      generalize bb.hi = hie at *
      generalize bb.lev = leve at *
      go_wp2_with
        (first
         | (refine wpList_load_at 31 (.tmp 18) rfl rfl (ad.add (k * 7)) rfl [.int .i64 vere, .int .i64 fre, .int .i64 tie, .int .i64 loe, .int .i64 hie, .slice A2 n2 c2, .int .i64 leve] HC7.out _ Try.underlying31 rfl (by kernel_rfl) ?_)
         | (refine wpList_store_blk rfl 31 (.tmp 8) (.tmp 19) rfl wo.heap.size #[.int .i64 vere, .int .i64 fre, .int .i64 tie, .int .i64 loe, .int .i64 hie, .slice A2 n2 c2, .int .i64 leve] rfl rfl _ _ (Blk.new wo 31 #[.int .i64 0, .int .i64 0, .int .i64 0, .int .i64 0, .int .i64 0, .slice none 0 0, .int .i64 0]) (by kernel_rfl) rfl (by simp [Value.oneCell']) ?_
            intro w1 hx1 hon1
            have hb1 := hon1.below (below_new wo (.cells #[.int .i64 0, .int .i64 0, .int .i64 0, .int .i64 0, .int .i64 0, .slice none 0 0, .int .i64 0] 31)) (Nat.le_refl _)
            have HB1 := Lib.hid hb1
            have HX1 := Lib.hid hx1
            have hl1 : wo.heap.size < w1.heap.size := hx1.lt
            clear hx1 hon1 hb1)
         | (refine wpList_load_g 31 (.tmp 8) rfl rfl wo.heap.size rfl _ _ HX1.out _ Try.underlying31 rfl (by kernel_rfl) ?_))
      with_reducible refine (HCk.out _ ((HZr.out.below (HB1.out.mono hsz0)).more (by omega))).mono ?_
      rintro e w2 ⟨z, rfl, hoz, hb2⟩
      have hb12 := HB1.out.trans (hb2.mono HB1.out.size)
      have hone : z.oneCell' = true := by obtain ⟨A', c', rfl, _⟩ := hoz.open_; rfl
      have HO2 := Lib.hid (own_below HO.out hb12 (Nat.le_refl _))
      have HRw2 : Hid (OwnR w2 wa.heap.size 3 (zl ++ [z]) ((bs.take k).map Bu.zs ++ [bb.zs])) := hide ((HRw.out.below hb12 (Nat.le_refl _)).snoc (hoz.mono (by omega)))
      have HW2 := Lib.hid (HBa1.out.trans (hb12.mono hsz))
      have hs2 : wa.heap.size ≤ w2.heap.size := Nat.le_trans hsz hb12.size
      clear hoz hb2 hb12
      go_wp2_with
        (at_builtin
         refine wpList_app_lit ei_bul rfl (.tmp 20) (.tmp 23) rfl wa.heap.size (.slice Av k cv) k (flatB (bs.take k) zl) rfl HO2.out 1 rfl rfl (by simp [hone, show ∀ (x : Int), (Value.int .i64 x).oneCell' = true from fun _ => rfl]) (by simp only [maxLen]; omega) (by omega) hs2 ?_
         intro v3 w3 hown3 hb3 hg3 hat3
         have HO3 : Hid (w3.ownsRow wa.heap.size 31 7 v3 (k + 1) (flatB ((bs.take k) ++ [bb]) (zl ++ [z]))) := by
           show World.ownsRow _ _ _ _ _ _ _
           rw [flatB_snoc _ _ (by rw [HTl.out, HZl.out])]
           rw [← HCc.out] 
           exact hown3
         have HW3 := Lib.hid (HW2.out.trans hb3)
         have HRw3 := Lib.hid ((HRw2.out.alloc _).other (HO2.out.alloc _) (by decide) hg3)
         have hs3 : wa.heap.size ≤ w3.heap.size := Nat.le_trans hs2 hb3.size
         clear hown3 hb3 hg3 hat3)
      go_roundw
      case rel =>
        refine ⟨k + 1, zl ++ [z], by omega, by go_num, by simp [HZl.out], ?_, ?_, hs3, HW3.out⟩
        · rw [HTk.out]
          exact HO3.out
        · rw [HTkm.out]
          exact HRw3.out
      case measure => simp [intOf]; omega
    · obtain rfl : k = n := by omega
      have HTf : Hid (bs.take k = bs) := by show _ = _; exact List.take_of_length_le (by rw [HL.out]; exact Nat.le_refl _)
      go_wp2_with
        (refine wpList_load_g 31 (.tmp 3) rfl rfl w.heap.size rfl _ _ (HXa.out.below HBa1.out hla) _ Try.underlying31 rfl (by kernel_rfl) ?_)
      with_reducible refine (HC.out _ (HR0.out.now HB.out)).mono ?_
      rintro e w2 ⟨z, rfl, hoz, hb2⟩
      have hone : z.oneCell' = true := by obtain ⟨A', c', rfl, _⟩ := hoz.open_; rfl
      have HO2 := Lib.hid (own_below HO.out hb2 (Nat.le_refl _))
      have HRw2 : Hid (OwnR w2 wa.heap.size 3 (zl ++ [z]) ((bs.take k).map Bu.zs ++ [b.zs])) := hide ((HRw.out.below hb2 (Nat.le_refl _)).snoc (hoz.mono (by omega)))
      have HW2 := Lib.hid (HBa1.out.trans (hb2.mono hsz))
      have hs2 : wa.heap.size ≤ w2.heap.size := Nat.le_trans hsz hb2.size
      clear hoz hb2
      go_wp2_with
        (at_builtin
         refine wpList_app_lit ei_bul rfl (.tmp 26) (.tmp 29) rfl wa.heap.size (.slice Av k cv) k (flatB (bs.take k) zl) rfl HO2.out 1 rfl rfl (by simp [hone, show ∀ (x : Int), (Value.int .i64 x).oneCell' = true from fun _ => rfl]) (by simp only [maxLen]; omega) (by omega) hs2 ?_
         intro v3 w3 hown3 hb3 hg3 hat3
         have HO3 : Hid (w3.ownsRow wa.heap.size 31 7 v3 (k + 1) (flatB ((bs.take k) ++ [b]) (zl ++ [z]))) := by
           show World.ownsRow _ _ _ _ _ _ _
           rw [flatB_snoc _ _ (by rw [HTl.out, HZl.out])]
           rw [← HCb.out] 
           exact hown3
         have HW3 := Lib.hid (HW2.out.trans hb3)
         have HRw3 := Lib.hid ((HRw2.out.alloc _).other (HO2.out.alloc _) (by decide) hg3)
         have hs3 : wa.heap.size ≤ w3.heap.size := Nat.le_trans hs2 hb3.size
         clear hown3 hb3 hg3 hat3)
      obtain ⟨A3, c3, hv3, hc31, hc32, _⟩ := own_open HO3.out
      subst hv3
      have HBu : Hid (Buls w3 w3.heap.size A3 (k + 1) (bs ++ [b])) := by
        have h := HO3.out
        rw [HTf.out] at h
        refine hide (Buls.of_own h (by simp [HZl.out]) (by simp [HL.out]) ?_)
        have h2 := HRw3.out.rowsV
        rw [HTf.out] at h2
        simpa using h2
      have HB3 := Lib.hid (HBa.out.trans (HW3.out.mono HBa.out.size))
      with_reducible refine (right_any _ _ _ _ _ HBu.out).mono ?_
      rw [HRR.out]
      rintro e w4 ⟨rfl, hb4⟩
      have HB4 := Lib.hid (HB3.out.trans (hb4.mono HB3.out.size))
      have HBu4 := Lib.hid (HBu.out.now hb4)
      clear hb4
      by_cases h0 : r = 0
      · subst h0
        go_wp2_with fail
        go_ret2
        exact HPost.out _ _ ⟨HB4.out, .inr ⟨by first | exact trivial | rfl, _, _, _, rfl, hc31, hc32, HBu4.out⟩⟩
      · have d1 : (r != 0) = true := bne_iff_ne.2 h0
        have d2 : (r == 0) = false := beq_eq_false_iff_ne.2 h0
        have H0 := Lib.hid h0
        clear h0
        go_wp2_with fail
        go_ret2
        exact HPost.out _ _ ⟨HB4.out, .inl ⟨H0.out, rfl⟩⟩
end Go.Proofs.Ytmbdlnimegdigaa
