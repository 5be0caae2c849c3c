/-
  flow.back, called with each of the two closures of Find, walked.
-/
import Derived.Test.YtihmboibpjfohaaCenJ
import Derived.Test.YtihmboibpjfohaaMatOwn
import Derived.StillTailTactics
namespace Go.Proofs.Ytihmboibpjfohaa
open Go.RowKit

/-- the nodes on the path back from t -/
def chainN (es : List Ed) (g : Int → Option Mv) : Nat → Int → Int
  | 0, t => t
  | k + 1, t => match g (chainN es g k t) with
    | some m => mvFrom es m
    | none => chainN es g k t
theorem chain_next {es : List Ed} {g : Int → Option Mv} {k : Nat} {t : Int} {m : Mv} (h : g (chainN es g k t) = some m) : chainN es g (k + 1) t = mvFrom es m := by
  rw [chainN, h]
def BackR (es : List Ed) (g : Int → Option Mv) (s t : Int) (gX : Nat) (J : Nat → World → Prop) (w : World) (e : Ending) (w' : World) : Prop :=
  e = .returned (.tuple #[]) ∧ ∃ K, chainN es g K t = s ∧ (∀ k, k < K → chainN es g k t ≠ s) ∧ J K w' ∧ w.grownBy w' (some gX)
theorem SrI.find_ {es : List Ed} {f : List Int} {s : Int} {g : Int → Option Mv} {seen : List Int} (h : SrI es f s g seen) {j : Nat} (hj : j < seen.length) (hs : seen.getD j 0 ≠ s) : ∃ m i, i < j ∧ g (seen.getD j 0) = some m ∧ m.edge < es.length ∧ mvTo es m = seen.getD j 0 ∧ mvFrom es m = seen.getD i 0 ∧ 0 < roomN es f m := by
  refine h.mv j ?_ hj
  rcases Nat.eq_zero_or_pos j with h0 | h0
  · subst h0; exact absurd h.head hs
  · exact h0
theorem mem_getD {l : List Int} {x : Int} (h : x ∈ l) : ∃ j, j < l.length ∧ l.getD j 0 = x := by
  obtain ⟨j, hj, rfl⟩ := List.mem_iff_getElem.1 h
  exact ⟨j, hj, by simp [List.getElem?_eq_getElem hj]⟩
theorem grown_trans {w w1 w2 : World} {g : Nat} (h : w.grownBy w1 (some g)) (k : w1.grownBy w2 (some g)) : w.grownBy w2 (some g) :=
  ⟨k.os.trans h.os, k.tape.trans h.tape, k.output.trans h.output, Nat.le_trans h.size k.size, fun i hi hne => (k.block i (Nat.lt_of_lt_of_le hi h.size) hne).trans (h.block i hi hne)⟩

set_option maxRecDepth 100000 in
theorem push_any (gF n cap g1 g3 base : Nat) (f : List Int) (m : Mv) (more : Int) (w : World) (hf : OwnG 3 w base gF n cap f) (hcap : cap ≤ maxLen) (hn : n ≤ cap) (hm : m.edge < n) (h1 : Blk w g1 3 #[.int .i64 more]) (h3 : Blk w g3 42 #[.slice (some ⟨gF, 0, none⟩) n cap])
    (hb1 : -1000000 ≤ more ∧ more ≤ 1000000) (hbf : -1000000 ≤ f.getD m.edge 0 ∧ f.getD m.edge 0 ≤ 1000000) (h1F : g1 ≠ gF) :
    Calls Try.prog 60 #[enM m, .pointer (some ⟨g3, 0, none⟩), .pointer (some ⟨g1, 0, none⟩)] w fun e w' => e = .returned (.tuple #[]) ∧ OwnG 3 w' base gF n cap (pushM f more m) ∧ w.grownBy w' (some gF) := by
  obtain ⟨ke, fw⟩ := m
  simp only at hm hbf
  have HF := Lib.hid hf
  have H1 := Lib.hid h1
  have H3 := Lib.hid h3
  have HP : Hid (pushM f more ⟨ke, fw⟩ = f.set ke (f.getD ke 0 + if fw = true then more else -more)) := hide rfl
  generalize pushM f more ⟨ke, fw⟩ = pf at *
  have hx := OwnG.cell hf hm
  obtain ⟨x, hxe⟩ : ∃ x, f.getD ke 0 = x := ⟨_, rfl⟩
  rw [hxe] at HP hx hbf
  unfold maxLen at hcap
  clear hf h1 h3 hxe
  show Calls Try.prog 60 #[.agg #[.int .i64 (ke : Int), .bool fw], .pointer (some ⟨g3, 0, none⟩), .pointer (some ⟨g1, 0, none⟩)] w _
  cases fw with
  | true =>
    go_enter Try.func60, Try.ntmps60
    go_upto_region 1 with (fail)
    have HBw0 := (Blk.new w 85 #[.int .i64 (ke : Int), .bool true])
    have HLw0 := (below_new w (.cells #[.int .i64 (ke : Int), .bool true] 85))
    have hsw0 : (w.alloc (.cells #[.int .i64 (ke : Int), .bool true] 85)).heap.size = w.heap.size + 1 := by simp
    generalize w.alloc (.cells #[.int .i64 (ke : Int), .bool true] 85) = w0 at HBw0 HLw0 hsw0 ⊢
    replace HBw0 := Lib.hid HBw0
    replace HLw0 := Lib.hid HLw0
    have hlw0 : w.heap.size < w0.heap.size := by omega
    replace hsw0 := Lib.hid hsw0
    have c3 : w0.cell? ⟨g3, 0, none⟩ = some (.slice (some ⟨gF, 0, none⟩) n cap) := (H3.out.below HLw0.out H3.out.lt).cell 0
    have c1 : w0.cell? ⟨g1, 0, none⟩ = some (.int .i64 more) := (H1.out.below HLw0.out H1.out.lt).cell 0
    have cx : w0.cell? ⟨gF, ke, none⟩ = some (.int .i64 x) := (HLw0.out.cell (p := ⟨gF, ke, none⟩) (World.block_lt_of_cell? _ _ hx)).trans hx
    have z0 : w0.cell? ⟨w.heap.size, 0, none⟩ = some (.int .i64 (ke : Int)) := HBw0.out.cell 0
    have z1 : w0.cell? ⟨w.heap.size, 1, none⟩ = some (.bool true) := HBw0.out.cell 1
    have HF0 : Hid (OwnG 3 w0 base gF n cap f) := hide (own_below HF.out HLw0.out (Nat.le_refl _))
    have hke : (ke : Int) < (n : Int) := by omega
    have hwr : IntKind.i64.wrap (x + more) = x + more := IntWalk.i64_in _ (by omega)
    have hwk : IntKind.i64.wrap (ke : Int) = (ke : Int) := IntWalk.i64_in _ (by omega)
    have HFin : Hid (∀ w3 : World, w3.ownsRow base 3 1 (.slice (some ⟨gF, 0, none⟩) n cap) n ((f.map (Value.int .i64)).set ke (.int .i64 (x + more))) → Only gF w0.drew w3 → OwnG 3 w3 base gF n cap pf ∧ w.grownBy w3 (some gF)) := fun w3 ho hon => ⟨by rw [HP.out, if_pos rfl]; exact OwnG.set_ ho, grown_step (grown_below HLw0.out.drew) hon⟩
    clear hx
    go_wp2_with fail
    go_still_tail 8, (by kernel_rfl)
    change wpList _ _ _ _ _ w0.drew
    have HF1 := Lib.hid (show OwnG 3 w0.drew base gF n cap f from own_below HF0.out (Below.refl _ _).drew (Nat.le_refl _))
    clear hwr hwk
    go_wp2_with (refine wpList_store_own 3 (.tmp 13) (.tmp 12) rfl rfl HF1.out ke hm (.int .i64 (x + more)) rfl rfl (by kernel_rfl) rfl rfl ?_
                 intro w3 hx3 hon3
                 have HW3 := Lib.hid (HFin.out w3 hx3 hon3)
                 clear hx3 hon3)
    go_end0
    exact ⟨rfl, HW3.out.1, HW3.out.2⟩
  | false =>
    go_enter Try.func60, Try.ntmps60
    go_upto_region 1 with (fail)
    have HBw0 := (Blk.new w 85 #[.int .i64 (ke : Int), .bool false])
    have HLw0 := (below_new w (.cells #[.int .i64 (ke : Int), .bool false] 85))
    have hsw0 : (w.alloc (.cells #[.int .i64 (ke : Int), .bool false] 85)).heap.size = w.heap.size + 1 := by simp
    generalize w.alloc (.cells #[.int .i64 (ke : Int), .bool false] 85) = w0 at HBw0 HLw0 hsw0 ⊢
    replace HBw0 := Lib.hid HBw0
    replace HLw0 := Lib.hid HLw0
    have hlw0 : w.heap.size < w0.heap.size := by omega
    replace hsw0 := Lib.hid hsw0
    have c3 : w0.cell? ⟨g3, 0, none⟩ = some (.slice (some ⟨gF, 0, none⟩) n cap) := (H3.out.below HLw0.out H3.out.lt).cell 0
    have c1 : w0.cell? ⟨g1, 0, none⟩ = some (.int .i64 more) := (H1.out.below HLw0.out H1.out.lt).cell 0
    have cx : w0.cell? ⟨gF, ke, none⟩ = some (.int .i64 x) := (HLw0.out.cell (p := ⟨gF, ke, none⟩) (World.block_lt_of_cell? _ _ hx)).trans hx
    have z0 : w0.cell? ⟨w.heap.size, 0, none⟩ = some (.int .i64 (ke : Int)) := HBw0.out.cell 0
    have z1 : w0.cell? ⟨w.heap.size, 1, none⟩ = some (.bool false) := HBw0.out.cell 1
    have HF0 : Hid (OwnG 3 w0 base gF n cap f) := hide (own_below HF.out HLw0.out (Nat.le_refl _))
    have hke : (ke : Int) < (n : Int) := by omega
    have hwr : IntKind.i64.wrap (x - more) = x - more := IntWalk.i64_in _ (by omega)
    have hwk : IntKind.i64.wrap (ke : Int) = (ke : Int) := IntWalk.i64_in _ (by omega)
    have HFin : Hid (∀ w3 : World, w3.ownsRow base 3 1 (.slice (some ⟨gF, 0, none⟩) n cap) n ((f.map (Value.int .i64)).set ke (.int .i64 (x - more))) → Only gF w0.drew w3 → OwnG 3 w3 base gF n cap pf ∧ w.grownBy w3 (some gF)) := fun w3 ho hon => ⟨by rw [HP.out, if_neg (by decide), ← Int.sub_eq_add_neg]; exact OwnG.set_ ho, grown_step (grown_below HLw0.out.drew) hon⟩
    clear hx
    go_wp2_with fail
    go_still_tail 8, (by kernel_rfl)
    change wpList _ _ _ _ _ w0.drew
    have HF1 := Lib.hid (show OwnG 3 w0.drew base gF n cap f from own_below HF0.out (Below.refl _ _).drew (Nat.le_refl _))
    clear hwr hwk
    go_wp2_with (refine wpList_store_own 3 (.tmp 21) (.tmp 20) rfl rfl HF1.out ke hm (.int .i64 (x - more)) rfl rfl (by kernel_rfl) rfl rfl ?_
                 intro w3 hx3 hon3
                 have HW3 := Lib.hid (HFin.out w3 hx3 hon3)
                 clear hx3 hon3)
    go_end0
    exact ⟨rfl, HW3.out.1, HW3.out.2⟩

set_option maxRecDepth 100000 in
set_option maxHeartbeats 4000000 in
theorem back1_any (A : Option Addr) (n c b nm : Nat) (es : List Ed) (f : List Int) (s t : Int) (g : Int → Option Mv) (seen : List Int) (lo gX g1 g2 g3 : Nat) (J : Nat → World → Prop) (w : World)
    (hr : Strs Ed.cells 4 w lo A n es) (hl : es.length = n) (hc : n ≤ c) (hc2 : c ≤ maxLen) (hm : MapV Try.prog 3 enM w b nm g) (hbX : b ≠ gX) (hlo : lo ≤ gX) (hlw : lo ≤ w.heap.size) (hX : gX < w.heap.size)
    (hS : SrI es f s g seen) (ht : t ∈ seen) (hwf : ∀ y ∈ seen, 0 ≤ y ∧ y ≤ 1000000) (h0 : J 0 w) (hJ : ∀ k W W', J k W → Below W.heap.size W W' → J k W')
    (hdo : ∀ (k : Nat) (m : Mv) (W : World), J k W → chainN es g k t ≠ s → g (chainN es g k t) = some m → m.edge < n → gX < W.heap.size → Calls Try.prog 59 #[enM m, .pointer (some ⟨g1, 0, none⟩), .pointer (some ⟨g2, 0, none⟩), .pointer (some ⟨g3, 0, none⟩)] W fun e W' => e = .returned (.tuple #[]) ∧ J (k + 1) W' ∧ W.grownBy W' (some gX)) :
    Calls Try.prog 58 #[.slice A n c, .map (some b), .int .i64 s, .int .i64 t, .func (.func 59) #[] #[.pointer (some ⟨g1, 0, none⟩), .pointer (some ⟨g2, 0, none⟩), .pointer (some ⟨g3, 0, none⟩)]] w (BackR es g s t gX J w) := by
  have HS := Lib.hid hS
  have HR := Lib.hid hr
  have HL := Lib.hid hl
  have HM := Lib.hid hm
  have HJ := Lib.hid hJ
  have HW := Lib.hid hwf
  have HD := Lib.hid hdo
  have H0 := Lib.hid h0
  have HT := Lib.hid (mem_getD ht)
  have HbX := Lib.hid hbX
  have HFin : Hid (∀ (w' : World), (∃ K, chainN es g K t = s ∧ (∀ k, k < K → chainN es g k t ≠ s) ∧ J K w' ∧ w.grownBy w' (some gX)) → BackR es g s t gX J w (.returned (.tuple #[])) w') := fun w' h => ⟨rfl, h⟩
  generalize BackR es g s t gX J w = RR at *
  clear hS hr hl hm hJ hwf hdo h0 ht hbX
  unfold maxLen at hc2
  go_enter Try.func58, Try.ntmps58
  go_wp2_with fail
  go_loopg [10] seen.length (fun q v wr => ∃ (k j : Nat), v = .int .i64 (chainN es g k t) ∧ j < seen.length ∧ j ≤ q ∧ seen.getD j 0 = chainN es g k t ∧ (∀ k', k' < k → chainN es g k' t ≠ s) ∧ J k wr ∧ w.grownBy wr (some gX))
  case atStart =>
    obtain ⟨j, hj, hjt⟩ := HT.out
    exact ⟨0, j, rfl, hj, by omega, hjt, fun k hk => by omega, H0.out, World.grownBy.refl w _⟩
  case round =>
    obtain ⟨k, j, rfl, hj, hjq, hjk, hbef, hJk, hgr⟩ := hrel
    obtain ⟨wo, rfl⟩ : ∃ wo : World, wo = wr := ⟨_, rfl⟩
    have HBe := Lib.hid hbef
    have HJk := Lib.hid hJk
    have HG := Lib.hid hgr
    have hsz := hgr.size
    have HJ2 := Lib.hid hjk
    have HDk : Hid (∀ (m : Mv) (W : World), J k W → chainN es g k t ≠ s → g (chainN es g k t) = some m → m.edge < n → gX < W.heap.size → Calls Try.prog 59 #[enM m, .pointer (some ⟨g1, 0, none⟩), .pointer (some ⟨g2, 0, none⟩), .pointer (some ⟨g3, 0, none⟩)] W fun e W' => e = .returned (.tuple #[]) ∧ J (k + 1) W' ∧ W.grownBy W' (some gX)) := HD.out k
    have HNx : Hid (∀ m, g (chainN es g k t) = some m → chainN es g (k + 1) t = mvFrom es m) := fun m h => chain_next h
    have HMo := Lib.hid (HM.out.same (hgr.block b HM.out.lt (fun e => HbX.out (Option.some.inj e))))
    have HRo : Hid (Strs Ed.cells 4 wo lo A n es) := HR.out.below (below_grown hgr hlw hlo)
    clear hbef hJk hgr hjk
    obtain ⟨y, hy⟩ : ∃ y, chainN es g k t = y := ⟨_, rfl⟩
    have HY := Lib.hid hy
    rw [hy] at HDk HNx HJ2 ⊢
    clear hy
    by_cases hys : y = s
    · have d1 : (y != s) = false := by rw [hys]; simp
      have HE := Lib.hid hys
      clear hys
      go_wp2_with fail
      refine bodyPost_ret (results_none rfl _ _ _) rfl ?_
      exact HFin.out _ ⟨k, by rw [HY.out, HE.out], HBe.out, HJk.out, HG.out⟩
    · have d1 : (y != s) = true := bne_iff_ne.2 hys
      obtain ⟨⟨ke, fw⟩, i, hij, hgm, hed, hto, hfrm, hrm⟩ := HS.out.find_ hj (by rw [HJ2.out]; exact hys)
      rw [HJ2.out] at hgm
      have HGm := Lib.hid hgm
      have hken : ke < n := by rw [← HL.out]; exact hed
      have hyb := HW.out y (by rw [← HJ2.out]; exact getD_mem hj)
      have HNy := Lib.hid (HNx.out _ hgm)
      have HFr := Lib.hid hfrm
      have HYs := Lib.hid hys
      have hlook : (Instr.lookup 82 (.map (some b)) (.int .i64 y) false).run Try.prog wo = .ok (.agg #[.int .i64 (ke : Int), .bool fw]) wo := by
        have h := HMo.out.look1 enM_inj keyed_int Try.underlying82 (zero_move wo) Try.underlying3 (wf_small hyb)
        rw [hgm] at h
        exact h
      clear hgm hed hto hfrm hrm hys hyb
      go_upto_region 3 with (fail)
      clear hlook
      have HBw1 := (Blk.new wo 85 #[.int .i64 (ke : Int), .bool fw])
      have HLw1 := (below_new wo (.cells #[.int .i64 (ke : Int), .bool fw] 85))
      have hsw1 : (wo.alloc (.cells #[.int .i64 (ke : Int), .bool fw] 85)).heap.size = wo.heap.size + 1 := by simp
      generalize wo.alloc (.cells #[.int .i64 (ke : Int), .bool fw] 85) = w1 at HBw1 HLw1 hsw1 ⊢
      replace HBw1 := Lib.hid HBw1
      replace HLw1 := Lib.hid HLw1
      have hlw1 : wo.heap.size < w1.heap.size := by omega
      replace hsw1 := Lib.hid hsw1
      have hlt1 : gX < w1.heap.size := by omega
      have HDo := Lib.hid (HDk.out ⟨ke, fw⟩ w1 (HJ.out _ _ _ HJk.out HLw1.out) HYs.out HGm.out hken hlt1)
      go_wp2_with (refine wpList_load_blk rfl 85 (.tmp 11) rfl wo.heap.size rfl _ _ HBw1.out _ Try.underlying85 rfl (by kernel_rfl) ?_)
      with_reducible refine (show Calls _ _ #[.agg #[.int .i64 (ke : Int), .bool fw], .pointer (some ⟨g1, 0, none⟩), .pointer (some ⟨g2, 0, none⟩), .pointer (some ⟨g3, 0, none⟩)] _ _ from HDo.out).mono ?_
      rintro e w2 ⟨rfl, hj2, hg2⟩
      have HJn := Lib.hid hj2
      have HG2 := Lib.hid hg2
      have HX2 := Lib.hid (HBw1.out.grown hg2 (fun e => by have := Option.some.inj e; omega))
      have HGw : Hid (w.grownBy w2 (some gX)) := hide (grown_trans HG.out (grown_trans (grown_below HLw1.out) hg2))
      have HR2 : Hid (Strs Ed.cells 4 w2 lo A n es) := HR.out.below (below_grown HGw.out hlw hlo)
      clear hj2 hg2
      obtain ⟨ad, rfl, hab, hcl⟩ := strs_at HR2.out (fun _ => rfl) HL.out hken ed0
      obtain ⟨⟨ei, fr, tt, cst⟩, hq⟩ : ∃ q, es.getD ke ed0 = q := ⟨_, rfl⟩
      have HM0 : Hid (mvFrom es ⟨ke, fw⟩ = if fw = true then fr else tt) := by show (if fw = true then (es.getD ke ed0).fr else (es.getD ke ed0).tt) = _; rw [hq]
      rw [hq] at hcl
      have p1 : w2.cell? ⟨(ad.add (ke * 4)).block, (ad.add (ke * 4)).off + 1, none⟩ = some (.int .i64 fr) := hcl 1 _ rfl
      have p2 : w2.cell? ⟨(ad.add (ke * 4)).block, (ad.add (ke * 4)).off + 2, none⟩ = some (.int .i64 tt) := hcl 2 _ rfl
      have HFin2 : Hid (∀ x, mvFrom es ⟨ke, fw⟩ = x → ∃ (k j' : Nat), Value.int .i64 x = .int .i64 (chainN es g k t) ∧ j' < seen.length ∧ j' ≤ i ∧ seen.getD j' 0 = chainN es g k t ∧ (∀ k', k' < k → chainN es g k' t ≠ s) ∧ J k w2 ∧ w.grownBy w2 (some gX)) := fun x hx => ⟨k + 1, i, by rw [HNy.out, hx], by omega, Nat.le_refl _, by rw [HNy.out, HFr.out], fun k' hk' => by
        rcases Nat.eq_or_lt_of_le (Nat.le_of_lt_succ hk') with rfl | hk'
        · rw [HY.out]; exact HYs.out
        · exact HBe.out k' hk', HJn.out, HGw.out⟩
      clear hcl hq
      have hkn : (ke : Int) < (n : Int) := by omega
      have z0 : w2.cell? ⟨wo.heap.size, 0, none⟩ = some (.int .i64 (ke : Int)) := HX2.out.cell 0
      have z1 : w2.cell? ⟨wo.heap.size, 1, none⟩ = some (.bool fw) := HX2.out.cell 1
      cases fw with
      | true =>
        rw [if_pos rfl] at HM0
        go_wp2_with fail
        go_roundg i
        case measure => omega
        case rel => exact HFin2.out _ HM0.out
      | false =>
        rw [if_neg (by decide)] at HM0
        go_wp2_with fail
        go_roundg i
        case measure => omega
        case rel => exact HFin2.out _ HM0.out

set_option maxRecDepth 100000 in
set_option maxHeartbeats 4000000 in
theorem back2_any (A : Option Addr) (n c b nm : Nat) (es : List Ed) (f : List Int) (s t : Int) (g : Int → Option Mv) (seen : List Int) (lo gX g1 g3 : Nat) (J : Nat → World → Prop) (w : World)
    (hr : Strs Ed.cells 4 w lo A n es) (hl : es.length = n) (hc : n ≤ c) (hc2 : c ≤ maxLen) (hm : MapV Try.prog 3 enM w b nm g) (hbX : b ≠ gX) (hlo : lo ≤ gX) (hlw : lo ≤ w.heap.size) (hX : gX < w.heap.size)
    (hS : SrI es f s g seen) (ht : t ∈ seen) (hwf : ∀ y ∈ seen, 0 ≤ y ∧ y ≤ 1000000) (h0 : J 0 w) (hJ : ∀ k W W', J k W → Below W.heap.size W W' → J k W')
    (hdo : ∀ (k : Nat) (m : Mv) (W : World), J k W → chainN es g k t ≠ s → g (chainN es g k t) = some m → m.edge < n → gX < W.heap.size → Calls Try.prog 60 #[enM m, .pointer (some ⟨g3, 0, none⟩), .pointer (some ⟨g1, 0, none⟩)] W fun e W' => e = .returned (.tuple #[]) ∧ J (k + 1) W' ∧ W.grownBy W' (some gX)) :
    Calls Try.prog 58 #[.slice A n c, .map (some b), .int .i64 s, .int .i64 t, .func (.func 60) #[] #[.pointer (some ⟨g3, 0, none⟩), .pointer (some ⟨g1, 0, none⟩)]] w (BackR es g s t gX J w) := by
  have HS := Lib.hid hS
  have HR := Lib.hid hr
  have HL := Lib.hid hl
  have HM := Lib.hid hm
  have HJ := Lib.hid hJ
  have HW := Lib.hid hwf
  have HD := Lib.hid hdo
  have H0 := Lib.hid h0
  have HT := Lib.hid (mem_getD ht)
  have HbX := Lib.hid hbX
  have HFin : Hid (∀ (w' : World), (∃ K, chainN es g K t = s ∧ (∀ k, k < K → chainN es g k t ≠ s) ∧ J K w' ∧ w.grownBy w' (some gX)) → BackR es g s t gX J w (.returned (.tuple #[])) w') := fun w' h => ⟨rfl, h⟩
  generalize BackR es g s t gX J w = RR at *
  clear hS hr hl hm hJ hwf hdo h0 ht hbX
  unfold maxLen at hc2
  go_enter Try.func58, Try.ntmps58
  go_wp2_with fail
  go_loopg [10] seen.length (fun q v wr => ∃ (k j : Nat), v = .int .i64 (chainN es g k t) ∧ j < seen.length ∧ j ≤ q ∧ seen.getD j 0 = chainN es g k t ∧ (∀ k', k' < k → chainN es g k' t ≠ s) ∧ J k wr ∧ w.grownBy wr (some gX))
  case atStart =>
    obtain ⟨j, hj, hjt⟩ := HT.out
    exact ⟨0, j, rfl, hj, by omega, hjt, fun k hk => by omega, H0.out, World.grownBy.refl w _⟩
  case round =>
    obtain ⟨k, j, rfl, hj, hjq, hjk, hbef, hJk, hgr⟩ := hrel
    obtain ⟨wo, rfl⟩ : ∃ wo : World, wo = wr := ⟨_, rfl⟩
    have HBe := Lib.hid hbef
    have HJk := Lib.hid hJk
    have HG := Lib.hid hgr
    have hsz := hgr.size
    have HJ2 := Lib.hid hjk
    have HDk : Hid (∀ (m : Mv) (W : World), J k W → chainN es g k t ≠ s → g (chainN es g k t) = some m → m.edge < n → gX < W.heap.size → Calls Try.prog 60 #[enM m, .pointer (some ⟨g3, 0, none⟩), .pointer (some ⟨g1, 0, none⟩)] W fun e W' => e = .returned (.tuple #[]) ∧ J (k + 1) W' ∧ W.grownBy W' (some gX)) := HD.out k
    have HNx : Hid (∀ m, g (chainN es g k t) = some m → chainN es g (k + 1) t = mvFrom es m) := fun m h => chain_next h
    have HMo := Lib.hid (HM.out.same (hgr.block b HM.out.lt (fun e => HbX.out (Option.some.inj e))))
    have HRo : Hid (Strs Ed.cells 4 wo lo A n es) := HR.out.below (below_grown hgr hlw hlo)
    clear hbef hJk hgr hjk
    obtain ⟨y, hy⟩ : ∃ y, chainN es g k t = y := ⟨_, rfl⟩
    have HY := Lib.hid hy
    rw [hy] at HDk HNx HJ2 ⊢
    clear hy
    by_cases hys : y = s
    · have d1 : (y != s) = false := by rw [hys]; simp
      have HE := Lib.hid hys
      clear hys
      go_wp2_with fail
      refine bodyPost_ret (results_none rfl _ _ _) rfl ?_
      exact HFin.out _ ⟨k, by rw [HY.out, HE.out], HBe.out, HJk.out, HG.out⟩
    · have d1 : (y != s) = true := bne_iff_ne.2 hys
      obtain ⟨⟨ke, fw⟩, i, hij, hgm, hed, hto, hfrm, hrm⟩ := HS.out.find_ hj (by rw [HJ2.out]; exact hys)
      rw [HJ2.out] at hgm
      have HGm := Lib.hid hgm
      have hken : ke < n := by rw [← HL.out]; exact hed
      have hyb := HW.out y (by rw [← HJ2.out]; exact getD_mem hj)
      have HNy := Lib.hid (HNx.out _ hgm)
      have HFr := Lib.hid hfrm
      have HYs := Lib.hid hys
      have hlook : (Instr.lookup 82 (.map (some b)) (.int .i64 y) false).run Try.prog wo = .ok (.agg #[.int .i64 (ke : Int), .bool fw]) wo := by
        have h := HMo.out.look1 enM_inj keyed_int Try.underlying82 (zero_move wo) Try.underlying3 (wf_small hyb)
        rw [hgm] at h
        exact h
      clear hgm hed hto hfrm hrm hys hyb
      go_upto_region 3 with (fail)
      clear hlook
      have HBw1 := (Blk.new wo 85 #[.int .i64 (ke : Int), .bool fw])
      have HLw1 := (below_new wo (.cells #[.int .i64 (ke : Int), .bool fw] 85))
      have hsw1 : (wo.alloc (.cells #[.int .i64 (ke : Int), .bool fw] 85)).heap.size = wo.heap.size + 1 := by simp
      generalize wo.alloc (.cells #[.int .i64 (ke : Int), .bool fw] 85) = w1 at HBw1 HLw1 hsw1 ⊢
      replace HBw1 := Lib.hid HBw1
      replace HLw1 := Lib.hid HLw1
      have hlw1 : wo.heap.size < w1.heap.size := by omega
      replace hsw1 := Lib.hid hsw1
      have hlt1 : gX < w1.heap.size := by omega
      have HDo := Lib.hid (HDk.out ⟨ke, fw⟩ w1 (HJ.out _ _ _ HJk.out HLw1.out) HYs.out HGm.out hken hlt1)
      go_wp2_with (refine wpList_load_blk rfl 85 (.tmp 11) rfl wo.heap.size rfl _ _ HBw1.out _ Try.underlying85 rfl (by kernel_rfl) ?_)
      with_reducible refine (show Calls _ _ #[.agg #[.int .i64 (ke : Int), .bool fw], .pointer (some ⟨g3, 0, none⟩), .pointer (some ⟨g1, 0, none⟩)] _ _ from HDo.out).mono ?_
      rintro e w2 ⟨rfl, hj2, hg2⟩
      have HJn := Lib.hid hj2
      have HG2 := Lib.hid hg2
      have HX2 := Lib.hid (HBw1.out.grown hg2 (fun e => by have := Option.some.inj e; omega))
      have HGw : Hid (w.grownBy w2 (some gX)) := hide (grown_trans HG.out (grown_trans (grown_below HLw1.out) hg2))
      have HR2 : Hid (Strs Ed.cells 4 w2 lo A n es) := HR.out.below (below_grown HGw.out hlw hlo)
      clear hj2 hg2
      obtain ⟨ad, rfl, hab, hcl⟩ := strs_at HR2.out (fun _ => rfl) HL.out hken ed0
      obtain ⟨⟨ei, fr, tt, cst⟩, hq⟩ : ∃ q, es.getD ke ed0 = q := ⟨_, rfl⟩
      have HM0 : Hid (mvFrom es ⟨ke, fw⟩ = if fw = true then fr else tt) := by show (if fw = true then (es.getD ke ed0).fr else (es.getD ke ed0).tt) = _; rw [hq]
      rw [hq] at hcl
      have p1 : w2.cell? ⟨(ad.add (ke * 4)).block, (ad.add (ke * 4)).off + 1, none⟩ = some (.int .i64 fr) := hcl 1 _ rfl
      have p2 : w2.cell? ⟨(ad.add (ke * 4)).block, (ad.add (ke * 4)).off + 2, none⟩ = some (.int .i64 tt) := hcl 2 _ rfl
      have HFin2 : Hid (∀ x, mvFrom es ⟨ke, fw⟩ = x → ∃ (k j' : Nat), Value.int .i64 x = .int .i64 (chainN es g k t) ∧ j' < seen.length ∧ j' ≤ i ∧ seen.getD j' 0 = chainN es g k t ∧ (∀ k', k' < k → chainN es g k' t ≠ s) ∧ J k w2 ∧ w.grownBy w2 (some gX)) := fun x hx => ⟨k + 1, i, by rw [HNy.out, hx], by omega, Nat.le_refl _, by rw [HNy.out, HFr.out], fun k' hk' => by
        rcases Nat.eq_or_lt_of_le (Nat.le_of_lt_succ hk') with rfl | hk'
        · rw [HY.out]; exact HYs.out
        · exact HBe.out k' hk', HJn.out, HGw.out⟩
      clear hcl hq
      have hkn : (ke : Int) < (n : Int) := by omega
      have z0 : w2.cell? ⟨wo.heap.size, 0, none⟩ = some (.int .i64 (ke : Int)) := HX2.out.cell 0
      have z1 : w2.cell? ⟨wo.heap.size, 1, none⟩ = some (.bool fw) := HX2.out.cell 1
      cases fw with
      | true =>
        rw [if_pos rfl] at HM0
        go_wp2_with fail
        go_roundg i
        case measure => omega
        case rel => exact HFin2.out _ HM0.out
      | false =>
        rw [if_neg (by decide)] at HM0
        go_wp2_with fail
        go_roundg i
        case measure => omega
        case rel => exact HFin2.out _ HM0.out
end Go.Proofs.Ytihmboibpjfohaa
