/-
  Fates; the link's boxes belong together.
-/
import Derived.Test.YtedeggjefnpjgaaDkF
import Derived.Test.YtedeggjefnpjgaaRow
import Derived.Test.YtedeggjefnpjgaaRowS
import Derived.Laws.BitsLemmas
namespace Go.Proofs.Ytedeggjefnpjgaa
open Go.ChangeShapes Go.WideShapes Go.ChangeAt Go.RowKit Go.Deep

structure Ft where
  kd : Int
  nn : Int
def Ft.cells (f : Ft) : List Value := [.int .i64 f.kd, .int .i64 f.nn]
def ft0 : Ft := ⟨0, 0⟩
section
variable {H : Type} {enc : TypeId × Value → H} {W : World} {base : Nat}
theorem list_of {α : Type} (f : α → List Value) : ∀ {es : List (List Value)}, (∀ r ∈ es, ∃ x, r = f x) → ∃ l : List α, es = l.map f
  | [], _ => ⟨[], rfl⟩
  | r :: es, h => by
    obtain ⟨x, rfl⟩ := h r (by simp)
    obtain ⟨l, rfl⟩ := list_of f (es := es) fun r' h' => h r' (by simp [h'])
    exact ⟨x :: l, rfl⟩
set_option maxRecDepth 100000 in
theorem open_fates {v : Value} {d : DataW H} {p : List MemPlace} (hv : Value.okWide Try.prog W .any base 22 v) (h : DataW.Trod enc Try.prog W 0 (fun _ => true) true 22 v d p) :
    ∃ l : List Ft, StrV Ft.cells 2 W W.heap.size v l ∧ ∀ f ∈ l, -9223372036854775808 ≤ f.nn ∧ f.nn ≤ 9223372036854775807 := by
  obtain ⟨A, n, c, es, rfl, h1, h2, h3, h4, h5⟩ := open_structs_arg Try.underlying22 Try.underlying38 (by kernel_rfl) (by kernel_rfl) (by decide) hv h
  have hall : ∀ r ∈ es, ∃ x : {f : Ft // -9223372036854775808 ≤ f.nn ∧ f.nn ≤ 9223372036854775807}, r = Ft.cells x.1 := fun r hr => by
    obtain ⟨hl, hf⟩ := h5 r hr
    obtain ⟨a, b, rfl⟩ := list_len2 r hl
    obtain ⟨x0, rfl, _⟩ := field_int Try.underlying3 (hf 0 _ _ rfl rfl)
    obtain ⟨x1, rfl, hw⟩ := field_int Try.underlying3 (hf 1 _ _ rfl rfl)
    exact ⟨⟨⟨x0, x1⟩, i64_bd hw⟩, rfl⟩
  obtain ⟨l, rfl⟩ := list_of (fun x : {f : Ft // -9223372036854775808 ≤ f.nn ∧ f.nn ≤ 9223372036854775807} => Ft.cells x.1) hall
  refine ⟨l.map Subtype.val, strV_of (by simpa [List.map_map, Function.comp_def] using h4) (by simpa using h3) h1 h2, fun f hf => ?_⟩
  obtain ⟨y, _, rfl⟩ := List.mem_map.1 hf
  exact y.2
end
theorem inc_at {n : Nat} : ∀ {e : List Nat} {b : Nat}, IncN n b e → ∀ (k : Nat) (hk : k < e.length), b < e[k] ∧ e[k] ≤ n ∧ ((k = 0 → b < e[k]) ∧ ∀ j (hj : j + 1 = k), e[j]'(by omega) < e[k])
  | [], _, _, k, hk => by simp at hk
  | x :: e, b, h, 0, _ => ⟨h.1, h.2.1, fun _ => h.1, fun j hj => by omega⟩
  | x :: e, b, h, k + 1, hk => by
    have ih := inc_at h.2.2 k (by simpa using hk)
    refine ⟨Nat.lt_trans h.1 ih.1, ih.2.1, fun h0 => by omega, fun j hj => ?_⟩
    obtain rfl : j = k := by omega
    rcases j with _ | j
    · exact ih.1
    · exact ih.2.2.2 j rfl
theorem right_ms (n : Nat) (x : Lk) (a b c d e f g h i j : Value) (w : World) (hk : OKL n x) (hv : LnV w n x (.agg #[a, b, c, d, e, f, g, h, i, j])) :
    Calls Try.prog 12 #[.agg #[c, d, e], .agg #[f, g, h, i]] w (BoR true w) := by
  obtain ⟨vp, vm, vo, vg, ve, e1, k1, k2, k3, k4⟩ := hv
  injection e1 with e1
  injection e1 with e1
  simp only [List.cons.injEq, and_true] at e1
  obtain ⟨rfl, rfl, rfl, rfl, rfl, rfl, rfl, rfl, rfl, rfl⟩ := e1
  obtain ⟨oA, on, oc, rfl, HLo, hos⟩ := k2.parts
  obtain ⟨gA, gn, gc, rfl, HLg, hgs⟩ := k3.parts
  obtain ⟨eA, en, ec, rfl, HLe, hes⟩ := k4.parts
  have h1 := HLo.out
  have h2 := HLg.out
  have h3 := HLe.out
  have hak := hk.inv.ak
  have hkn := hk.inv.kn
  have hn := hk.n20
  have he := hk.early
  rw [rdsN_len] at h1 h2
  rw [List.length_map] at h3
  refine uright_any 4 _ _ ((x.a : Int) + 1) oA on oc gA gn gc eA en ec _ _ _ w hos HLo.out hgs HLg.out hes HLe.out (by omega) (by omega) (by omega) (by omega) (fun k hk' => ?_) (by omega) (by omega) (fun k hk' => ?_) (fun k hk' => ?_)
  · rw [rdsN_at (by omega)]
    exact ⟨rfl, by rw [rdN_seq]; omega⟩
  · rw [rdsN_at (by omega)]
    exact ⟨rfl, by rw [rdN_seq]; omega⟩
  · have hkl : k < x.early.length := by omega
    obtain ⟨i1, i2, i3, i4⟩ := inc_at hk.inv.inc k hkl
    have hg : (x.early.map rdN).getD k rd0 = rdN x.early[k] := by
      rw [List.getD_eq_getElem?_getD, List.getElem?_map, List.getElem?_eq_getElem hkl]
      rfl
    rw [hg, rdN_seq]
    refine ⟨?_, by omega, x.early[k] - (x.a + 1), by omega, by omega, ?_⟩
    · rcases k with _ | k
      · show ((x.k : Int) + 1) < _
        omega
      · show (List.getD (x.early.map rdN) k rd0).seq < _
        have hg' : (x.early.map rdN).getD k rd0 = rdN (x.early[k]'(by omega)) := by
          rw [List.getD_eq_getElem?_getD, List.getElem?_map, List.getElem?_eq_getElem (show k < x.early.length by omega)]
          rfl
        rw [hg', rdN_seq]
        have := i4 k rfl
        omega
    · rw [rdsN_at (by omega)]
      congr 1
      omega
theorem slc_rd (A : Option Addr) (n c k : Nat) (hk : k ≤ c) (W : World) : (Instr.sliceAt 28 (.slice A n c) none (some (.int .i64 (k : Int))) none).run Try.prog W = .ok (.slice A k c) W := by
  have hs : (sizeOf (Try.prog.elem 28)).run Try.prog W = .ok 7 W := by
    obtain ⟨i, hi, _, h1, _⟩ := info_parts (show (Try.prog.info? 55).map (fun i => (i.zero, i.size, i.bytes)) = some (some (.agg #[.int .i64 0, .int .i64 0, .int .i64 0, .int .i64 0, .int .i64 0, .int .i64 0, .int .i64 0]), 7, 56) by kernel_rfl)
    rw [show Try.prog.elem 28 = 55 by kernel_rfl]
    simp [sizeOf, typeInfo, hi, h1]
  rw [run_sliceAt_slice (P := Try.prog) (w := W) _ _ _ _ _ (by kernel_rfl), run_slice_h (P := Try.prog) (w := W) 28 A n c (by kernel_rfl) .i64 (k : Int) (by omega) (by omega), hs]
  have hz : ∀ a : Addr, a.add 0 = a := fun a => by unfold Addr.add; simp
  cases A <;> simp [sliced, Result.andThen, hz]
theorem field_net (c0 c1 c2 c3 c4 c5 c6 c7 c8 c9 : Value) (W : World) : (Instr.field 34 (.agg #[c0, c1, c2, c3, c4, c5, c6, c7, c8, c9]) 0).run Try.prog W = .ok (.agg #[c0, c1]) W := by
  obtain ⟨i, hi, _, h1, _⟩ := info_parts (show (Try.prog.info? 27).map (fun i => (i.zero, i.size, i.bytes)) = some (some (.agg #[.slice none 0 0, .slice none 0 0]), 2, 48) by kernel_rfl)
  have hagg : (isAgg 27).run Try.prog W = .ok true W := by
    unfold isAgg
    rw [Sem.run_bind, run_underlying Try.underlying27 W]
    rfl
  unfold Instr.field
  rw [Sem.run_bind, run_underlying Try.underlying34 W]
  simp [part, asAgg, Sem.run_bind, hagg, sizeOf, typeInfo, hi, h1]
theorem field_mail (c0 : Value) (A : Option Addr) (n c : Nat) (W : World) : (Instr.field 27 (.agg #[c0, .slice A n c]) 1).run Try.prog W = .ok (.slice A n c) W := by
  have hagg : (isAgg 25).run Try.prog W = .ok false W := by
    unfold isAgg
    rw [Sem.run_bind, run_underlying Try.underlying25 W]
    rfl
  unfold Instr.field
  rw [Sem.run_bind, run_underlying Try.underlying27 W]
  simp [part, asAgg, Sem.run_bind, hagg]
theorem and_one (x : Int) : bits .and .i64 x 1 = 0 ∨ bits .and .i64 x 1 = 1 := by
  have h : (BitVec.ofInt 64 x &&& BitVec.ofInt 64 1).toNat = (BitVec.ofInt 64 x).toNat % 2 := by
    rw [BitVec.toNat_and, show (BitVec.ofInt 64 1).toNat = 1 by decide, Nat.and_one_is_mod]
  show IntKind.i64.wrap (((BitVec.ofInt 64 x &&& BitVec.ofInt 64 1).toNat : Nat) : Int) = 0 ∨ IntKind.i64.wrap (((BitVec.ofInt 64 x &&& BitVec.ofInt 64 1).toNat : Nat) : Int) = 1
  rw [h, IntKind.wrap_i64]
  omega
theorem OKL.part {n : Nat} {x : Lk} (h : OKL n x) {q : Int} (hq : q = 0 ∨ q = 1) : OKL n ⟨x.a, x.k, x.early, x.mail, q⟩ := ⟨h.inv.mail h.inv.ms, h.n20, h.len, hq⟩
theorem can_ms (n : Nat) (x : Lk) (pA : Option Addr) (pc : Nat) (mA : Option Addr) (mn mc : Nat) (w : World) (h : OKL n x) (hv : NetO w (.slice pA 2 pc) (.slice mA mn mc) [0, x.p] (x.mail.map ltN)) {r : Bool} (hr : decide (x.p = 0) = r) :
    Calls Try.prog 14 #[.agg #[.slice pA 2 pc, .slice mA mn mc], .int .i64 0, .int .i64 1] w (BoR r w) := by
  obtain ⟨pA', pc', mA', mn', mc', e1, e2, hmn, h1, h2⟩ := hv.nam
  injection e1 with e3 e4 e5
  subst e3 e5
  refine can_any pA pc _ 0 1 [0, x.p] r w (by omega) (by omega) h1 ⟨_, _, _, rfl⟩ ?_
  rw [← hr]
  rcases h.pp with hp | hp <;> rw [hp] <;> rfl
/-- no letter goes through a network that is divided -/
theorem arrive_div {n : Nat} {x : Lk} (hp : x.p = 1) (i : Int) : arriveN x i = x := by
  unfold arriveN
  rw [if_pos (.inr (.inr (by rw [hp]; omega)))]
/-- a link in a block -/
def LkAt (w : World) (g n : Nat) (x : Lk) : Prop := ∃ pA pc mA mn mc n1 oA on oc k1 gA gn gc eA en ec, Blk w g 34 #[.slice pA 2 pc, .slice mA mn mc, .int .i64 4, .int .i64 n1, .slice oA on oc, .int .i64 4, .int .i64 k1, .slice gA gn gc, .slice eA en ec, .bool true] ∧ LnV w n x (.agg #[.slice pA 2 pc, .slice mA mn mc, .int .i64 4, .int .i64 n1, .slice oA on oc, .int .i64 4, .int .i64 k1, .slice gA gn gc, .slice eA en ec, .bool true]) ∧ Hid (mn = x.mail.length) ∧ Hid (on = n - x.a) ∧ Hid (gn = x.k)
theorem LkAt.mk' {w : World} {g n : Nat} {x : Lk} {v : Value} {cs : Array Value} (h : LnV w n x v) (hc : v = .agg cs) (hb : Blk w g 34 cs) : LkAt w g n x := by
  obtain ⟨pA, pc, mA, mn, mc, n1, oA, on, oc, k1, gA, gn, gc, eA, en, ec, rfl, h1, h2, h3⟩ := h.parts2
  injection hc with hc
  subst hc
  exact ⟨pA, pc, mA, mn, mc, n1, oA, on, oc, k1, gA, gn, gc, eA, en, ec, hb, h, h1, h2, h3⟩
def mailM (g : Nat) (w : World) : Nat := match w.cell? ⟨g, 1, none⟩ with | some v => lenOf v | none => 0
theorem mailM_eq {g n c : Nat} {A : Option Addr} {w : World} (h : w.cell? ⟨g, 1, none⟩ = some (.slice A n c)) : mailM g w = n := by
  unfold mailM
  rw [h]
  rfl
theorem lose_len {l : List Ms} (h : l ≠ []) : (loseN l 0).length + 1 = l.length := by
  have hl : 0 < l.length := List.length_pos_iff.2 h
  unfold loseN
  rw [if_neg (by omega), show (0 : Int).toNat = 0 by rfl, List.length_eraseIdx_of_lt hl]
  omega
theorem run_step {f : Nat} {y : Lk} (h : y.mail ≠ []) : runN (f + 1) y = runN f (arriveN y 0) := by
  rw [runN, if_neg h]
theorem run_done {f : Nat} {y : Lk} (h : y.mail = []) : runN f y = y := by
  cases f with
  | zero => rfl
  | succ f => rw [runN, if_pos h]
theorem LkAt.now {w w' : World} {g n : Nat} {x : Lk} (h : LkAt w g n x) (hb : Below w.heap.size w w') : LkAt w' g n x := by
  obtain ⟨pA, pc, mA, mn, mc, n1, oA, on, oc, k1, gA, gn, gc, eA, en, ec, hX, hV, h1, h2, h3⟩ := h
  exact ⟨pA, pc, mA, mn, mc, n1, oA, on, oc, k1, gA, gn, gc, eA, en, ec, hX.below hb hX.lt, hV.now hb, h1, h2, h3⟩
end Go.Proofs.Ytedeggjefnpjgaa
