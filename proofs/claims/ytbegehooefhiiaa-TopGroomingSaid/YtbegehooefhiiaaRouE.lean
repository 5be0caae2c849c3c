/-
  The search of route: place, walked.
-/
import Derived.Test.YtbegehooefhiiaaRouD
import Derived.StillTailTactics
import Derived.Laws.CopyRow
namespace Go.Proofs.Ytbegehooefhiiaa
open Go.RowKit

/-- copy of a whole row of the call's own over another one -/
theorem wpList_copy_all {P : Program} {w : World} {ops : Array Oper} {rest : List Oper} {o : Oper} {a : Act} {Q : Exit → Act → World → Prop} (hgd : o.guard = none) (d s : Operand) (dT sT : TypeId)
    (ho : o.op = .call { callee := .builtin .copy, args := #[d, s], argTypes := #[dT, sT] }) (elem : TypeId) (hu : P.underlying dT = some (.slice elem)) (sz : Nat) (hsz : (P.info? elem).map (·.size) = some sz) (n gd gs lo : Nat) (e e' : TypeId) {xs ys : List Value}
    (hd : a.eval d = .slice (some ⟨gd, 0, none⟩) n n) (hs : a.eval s = .slice (some ⟨gs, 0, none⟩) n n) (hown : w.ownsRow lo e sz (.slice (some ⟨gd, 0, none⟩) n n) n xs) (hsrc : w.ownsRow lo e' sz (.slice (some ⟨gs, 0, none⟩) n n) n ys) (h1 : ∀ u ∈ ys, u.oneCell' = true)
    (h : ∀ w', w'.ownsRow lo e sz (.slice (some ⟨gd, 0, none⟩) n n) n ys → Only gd w w' → wpList P ops Q rest (a.put o.dst (goInt n)) w') : wpList P ops Q (o :: rest) a w := by
  refine wpList_plain hgd fun K hK => ?_
  obtain ⟨_, hn | ⟨g, cap, cur, hv, hbg, hg, hnc, hcm, hcs, htake⟩⟩ := hown
  · obtain ⟨h0, _⟩ := hn; cases h0
  · injection hv with hv1 hv2 hv3
    injection hv1 with hv1
    injection hv1 with hv1
    subst hv1 hv3
    have hyl := hsrc.1
    cases hq : P.info? elem with
    | none => rw [hq] at hsz; cases hsz
    | some i =>
      have hi : i.size = sz := by simpa [hq] using hsz
      have hl : (loadCells ⟨gs, 0, none⟩ (n * sz)).run P w = .ok ys.toArray w := by
        have := run_loadCells_list (P := P) w ⟨gs, 0, none⟩ ys (hsrc.cells (g := gs) rfl)
        rwa [hyl] at this
      have hst := run_storeCells_at P gd 0 e ys 0 cur w hg (by rw [hcs, hyl]; simp) h1
      have hall : cur.toList.take (0 + 0) ++ ys ++ cur.toList.drop (0 + 0 + ys.length) = ys := by
        rw [Nat.zero_add, List.take_zero, List.nil_append, Nat.zero_add, List.drop_of_length_le (by rw [Array.length_toList, hcs, hyl]; exact Nat.le_refl _), List.append_nil]
      rw [hall] at hst
      have hrun : (Builtin.copy_ #[dT, sT] o.type #[.slice (some ⟨gd, 0, none⟩) n n, .slice (some ⟨gs, 0, none⟩) n n]).run P w = .ok (goInt n) (w.setRow gd ys.toArray) := by
        simp [Builtin.copy_, run_underlying hu, Builtin.lenOf, Builtin.firstCells, sizeOf, typeInfo, hq, hi, hl, hst]
      unfold Oper.wp
      simp [execOp, ho, resolve, invoke, builtin, hd, hs, hrun, Result.andThen]
      refine hK _ _ (h _ ⟨hyl, .inr ⟨gd, n, ys.toArray, rfl, hbg, setRow_heap w gd cur _ e _ hg, Nat.le_refl _, hcm, by simpa using hyl, ?_⟩⟩ (Only.setRow w gd _))
      rw [List.toList_toArray]
      exact List.take_of_length_le (by rw [hyl]; exact Nat.le_refl _)
theorem wpList_store_ownG {P : Program} {w : World} {ops : Array Oper} {rest : List Oper} {o : Oper} {a : Act} {Q : Exit → Act → World → Prop} {α : Type} {f : α → List Value} {s : Nat} (ty : TypeId) (x y : Operand) (ho : o.op = .store ty x y) (hw : Region.wanted o (yielded ops a.tmps) = true) {base : Nat} {e : TypeId} {g n c : Nat} {l : List α}
    (hown : w.ownsRow base e s (.slice (some ⟨g, 0, none⟩) n c) n (l.map f).flatten) (hl : l.length = n) (k : Nat) (hk : k < n) (r : α) (cs : Array Value) (hx : a.eval x = .pointer (some ⟨g, k * s, none⟩)) (hy : a.eval y = .agg cs) (hcs : cs.toList = f r) (hf : ∀ x, (f x).length = s) (hi : (P.info? ty).map (·.size) = some s) (h1 : ∀ u ∈ f r, u.oneCell' = true)
    (h : ∀ w', w'.ownsRow base e s (.slice (some ⟨g, 0, none⟩) n c) n ((l.set k r).map f).flatten → Only g w w' → wpList P ops Q rest (a.put o.dst undef) w') : wpList P ops Q (o :: rest) a w := by
  have hadd : (⟨g, 0, none⟩ : Addr).add (k * s) = ⟨g, k * s, none⟩ := by unfold Addr.add; split <;> simp_all
  subst hl
  exact wpList_store_ownT ty x y ho hw (ad := ⟨g, 0, none⟩) (n := l.length) hown rfl k hk r cs (by rw [hadd]; exact hx) hy hcs hf hi h1 fun w' h2 h3 => h w' (by have := OwnT.row h2 (by rw [List.length_set]); exact this) h3

/-- all blocks but three are as they were -/
structure K3 (gS gP gB : Nat) (w w' : World) : Prop where
  os : w'.os = w.os
  tape : w'.tape = w.tape
  output : w'.output = w.output
  size : w.heap.size ≤ w'.heap.size
  block : ∀ k, k < w.heap.size → k ≠ gS → k ≠ gP → k ≠ gB → w'.heap[k]? = w.heap[k]?
section
variable {gS gP gB : Nat} {w w1 w2 : World}
theorem K3.refl (w : World) : K3 gS gP gB w w := ⟨rfl, rfl, rfl, Nat.le_refl _, fun _ _ _ _ _ => rfl⟩
theorem K3.trans (h : K3 gS gP gB w w1) (k : K3 gS gP gB w1 w2) : K3 gS gP gB w w2 :=
  ⟨k.os.trans h.os, k.tape.trans h.tape, k.output.trans h.output, Nat.le_trans h.size k.size, fun q hq a b c => (k.block q (Nat.lt_of_lt_of_le hq h.size) a b c).trans (h.block q hq a b c)⟩
theorem K3.of_below (h : Below w.heap.size w w1) : K3 gS gP gB w w1 := ⟨h.os, h.tape, h.output, h.size, fun q hq _ _ _ => h.block q hq⟩
theorem K3.of_only {g : Nat} (h : Only g w w1) (hg : g = gS ∨ g = gP ∨ g = gB) : K3 gS gP gB w w1 :=
  ⟨h.os, h.tape, h.output, by rw [h.size]; exact Nat.le_refl _, fun q _ a b c => h.block q (by rcases hg with rfl | rfl | rfl <;> assumption)⟩
theorem K3.cell (h : K3 gS gP gB w w1) {p : Addr} (hp : p.block < w.heap.size) (a : p.block ≠ gS) (b : p.block ≠ gP) (c : p.block ≠ gB) : w1.cell? p = w.cell? p := World.cell?_of_block (h.block _ hp a b c)
theorem K3.blk (h : K3 gS gP gB w w1) {g : Nat} {t : TypeId} {cs : Array Value} (hb : Blk w g t cs) (a : g ≠ gS) (b : g ≠ gP) (c : g ≠ gB) : Blk w1 g t cs := (h.block g hb.lt a b c).trans hb
theorem K3.below {lo : Nat} (h : K3 gS gP gB w w1) (hl : lo ≤ gS ∧ lo ≤ gP ∧ lo ≤ gB) (hw : lo ≤ w.heap.size) : Below lo w w1 := ⟨h.os, h.tape, h.output, h.size, fun q hq => h.block q (by omega) (by omega) (by omega) (by omega)⟩
end
section
variable {w w' : World} {lo gS gC gP gB : Nat} {A : Option Addr} {n c : Nat} {B : Option Addr} {nw cw : Nat} {rw_ rc : Nat → Nat} {ts : List Tk} {ws : List Bool} {plan best plan' best' : List Sh} {en en' : Int}
/-- one of the three blocks is changed -/
theorem SeaM.setP (h : SeaM w lo gS gC gP gB A n c B nw cw rw_ rc ts ws plan best en) (hK : SeaK lo gS gC gP gB n rw_) (ho : Only gP w w') (hp : OwnSh w' lo gP n plan') (hl : plan'.length = n) : SeaM w' lo gS gC gP gB A n c B nw cw rw_ rc ts ws plan' best en :=
  ⟨ho.blk h.st hK.sp, hp, ho.own h.be (fun e => hK.pb (Option.some.inj e).symm), fun i hi => (ho.cell (p := ⟨gC, i, none⟩) hK.cs.2.1).trans (h.co i hi), fun i hi j hj => (ho.cell (p := ⟨rw_ i, j, none⟩) (hK.rs i hi).2.1).trans (h.cr i hi j hj),
    fun i hi => by rw [ho.size]; exact h.cl i hi, h.ts.keep fun p hp => ho.cell (by have := hK.low; omega), h.ws.keep fun p hp => ho.cell (by have := hK.low; omega), hl, h.lb, by rw [ho.size]; exact h.low⟩
theorem SeaM.setB (h : SeaM w lo gS gC gP gB A n c B nw cw rw_ rc ts ws plan best en) (hK : SeaK lo gS gC gP gB n rw_) (ho : Only gB w w') (hp : OwnSh w' lo gB n best') (hl : best'.length = n) : SeaM w' lo gS gC gP gB A n c B nw cw rw_ rc ts ws plan best' en :=
  ⟨ho.blk h.st hK.sb, ho.own h.pl (fun e => hK.pb (Option.some.inj e)), hp, fun i hi => (ho.cell (p := ⟨gC, i, none⟩) hK.cs.2.2).trans (h.co i hi), fun i hi j hj => (ho.cell (p := ⟨rw_ i, j, none⟩) (hK.rs i hi).2.2).trans (h.cr i hi j hj),
    fun i hi => by rw [ho.size]; exact h.cl i hi, h.ts.keep fun p hp => ho.cell (by have := hK.low; omega), h.ws.keep fun p hp => ho.cell (by have := hK.low; omega), h.lp, hl, by rw [ho.size]; exact h.low⟩
theorem SeaM.setE (h : SeaM w lo gS gC gP gB A n c B nw cw rw_ rc ts ws plan best en) (hK : SeaK lo gS gC gP gB n rw_) (ho : Only gS w w') (hp : Blk w' gS 46 #[.slice A n c, .slice B nw cw, .slice (some ⟨gC, 0, none⟩) n n, .slice (some ⟨gP, 0, none⟩) n n, .slice (some ⟨gB, 0, none⟩) n n, .int .i64 en']) : SeaM w' lo gS gC gP gB A n c B nw cw rw_ rc ts ws plan best en' :=
  ⟨hp, ho.own h.pl (fun e => hK.sp (Option.some.inj e).symm), ho.own h.be (fun e => hK.sb (Option.some.inj e).symm), fun i hi => (ho.cell (p := ⟨gC, i, none⟩) hK.cs.1).trans (h.co i hi), fun i hi j hj => (ho.cell (p := ⟨rw_ i, j, none⟩) (hK.rs i hi).1).trans (h.cr i hi j hj),
    fun i hi => by rw [ho.size]; exact h.cl i hi, h.ts.keep fun p hp => ho.cell (by have := hK.low; omega), h.ws.keep fun p hp => ho.cell (by have := hK.low; omega), h.lp, h.lb, by rw [ho.size]; exact h.low⟩
end
/-- a fold over the numbers from k on -/
def foldK {σ : Type} (F : σ → Nat → σ) (n k : Nat) (s : σ) : σ := ((List.range n).drop k).foldl F s
theorem foldK_at {σ : Type} {F : σ → Nat → σ} {n k : Nat} {s : σ} (h : k < n) : foldK F n k s = foldK F n (k + 1) (F s k) := by
  unfold foldK
  rw [List.drop_eq_getElem_cons (by rw [List.length_range]; exact h), List.foldl_cons, List.getElem_range]
theorem foldK_end {σ : Type} {F : σ → Nat → σ} {n : Nat} {s : σ} : foldK F n n s = s := by
  unfold foldK
  rw [List.drop_of_length_le (by rw [List.length_range]; exact Nat.le_refl _)]
  rfl
theorem bad_case {a b : Bool} (h : ¬ (a = true ∧ b = false)) : a = false ∨ b = true := by
  cases a <;> cases b <;> simp at h ⊢
theorem cap_no {a b : Bool} (h : (!(a && !b)) = false) : a = true ∧ b = false := by
  cases a <;> cases b <;> simp at h ⊢
def inP (p : Prob) (left : Nat) (plan : List Sh) (fr en : Int) (i : Nat) (s : List Sh × Int) (k : Nat) : List Sh × Int :=
  if p.cap i k = false ∨ earl p plan i ((k : Int) + 1) < fr then s else placeF p left (putSh p plan i k) (earl p plan i ((k : Int) + 1)) (max en (earl p plan i ((k : Int) + 1) + p.dur i)) s
def outP (p : Prob) (left : Nat) (plan : List Sh) (fr en : Int) (s : List Sh × Int) (i : Nat) : List Sh × Int :=
  if (plan.getD i sh0).g ≠ 0 then s else foldK (inP p left plan fr en i) p.w 0 s
theorem place_succ (p : Prob) (left : Nat) (plan : List Sh) (fr en : Int) (s : List Sh × Int) (h : ¬ s.2 ≤ en) : placeF p (left + 1) plan fr en s = foldK (outP p left plan fr en) p.n 0 s := by
  rw [placeF, if_neg h]
  rfl
theorem place_no (p : Prob) (left : Nat) (plan : List Sh) (fr en : Int) (s : List Sh × Int) (h : s.2 ≤ en) : placeF p left plan fr en s = s := by
  cases left with
  | zero => rw [placeF, if_pos h]
  | succ left => rw [placeF, if_pos h]
theorem place_zero (p : Prob) (plan : List Sh) (fr en : Int) (s : List Sh × Int) (h : ¬ s.2 ≤ en) : placeF p 0 plan fr en s = (plan, en) := by rw [placeF, if_neg h]
theorem foldK_congr {σ : Type} {F : σ → Nat → σ} {n k : Nat} {s : σ} {R : σ} (h : foldK F n k s = R) (hk : k < n) : foldK F n (k + 1) (F s k) = R := by rw [← foldK_at hk]; exact h
def PlR (lo gS gC gP gB : Nat) (A : Option Addr) (n c : Nat) (B : Option Addr) (nw cw : Nat) (rw_ rc : Nat → Nat) (ts : List Tk) (ws : List Bool) (plan : List Sh) (r : List Sh × Int) (w : World) (e : Ending) (w' : World) : Prop :=
  e = .returned (.tuple #[]) ∧ SeaM w' lo gS gC gP gB A n c B nw cw rw_ rc ts ws plan r.1 r.2 ∧ K3 gS gP gB w w'
structure BdP (n left : Nat) (plan : List Sh) (fr en : Int) : Prop where
  hle : left ≤ n
  htt : ∀ j, j < n → 0 ≤ (plan.getD j sh0).tt ∧ (plan.getD j sh0).tt ≤ 86400 * ((n : Int) - left)
  hz : ∀ j, j < n → (plan.getD j sh0).g = 0 → plan.getD j sh0 = sh0
  hfr : 0 ≤ fr ∧ fr ≤ 86400 * ((n : Int) - left)
  hen : 0 ≤ en ∧ en ≤ 86400 * ((n : Int) - left)
theorem BdP.earl {n left : Nat} {plan : List Sh} {fr en : Int} (h : BdP n left plan fr en) (hl : plan.length = n) (p : Prob) (i : Nat) (g : Int) : 0 ≤ earl p plan i g ∧ earl p plan i g ≤ 86400 * ((n : Int) - left) := by
  refine ⟨(earl_ge p plan i g).1, earlN_le p plan i g _ (by have := h.hle; omega) _ fun j hj _ _ => (h.htt j (by omega)).2⟩
theorem BdP.step {n left : Nat} {plan : List Sh} {fr en : Int} (h : BdP n (left + 1) plan fr en) (hl : plan.length = n) {p : Prob} {i k : Nat} (hi : i < n) (hd : 1 ≤ p.dur i ∧ p.dur i ≤ 86400) : BdP n left (putSh p plan i k) (_root_.Go.Proofs.Ytbegehooefhiiaa.earl p plan i ((k : Int) + 1)) (max en (_root_.Go.Proofs.Ytbegehooefhiiaa.earl p plan i ((k : Int) + 1) + p.dur i)) := by
  have he := h.earl hl p i ((k : Int) + 1)
  have h1 := h.hle
  have h2 := h.hen
  have hc : ((left + 1 : Nat) : Int) = (left : Int) + 1 := by omega
  rw [hc] at he h2
  have hget : ∀ j, j < n → (putSh p plan i k).getD j sh0 = if i = j then ⟨(k : Int) + 1, p.run i, _root_.Go.Proofs.Ytbegehooefhiiaa.earl p plan i ((k : Int) + 1), _root_.Go.Proofs.Ytbegehooefhiiaa.earl p plan i ((k : Int) + 1) + p.dur i⟩ else plan.getD j sh0 := fun j hj => by
    unfold putSh
    exact getD_setS (by omega)
  refine ⟨by omega, fun j hj => ?_, fun j hj hz => ?_, by omega, by omega⟩
  · rw [hget j hj]
    have h3 := h.htt j hj
    rw [hc] at h3
    split
    · simp only; omega
    · omega
  · rw [hget j hj] at hz ⊢
    split
    · rename_i e
      rw [if_pos e] at hz
      simp only at hz
      omega
    · rename_i e
      rw [if_neg e] at hz
      exact h.hz j hj hz
theorem set_back {l : List Sh} {i : Nat} {x : Sh} (hi : i < l.length) (h : l.getD i sh0 = sh0) : (l.set i x).set i sh0 = l := by
  rw [List.set_set]
  refine List.ext_getElem (by simp) fun j h1 h2 => ?_
  rw [List.getElem_set]
  split
  · rename_i e
    subst e
    rw [← h]
    simp [List.getElem?_eq_getElem hi]
  · rfl
set_option maxRecDepth 100000 in
set_option maxHeartbeats 16000000 in
theorem place_any (lo gS gC gP gB : Nat) (A : Option Addr) (n c : Nat) (B : Option Addr) (nw cw : Nat) (rw_ rc : Nat → Nat) (ts : List Tk) (ws : List Bool) (hK : SeaK lo gS gC gP gB n rw_) (hrc : ∀ i, i < n → n ≤ rc i) (hn : n ≤ 6) (hnw : nw ≤ 3) (hws : ws.length = nw) (hts : ts.length = n)
    (hsec : ∀ i, i < n → 1 ≤ (ts.getD i tk0).sec ∧ (ts.getD i tk0).sec ≤ 86400) : ∀ (left : Nat) (plan best : List Sh) (fr en se : Int) (w : World), SeaM w lo gS gC gP gB A n c B nw cw rw_ rc ts ws plan best se → BdP n left plan fr en →
    Calls Try.prog 14 #[.pointer (some ⟨gS, 0, none⟩), .int .i64 (left : Int), .int .i64 fr, .int .i64 en] w (PlR lo gS gC gP gB A n c B nw cw rw_ rc ts ws plan (placeF (probOf ts ws) left plan fr en (best, se)) w) := by
  intro left
  induction left with
  | zero =>
    intro plan best fr en se w hM hB
    have HM := Lib.hid hM
    have HK := Lib.hid hK
    by_cases h1 : se ≤ en
    · have HR : Hid (placeF (probOf ts ws) 0 plan fr en (best, se) = (best, se)) := hide (place_no _ _ _ _ _ _ h1)
      rw [HR.out]
      have HFin : Hid (PlR lo gS gC gP gB A n c B nw cw rw_ rc ts ws plan (best, se) w (.returned (.tuple #[])) w) := hide ⟨rfl, HM.out, K3.refl _⟩
      generalize PlR lo gS gC gP gB A n c B nw cw rw_ rc ts ws plan (best, se) w = RR at *
      have d1 : decide (en ≥ se) = true := decide_eq_true h1
      have c5 : w.cell? ⟨gS, 5, none⟩ = some (.int .i64 se) := HM.out.st.cell 5
      clear hM hB hK h1
      go_enter Try.func14, Try.ntmps14
      go_wp2_with fail
      try go_end0
      exact HFin.out
    · have HR : Hid (placeF (probOf ts ws) 0 plan fr en (best, se) = (plan, en)) := hide (place_zero _ _ _ _ _ h1)
      rw [HR.out]
      have HFin : Hid (∀ w', SeaM w' lo gS gC gP gB A n c B nw cw rw_ rc ts ws plan plan en → K3 gS gP gB w w' → PlR lo gS gC gP gB A n c B nw cw rw_ rc ts ws plan (plan, en) w (.returned (.tuple #[])) w') := hide (fun w' h1 h2 => ⟨rfl, h1, h2⟩)
      generalize PlR lo gS gC gP gB A n c B nw cw rw_ rc ts ws plan (plan, en) w = RR at *
      have d1 : decide (en ≥ se) = false := decide_eq_false h1
      have c5 : w.cell? ⟨gS, 5, none⟩ = some (.int .i64 se) := HM.out.st.cell 5
      have c4 : w.cell? ⟨gS, 4, none⟩ = some (.slice (some ⟨gB, 0, none⟩) n n) := HM.out.st.cell 4
      have c3 : w.cell? ⟨gS, 3, none⟩ = some (.slice (some ⟨gP, 0, none⟩) n n) := HM.out.st.cell 3
      clear hM hB hK h1
      go_enter Try.func14, Try.ntmps14
      go_upto_region 2 with (fail)
      go_still_tail 8, (by kernel_rfl)
      change wpList _ _ _ _ _ w.drew
      have HMd := Lib.hid (HM.out.below (Below.refl _ _).drew)
      have HKd : Hid (K3 gS gP gB w w.drew) := hide (K3.of_below (Below.refl _ _).drew)
      clear c5 c4 c3 d1
      generalize w.drew = wd at *
      refine wpList_copy_all rfl (.tmp 24) (.tmp 28) _ _ rfl 50 Try.underlying24 4 (by kernel_rfl) n gB gP lo 50 50 rfl rfl HMd.out.be HMd.out.pl (fun u hu => by
        obtain ⟨r, hr, hur⟩ := List.mem_flatten.1 hu
        obtain ⟨x, _, rfl⟩ := List.mem_map.1 hr
        simp only [Sh.cells, List.mem_cons, List.not_mem_nil, or_false] at hur
        rcases hur with rfl | rfl | rfl | rfl <;> rfl) ?_
      intro w2 hown2 hon2
      have HM2 := Lib.hid (HMd.out.setB HK.out hon2 hown2 HMd.out.lp)
      have HK2 := Lib.hid (HKd.out.trans (K3.of_only hon2 (.inr (.inr rfl))))
      clear hown2 hon2
      go_wp2_with
        (refine wpList_store_field 3 (.tmp 33) (.tmp 31) rfl rfl gS 5 (.int .i64 en) rfl rfl 46 _ HM2.out.st (by kernel_rfl) (by simp) rfl rfl ?_
         intro w3 hx3 hon3
         have HM3 := Lib.hid (HM2.out.setE HK.out hon3 hx3)
         have HK3 := Lib.hid (HK2.out.trans (K3.of_only hon3 (.inl rfl)))
         clear hx3 hon3)
      try go_end0
      exact HFin.out _ HM3.out HK3.out
  | succ left ih =>
    intro plan best fr en se w hM hB
    have HM := Lib.hid hM
    have HK := Lib.hid hK
    have HBd := Lib.hid hB
    by_cases h1 : se ≤ en
    · have HR : Hid (placeF (probOf ts ws) (left + 1) plan fr en (best, se) = (best, se)) := hide (place_no _ _ _ _ _ _ h1)
      rw [HR.out]
      have HFin : Hid (PlR lo gS gC gP gB A n c B nw cw rw_ rc ts ws plan (best, se) w (.returned (.tuple #[])) w) := hide ⟨rfl, HM.out, K3.refl _⟩
      generalize PlR lo gS gC gP gB A n c B nw cw rw_ rc ts ws plan (best, se) w = RR at *
      have d1 : decide (en ≥ se) = true := decide_eq_true h1
      have c5 : w.cell? ⟨gS, 5, none⟩ = some (.int .i64 se) := HM.out.st.cell 5
      clear hM hB hK h1 ih HR
      go_enter Try.func14, Try.ntmps14
      go_wp2_with fail
      try go_end0
      exact HFin.out
    · have HR : Hid (placeF (probOf ts ws) (left + 1) plan fr en (best, se) = foldK (outP (probOf ts ws) left plan fr en) n 0 (best, se)) := hide (by
        rw [place_succ _ _ _ _ _ _ h1]
        show foldK _ ts.length _ _ = _
        rw [hts])
      rw [HR.out]
      obtain ⟨R, hR⟩ : ∃ R, foldK (outP (probOf ts ws) left plan fr en) n 0 (best, se) = R := ⟨_, rfl⟩
      have HR0 := Lib.hid hR
      rw [hR]
      obtain ⟨R1, R2⟩ := R
      have HFin : Hid (∀ w', SeaM w' lo gS gC gP gB A n c B nw cw rw_ rc ts ws plan R1 R2 → K3 gS gP gB w w' → PlR lo gS gC gP gB A n c B nw cw rw_ rc ts ws plan (R1, R2) w (.returned (.tuple #[])) w') := hide (fun w' h1 h2 => ⟨rfl, h1, h2⟩)
      generalize PlR lo gS gC gP gB A n c B nw cw rw_ rc ts ws plan (R1, R2) w = RR at *
      have HC : Hid (∀ (plan best : List Sh) (fr en se : Int) (w : World), SeaM w lo gS gC gP gB A n c B nw cw rw_ rc ts ws plan best se → BdP n left plan fr en → Calls Try.prog 14 #[.pointer (some ⟨gS, 0, none⟩), .int .i64 (left : Int), .int .i64 fr, .int .i64 en] w (fun e w' => e = .returned (.tuple #[]) ∧ SeaM w' lo gS gC gP gB A n c B nw cw rw_ rc ts ws plan (placeF (probOf ts ws) left plan fr en (best, se)).1 (placeF (probOf ts ws) left plan fr en (best, se)).2 ∧ K3 gS gP gB w w')) := ih
      have HTs := Lib.hid hts
      have HWs := Lib.hid hws
      have HSec := Lib.hid hsec
      have HRc := Lib.hid hrc
      have hlc : ((left + 1 : Nat) : Int) = (left : Int) + 1 := by omega
      have hle := hB.hle
      have hfr := hB.hfr
      have hen := hB.hen
      rw [hlc] at hfr hen ⊢
      have d1 : decide (en ≥ se) = false := decide_eq_false h1
      have d2 : (((left : Int) + 1) == 0) = false := beq_eq_false_iff_ne.2 (by omega)
      have dl : (left : Int) + 1 - 1 = (left : Int) := by omega
      have c5 : w.cell? ⟨gS, 5, none⟩ = some (.int .i64 se) := HM.out.st.cell 5
      have c0 : w.cell? ⟨gS, 0, none⟩ = some (.slice A n c) := HM.out.st.cell 0
      clear hM hB hK ih HR hR hts hws hsec hrc
      go_enter Try.func14, Try.ntmps14
      go_wp2_with fail
      clear c5 c0 h1
      go_loopg [39] n (fun gg q wr => ∃ (i : Nat) (be : List Sh) (sn : Int), i ≤ n ∧ gg + i = n ∧ q = .int .i64 i ∧ SeaM wr lo gS gC gP gB A n c B nw cw rw_ rc ts ws plan be sn ∧ K3 gS gP gB w wr ∧ Hid (foldK (outP (probOf ts ws) left plan fr en) n i (be, sn) = (R1, R2)))
      case atStart => exact ⟨0, best, se, by omega, rfl, rfl, HM.out, K3.refl _, hide HR0.out⟩
      case round =>
        obtain ⟨i, be, sn, hi, hgi, rfl, hM2, hK2, HF⟩ := hrel
        obtain ⟨wo, rfl⟩ : ∃ wo : World, wo = wr := ⟨_, rfl⟩
        have HMo := Lib.hid hM2
        have HKo := Lib.hid hK2
        clear hM2 hK2
        by_cases hlt : i < n
        · obtain ⟨ad, z, rfl, hab, hcl, hz⟩ := HMo.out.ts.at_ hlt
          have HF1 : Hid (foldK (outP (probOf ts ws) left plan fr en) n (i + 1) (outP (probOf ts ws) left plan fr en (be, sn) i) = (R1, R2)) := hide (foldK_congr HF.out hlt)
          have hsec := HSec.out i hlt
          have hpz := HBd.out.hz i hlt
          have HPc : Hid (∀ j u, ((plan.getD i sh0).cells)[j]? = some u → ∀ W, SeaM W lo gS gC gP gB (some ad) n c B nw cw rw_ rc ts ws plan be sn → W.cell? ((⟨gP, i * 4, none⟩ : Addr).add j) = some u) := hide fun j u hu W hW => get_own hW.pl hW.lp hlt j u hu
          have HO1 : Hid ((plan.getD i sh0).g ≠ 0 → outP (probOf ts ws) left plan fr en (be, sn) i = (be, sn)) := hide fun h => by unfold outP; rw [if_pos h]
          have HO2 : Hid ((plan.getD i sh0).g = 0 → outP (probOf ts ws) left plan fr en (be, sn) i = foldK (inP (probOf ts ws) left plan fr en i) nw 0 (be, sn)) := hide fun h => by
            unfold outP
            rw [if_neg (fun h2 => h2 h)]
            show foldK _ ws.length _ _ = _
            rw [HWs.out]
          have HPut : Hid (∀ k : Nat, putSh (probOf ts ws) plan i k = plan.set i ⟨(k : Int) + 1, (ts.getD i tk0).run, earl (probOf ts ws) plan i ((k : Int) + 1), earl (probOf ts ws) plan i ((k : Int) + 1) + (ts.getD i tk0).sec⟩) := hide fun k => rfl
          have HIno : Hid (∀ (s : List Sh × Int) (k : Nat), ((ts.getD i tk0).win = true ∧ ws.getD k false = false) ∨ earl (probOf ts ws) plan i ((k : Int) + 1) < fr → inP (probOf ts ws) left plan fr en i s k = s) := hide fun s k h => by
            unfold inP
            refine if_pos (h.imp (fun h => ?_) id)
            show (!((ts.getD i tk0).win && !(ws.getD k false))) = false
            rw [h.1, h.2]
            rfl
          have HIyes : Hid (∀ (s : List Sh × Int) (k : Nat), ¬ (((ts.getD i tk0).win = true ∧ ws.getD k false = false) ∨ earl (probOf ts ws) plan i ((k : Int) + 1) < fr) → inP (probOf ts ws) left plan fr en i s k = placeF (probOf ts ws) left (putSh (probOf ts ws) plan i k) (earl (probOf ts ws) plan i ((k : Int) + 1)) (max en (earl (probOf ts ws) plan i ((k : Int) + 1) + (ts.getD i tk0).sec)) s) := hide fun s k h => by
            unfold inP
            refine if_neg fun h2 => h (h2.imp (fun h3 => ?_) id)
            have h4 : (!((ts.getD i tk0).win && !(ws.getD k false))) = false := h3
            exact cap_no h4
          have HStep : Hid (∀ k : Nat, BdP n left (putSh (probOf ts ws) plan i k) (earl (probOf ts ws) plan i ((k : Int) + 1)) (max en (earl (probOf ts ws) plan i ((k : Int) + 1) + (ts.getD i tk0).sec))) := hide fun k => HBd.out.step HMo.out.lp hlt hsec
          have HEb : Hid (∀ k : Nat, 0 ≤ earl (probOf ts ws) plan i ((k : Int) + 1) ∧ earl (probOf ts ws) plan i ((k : Int) + 1) ≤ 600000) := hide fun k => by
            have h1 := HBd.out.earl HMo.out.lp (probOf ts ws) i ((k : Int) + 1)
            omega
          obtain ⟨a, ha⟩ : ∃ a, ts.getD i tk0 = a := ⟨_, rfl⟩
          rw [ha] at hcl hz hsec HPut HIno HIyes HStep
          obtain ⟨run, sec, win, cl⟩ := a
          obtain ⟨Az, nz, cz, rfl, _, _, _, _⟩ := hz.nam
          have HCl2 : Hid (∀ i' u, ([.int .i64 run, .int .i64 sec, .bool win, .slice Az nz cz] : List Value)[i']? = some u → wo.cell? ((ad.add (i * 4)).add i') = some u) := hcl
          simp only at hsec HPut HIno HIyes HStep
          obtain ⟨⟨qg, qrun, qfr, qtt⟩, hq⟩ : ∃ q, plan.getD i sh0 = q := ⟨_, rfl⟩
          have HPi := Lib.hid hq
          rw [hq] at hpz HPc HO1 HO2
          simp only at hpz HO1 HO2
          have hlG : gS < wo.heap.size ∧ gP < wo.heap.size ∧ gB < wo.heap.size := ⟨HMo.out.st.lt, (World.ownsRow.lt HMo.out.pl gP rfl).2, (World.ownsRow.lt HMo.out.be gB rfl).2⟩
          clear hcl hz ha hq HF
          go_upto_region 7 with (refine wpList_load_at 34 (.tmp 42) rfl rfl (ad.add (i * 4)) rfl [.int .i64 run, .int .i64 sec, .bool win, .slice Az nz cz] HCl2.out _ Try.underlying34 rfl (by kernel_rfl) ?_)
          have HBw3 := (Blk.new wo 34 #[.int .i64 run, .int .i64 sec, .bool win, .slice Az nz cz])
          have HLw3 := (below_new wo (.cells #[.int .i64 run, .int .i64 sec, .bool win, .slice Az nz cz] 34))
          have hsw3 : (wo.alloc (.cells #[.int .i64 run, .int .i64 sec, .bool win, .slice Az nz cz] 34)).heap.size = wo.heap.size + 1 := by simp
          generalize wo.alloc (.cells #[.int .i64 run, .int .i64 sec, .bool win, .slice Az nz cz] 34) = w3 at HBw3 HLw3 hsw3 ⊢
          replace HBw3 := Lib.hid HBw3
          replace HLw3 := Lib.hid HLw3
          have hlw3 : wo.heap.size < w3.heap.size := by omega
          replace hsw3 := Lib.hid hsw3
          have HM3 := Lib.hid (HMo.out.below HLw3.out)
          have HK3 := Lib.hid (HKo.out.trans (K3.of_below HLw3.out))
          have HA3 := HBw3
          have hszA : wo.heap.size < w3.heap.size := hlw3
          clear HBw3 HLw3 hsw3 hlw3 HCl2 HMo HKo
          have c3 : w3.cell? ⟨gS, 3, none⟩ = some (.slice (some ⟨gP, 0, none⟩) n n) := HM3.out.st.cell 3
          have cg : w3.cell? ⟨gP, i * 4, none⟩ = some (.int .i64 qg) := by
            have h := HPc.out 0 _ rfl w3 HM3.out
            rwa [show (⟨gP, i * 4, none⟩ : Addr).add 0 = ⟨gP, i * 4, none⟩ by unfold Addr.add; simp] at h
          have hil : (i : Int) < (n : Int) := by omega
          by_cases hg0 : qg = 0
          rotate_left
          · have d3 : (qg != 0) = true := bne_iff_ne.2 hg0
            have HN := Lib.hid (HF1.out)
            rw [HO1.out hg0] at HN
            clear hg0
            go_wp2_with fail
            go_roundg (n - (i + 1))
            case measure => omega
            case rel => exact ⟨i + 1, be, sn, by omega, by omega, by go_num, HM3.out, HK3.out, hide HN.out⟩
          have d3 : (qg != 0) = false := by rw [hg0]; rfl
          have HPz : Hid (plan.getD i sh0 = sh0) := hide (HPi.out.trans (hpz hg0))
          have HO := Lib.hid (HO2.out hg0)
          rw [HO.out] at HF1
          obtain ⟨⟨Q1, Q2⟩, hQ⟩ : ∃ q, foldK (inP (probOf ts ws) left plan fr en i) nw 0 (be, sn) = q := ⟨_, rfl⟩
          rw [hQ] at HF1
          have HQ0 := Lib.hid hQ
          have c1 : w3.cell? ⟨gS, 1, none⟩ = some (.slice B nw cw) := HM3.out.st.cell 1
          clear hg0 hpz HO1 HO2 HO HPc HPi hQ
          go_wp2_with fail
          clear c3 cg c1 d3
          go_loopg [58] nw (fun g2 q wr => ∃ (k : Nat) (b2 : List Sh) (s2 : Int), k ≤ nw ∧ g2 + k = nw ∧ q = .int .i64 k ∧ SeaM wr lo gS gC gP gB (some ad) n c B nw cw rw_ rc ts ws plan b2 s2 ∧ K3 gS gP gB w wr ∧ Blk wr wo.heap.size 34 #[.int .i64 run, .int .i64 sec, .bool win, .slice Az nz cz] ∧ Hid (foldK (inP (probOf ts ws) left plan fr en i) nw k (b2, s2) = (Q1, Q2)))
          case atStart => exact ⟨0, be, sn, by omega, rfl, rfl, HM3.out, HK3.out, HA3.out, hide HQ0.out⟩
          case round =>
            clear HM3 HK3 HA3 HQ0
            obtain ⟨k, b2, s2, hk, hgk, rfl, hM2, hK2, hA2, HF⟩ := hrel
            obtain ⟨wi, rfl⟩ : ∃ wi : World, wi = wr := ⟨_, rfl⟩
            have HMi := Lib.hid hM2
            have HKi := Lib.hid hK2
            have HAi := Lib.hid hA2
            clear hM2 hK2 hA2
            by_cases hlt2 : k < nw
            · obtain ⟨aw, rfl, hawb, hwc⟩ := HMi.out.ws.bool hlt2
              have HFn : Hid (foldK (inP (probOf ts ws) left plan fr en i) nw (k + 1) (inP (probOf ts ws) left plan fr en i (b2, s2) k) = (Q1, Q2)) := hide (foldK_congr HF.out hlt2)
              have HNo := Lib.hid (HIno.out (b2, s2) k)
              have HYe := Lib.hid (HIyes.out (b2, s2) k)
              have HPk := Lib.hid (HPut.out k)
              have HSt := Lib.hid (HStep.out k)
              have heb := HEb.out k
              have HEa : Hid (∀ W, SeaM W lo gS gC gP gB (some ad) n c (some aw) nw cw rw_ rc ts ws plan b2 s2 → Calls Try.prog 24 #[.pointer (some ⟨gS, 0, none⟩), .int .i64 (i : Int), .int .i64 ((k : Int) + 1)] W fun e w' => e = .returned (.int .i64 (earl (probOf ts ws) plan i ((k : Int) + 1))) ∧ Below W.heap.size W w') := hide fun W hW => earliest_any lo gS gC gP gB _ n c _ nw cw rw_ rc ts ws plan b2 s2 i ((k : Int) + 1) W hW hlt (by omega) (HRc.out i hlt)
              generalize earl (probOf ts ws) plan i ((k : Int) + 1) = t at *
              generalize ws.getD k false = has at *
              have a2 : wi.cell? ⟨wo.heap.size, 2, none⟩ = some (.bool win) := HAi.out.cell 2
              clear HF
              by_cases hbad : win = true ∧ has = false
              · obtain ⟨rfl, rfl⟩ := hbad
                have HN := Lib.hid HFn.out
                rw [HNo.out (.inl ⟨rfl, rfl⟩)] at HN
                go_wp2_with fail
                go_roundg (nw - (k + 1))
                case measure => omega
                case rel => exact ⟨k + 1, b2, s2, by omega, by omega, by go_num, HMi.out, HKi.out, HAi.out, hide HN.out⟩
              · have HCase : Hid (win = false ∨ has = true) := hide (bad_case hbad)
                by_cases hlow : t < fr
                · have d6 : decide (t < fr) = true := decide_eq_true hlow
                  have HN := Lib.hid HFn.out
                  rw [HNo.out (.inr hlow)] at HN
                  clear hbad hlow
                  cases win with
                  | false =>
                    go_wp2_with fail
                    with_reducible refine (HEa.out wi HMi.out).mono ?_
                    rintro e w4 ⟨rfl, hb4⟩
                    have HM4 := Lib.hid (HMi.out.below hb4)
                    have HK4 := Lib.hid (HKi.out.trans (K3.of_below hb4))
                    have HA4 := Lib.hid (HAi.out.below hb4 HAi.out.lt)
                    clear hb4
                    go_wp2_with fail
                    go_roundg (nw - (k + 1))
                    case measure => omega
                    case rel => exact ⟨k + 1, b2, s2, by omega, by omega, by go_num, HM4.out, HK4.out, HA4.out, hide HN.out⟩
                  | true =>
                    obtain rfl : has = true := HCase.out.resolve_left (by decide)
                    go_wp2_with fail
                    with_reducible refine (HEa.out wi HMi.out).mono ?_
                    rintro e w4 ⟨rfl, hb4⟩
                    have HM4 := Lib.hid (HMi.out.below hb4)
                    have HK4 := Lib.hid (HKi.out.trans (K3.of_below hb4))
                    have HA4 := Lib.hid (HAi.out.below hb4 HAi.out.lt)
                    clear hb4
                    go_wp2_with fail
                    go_roundg (nw - (k + 1))
                    case measure => omega
                    case rel => exact ⟨k + 1, b2, s2, by omega, by omega, by go_num, HM4.out, HK4.out, HA4.out, hide HN.out⟩
                · have d6 : decide (t < fr) = false := decide_eq_false hlow
                  have HN := Lib.hid HFn.out
                  rw [HYe.out (fun h => h.elim hbad hlow)] at HN
                  obtain ⟨mx, hmx⟩ : ∃ x, max en (t + sec) = x := ⟨_, rfl⟩
                  rw [hmx] at HN HSt
                  have hmx2 : (if t + sec > en then t + sec else en) = mx := by rw [← hmx]; split <;> omega
                  obtain ⟨⟨B3, S3⟩, hBS⟩ : ∃ r, placeF (probOf ts ws) left (putSh (probOf ts ws) plan i k) t mx (b2, s2) = r := ⟨_, rfl⟩
                  rw [hBS] at HN
                  have HCk : Hid (∀ W, SeaM W lo gS gC gP gB (some ad) n c (some aw) nw cw rw_ rc ts ws (putSh (probOf ts ws) plan i k) b2 s2 → Calls Try.prog 14 #[.pointer (some ⟨gS, 0, none⟩), .int .i64 (left : Int), .int .i64 t, .int .i64 mx] W (fun e w' => e = .returned (.tuple #[]) ∧ SeaM w' lo gS gC gP gB (some ad) n c (some aw) nw cw rw_ rc ts ws (putSh (probOf ts ws) plan i k) B3 S3 ∧ K3 gS gP gB W w')) := hide fun W hW => by
                    have h := HC.out _ b2 t mx s2 W hW HSt.out
                    rw [hBS] at h
                    exact h
                  clear hbad hlow hmx hBS HNo HYe HFn
                  go_upto_region 11 with (fail)
                  go_cut [68] (fun s wx => s = .bool false ∧ wi = wx)
                  case first =>
                    cases win with
                    | false =>
                      go_wp2_with fail
                      go_meet
                      exact ⟨rfl, rfl⟩
                    | true =>
                      obtain rfl : has = true := HCase.out.resolve_left (by decide)
                      go_wp2_with fail
                      go_meet
                      exact ⟨rfl, rfl⟩
                  obtain ⟨rfl, rfl⟩ := hcut
                  clear a2 hwc
                  go_wp2_with fail
                  with_reducible refine (HEa.out wi HMi.out).mono ?_
                  rintro e w4 ⟨rfl, hb4⟩
                  have HM4 := Lib.hid (HMi.out.below hb4)
                  have HK4 := Lib.hid (HKi.out.trans (K3.of_below hb4))
                  have HA4 := Lib.hid (HAi.out.below hb4 HAi.out.lt)
                  have hgA : wo.heap.size < w4.heap.size := HA4.out.lt
                  clear hb4
                  have c3 : w4.cell? ⟨gS, 3, none⟩ = some (.slice (some ⟨gP, 0, none⟩) n n) := HM4.out.st.cell 3
                  have a0 : w4.cell? ⟨wo.heap.size, 0, none⟩ = some (.int .i64 run) := HA4.out.cell 0
                  have a1 : w4.cell? ⟨wo.heap.size, 1, none⟩ = some (.int .i64 sec) := HA4.out.cell 1
                  have hw1 : IntKind.i64.wrap ((k : Int) + 1) = (k : Int) + 1 := IntWalk.i64_in _ (by omega)
                  have hw2 : IntKind.i64.wrap (t + sec) = t + sec := IntWalk.i64_in _ (by omega)
                  go_upto_region 14 with (fail)
                  go_still_tail 16, (by kernel_rfl)
                  change wpList _ _ _ _ _ w4.drew
                  have HM5 := Lib.hid (HM4.out.below (Below.refl _ _).drew)
                  have HK5 := Lib.hid (HK4.out.trans (K3.of_below (Below.refl _ _).drew))
                  have HA5 := Lib.hid (HA4.out.below (Below.refl _ _).drew hgA)
                  have hgA5 : wo.heap.size < w4.drew.heap.size := hgA
                  clear HM4 HK4 HA4 c3 a0 a1 hw1 hw2 hgA
                  generalize w4.drew = w5 at *
                  have HShe : Hid (∀ u ∈ Sh.cells ⟨(k : Int) + 1, run, t, t + sec⟩, u.oneCell' = true) := hide (by intro u hu; simp only [Sh.cells, List.mem_cons, List.not_mem_nil, or_false] at hu; rcases hu with rfl | rfl | rfl | rfl <;> rfl)
                  go_upto_region 15 with
                    (refine wpList_store_ownG (f := Sh.cells) (s := 4) 50 (.tmp 92) (.tmp 91) rfl rfl HM5.out.pl HM5.out.lp i hlt ⟨(k : Int) + 1, run, t, t + sec⟩ _ rfl rfl rfl (fun _ => rfl) (by kernel_rfl) HShe.out ?_
                     intro w6 hown6 hon6
                     have HM6 : Hid (SeaM w6 lo gS gC gP gB (some ad) n c (some aw) nw cw rw_ rc ts ws (putSh (probOf ts ws) plan i k) b2 s2) := hide (by rw [HPk.out]; exact HM5.out.setP HK.out hon6 hown6 (by rw [List.length_set]; exact HM5.out.lp))
                     have HK6 := Lib.hid (HK5.out.trans (K3.of_only hon6 (.inr (.inl rfl))))
                     have HA6 := Lib.hid (hon6.blk HA5.out (by omega))
                     clear hown6 hon6)
                  have a1 : w6.cell? ⟨wo.heap.size, 1, none⟩ = some (.int .i64 sec) := HA6.out.cell 1
                  go_wp2_with fail
                  clear a1
                  with_reducible refine (HCk.out w6 HM6.out).mono ?_
                  rintro e w7 ⟨rfl, hm7, hk7⟩
                  have HM7 := Lib.hid hm7
                  have HK7 := Lib.hid (HK6.out.trans hk7)
                  have hne : wo.heap.size ≠ gS ∧ wo.heap.size ≠ gP ∧ wo.heap.size ≠ gB := by omega
                  have HA7 := Lib.hid (hk7.blk HA6.out hne.1 hne.2.1 hne.2.2)
                  have c3 : w7.cell? ⟨gS, 3, none⟩ = some (.slice (some ⟨gP, 0, none⟩) n n) := HM7.out.st.cell 3
                  clear hm7 hk7
                  go_wp2_with
                    (refine wpList_store_ownG (f := Sh.cells) (s := 4) 50 (.tmp 110) (.tmp 109) rfl rfl HM7.out.pl HM7.out.lp i hlt sh0 _ rfl rfl rfl (fun _ => rfl) (by kernel_rfl) (by intro u hu; simp only [Sh.cells, sh0, List.mem_cons, List.not_mem_nil, or_false] at hu; rcases hu with rfl | rfl | rfl | rfl <;> rfl) ?_
                     intro w8 hown8 hon8
                     have HM8 : Hid (SeaM w8 lo gS gC gP gB (some ad) n c (some aw) nw cw rw_ rc ts ws plan B3 S3) := hide (by
                       have h := HM7.out.setP HK.out hon8 hown8 (by rw [List.length_set]; exact HM7.out.lp)
                       rw [HPk.out, set_back (by rw [HMi.out.lp]; exact hlt) HPz.out] at h
                       exact h)
                     have HK8 := Lib.hid (HK7.out.trans (K3.of_only hon8 (.inr (.inl rfl))))
                     have HA8 := Lib.hid (hon8.blk HA7.out hne.2.1)
                     clear hown8 hon8)
                  go_roundg (nw - (k + 1))
                  case measure => omega
                  case rel => exact ⟨k + 1, B3, S3, by omega, by omega, by go_num, HM8.out, HK8.out, HA8.out, hide HN.out⟩
            · obtain rfl : k = nw := by omega
              have HN : Hid ((b2, s2) = (Q1, Q2)) := hide (by rw [← HF.out, foldK_end])
              have h1 : b2 = Q1 := congrArg Prod.fst HN.out
              have h2 : s2 = Q2 := congrArg Prod.snd HN.out
              subst h1 h2
              go_wp2_with fail
              go_roundg (n - (i + 1))
              case measure => omega
              case rel => exact ⟨i + 1, _, _, by omega, by omega, by go_num, HMi.out, HKi.out, hide HF1.out⟩
        · obtain rfl : i = n := by omega
          have HN : Hid ((be, sn) = (R1, R2)) := hide (by rw [← HF.out, foldK_end])
          have h1 : be = R1 := congrArg Prod.fst HN.out
          have h2 : sn = R2 := congrArg Prod.snd HN.out
          subst h1 h2
          go_wp2_with fail
          try go_end0
          exact HFin.out _ HMo.out HKo.out
end Go.Proofs.Ytbegehooefhiiaa
