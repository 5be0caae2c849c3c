/-
  Best and Least of route, walked.
-/
import Derived.Test.YtbegehooefhiiaaRouE
import Derived.Test.YtbegehooefhiiaaRegY
namespace Go.Proofs.Ytbegehooefhiiaa
open Go.RowKit

section
variable {P : Program} {ops : Array Oper} {Q : Exit → Act → World → Prop} {a : Act} {w : World} {K : Act → World → Prop}
theorem op_make (i : Nat) (d : Option Tmp) (t : TypeId) (l c : Operand) (hi : opFacts ops a i = some (d, .makeSlice t l c, true)) {e : TypeId} (hu : P.underlying t = some (.slice e)) {z : Value} {size bytes : Nat} (hinf : (P.info? e).map (fun i => (i.zero, i.size, i.bytes)) = some (some z, size, bytes)) (n : Nat) (hl : a.eval l = .int .i64 (n : Int)) (hc : a.eval c = .int .i64 (n : Int)) (hb : bytes * n ≤ 281474976710656 ∧ n ≤ 1000000)
    (h : ∀ w', Blk w' w.heap.size e (madeCells z.cells (n * size)) → Below w.heap.size w w' → K (a.put d (.slice (some ⟨w.heap.size, 0, none⟩) n n)) w') : wpOp P ops Q i K a w := by
  refine op_go i d _ hi fun o hd hop K' hK => ?_
  obtain ⟨inf, h1, h2, h3, h4⟩ := info_parts hinf
  subst h3 h4
  have hb' : (inf.bytes : Int) * (n : Int) ≤ 281474976710656 := by
    have h : ((inf.bytes * n : Nat) : Int) ≤ 281474976710656 := by omega
    rwa [Int.natCast_mul] at h
  have hr := run_make (P := P) w t e inf z hu h1 h2 .i64 .i64 n n (by omega) (Int.le_refl _) hb' (by omega)
  simp only [Int.toNat_natCast] at hr
  subst hd
  unfold Oper.wp
  simp [execOp, hop, hl, hc, hr, Result.andThen]
  exact hK _ _ (h _ (Blk.new w e _) (below_new w _))
end
theorem inf_bools : (Try.prog.info? 23).map (fun i => (i.zero, i.size, i.bytes)) = some (some (.slice none 0 0), 1, 24) := by kernel_rfl
theorem inf_shift : (Try.prog.info? 50).map (fun i => (i.zero, i.size, i.bytes)) = some (some (.agg #[.int .i64 0, .int .i64 0, .int .i64 0, .int .i64 0]), 4, 32) := by kernel_rfl
theorem made_flat (z : Array Value) (n s : Nat) (hz : z.size = s) (hs : 0 < s) : (madeCells z (n * s)).toList = (List.replicate n z.toList).flatten := by
  have hlen : ((List.replicate n z.toList).flatten).length = n * s := by rw [List.length_flatten]; simp [hz]
  apply List.ext_getElem?
  intro j
  by_cases hj : j < n * s
  · have hdiv : j / s < n := Nat.div_lt_of_lt_mul (by rw [Nat.mul_comm]; exact hj)
    have hmod : j % s < s := Nat.mod_lt _ hs
    have ej : j = j / s * s + j % s := by rw [Nat.mul_comm]; exact (Nat.div_add_mod j s).symm
    have h1 : (madeCells z (n * s)).toList[j]? = some z[j % s]! := by simp [madeCells, hj, hz]
    have h2 : ((List.replicate n z.toList).flatten)[j]? = z.toList[j % s]? := by
      conv => lhs; rw [ej]
      rw [flat_at s _ (fun r hr => by rw [(List.mem_replicate.1 hr).2, Array.length_toList, hz]) (j / s) (j % s) hmod, List.getElem?_replicate, if_pos hdiv]
      rfl
    rw [h1, h2, Array.getElem?_toList, Array.getElem?_eq_getElem (by omega)]
    simp [hz, hmod]
  · rw [List.getElem?_eq_none (by rw [Array.length_toList, size_madeCells]; omega), List.getElem?_eq_none (by omega)]
abbrev CZ (n : Nat) : Array Value := madeCells (Value.slice none 0 0).cells (n * 1)
abbrev SZ (n : Nat) : Array Value := madeCells (Value.agg #[.int .i64 0, .int .i64 0, .int .i64 0, .int .i64 0]).cells (n * 4)
/-- what is made at first -/
structure FrM (w : World) (lo gS gC gP gB : Nat) (A : Option Addr) (n c : Nat) (B : Option Addr) (nw cw : Nat) : Prop where
  st : Blk w gS 46 #[.slice A n c, .slice B nw cw, .slice (some ⟨gC, 0, none⟩) n n, .slice (some ⟨gP, 0, none⟩) n n, .slice (some ⟨gB, 0, none⟩) n n, .int .i64 1]
  cl : Blk w gC 23 (CZ n)
  pl : Blk w gP 50 (SZ n)
  be : Blk w gB 50 (SZ n)
  low : lo ≤ gS ∧ lo ≤ gC ∧ lo ≤ gP ∧ lo ≤ gB
  ne : gP ≠ gB ∧ gS ≠ gC ∧ gS ≠ gP ∧ gS ≠ gB ∧ gC ≠ gP ∧ gC ≠ gB
theorem run_litB {P : Program} (w : World) (t e : TypeId) (b : Bool) (hu : P.underlying t = some (.slice e)) (hi : (P.info? e).map (fun i => (i.zero, i.size, i.bytes)) = some (some (.bool false), 1, 1)) : (Instr.buildSlice t 1 #[(0, .bool b)]).run P w = .ok (.slice (some ⟨w.heap.size, 0, none⟩) 1 1) (w.alloc (.cells #[.bool b] e)) := by
  obtain ⟨inf, hq, hz, h1, _⟩ := info_parts hi
  simp [Instr.buildSlice, run_underlying hu, sizeOf, typeInfo, zeroValue, hq, h1, hz, Instr.fill, newRow, Value.cells]
  congr 2
  apply Array.ext
  · simp
  · intro k h2 h3
    have : k = 0 := by simp at h3; omega
    subst this
    simp
theorem ei_bools : EInfo Try.prog 23 4 1 1 := EInfo.mk' Try.underlying23 (z := .bool false) (by kernel_rfl) rfl (by omega)
theorem set_same {α : Type} {l : List α} {i : Nat} {x : α} (h : l[i]? = some x) : l.set i x = l := by
  apply List.ext_getElem?
  intro j
  rw [List.getElem?_set]
  split
  · rename_i e
    subst e
    have := (List.getElem?_eq_some_iff.1 h).1
    rw [if_pos this, h]
  · rfl
theorem plan_zero (n : Nat) : (SZ n).toList = (((List.replicate n sh0).map Sh.cells).flatten) := by
  unfold SZ
  rw [made_flat _ n 4 rfl (by omega), List.map_replicate]
  rfl
theorem own_made {w : World} {lo g n : Nat} {e : TypeId} {z : Array Value} {s : Nat} (h : Blk w g e (madeCells z (n * s))) (hl : lo ≤ g) (hn : n ≤ maxLen) : w.ownsRow lo e s (.slice (some ⟨g, 0, none⟩) n n) n (madeCells z (n * s)).toList :=
  ⟨by simp [size_madeCells], .inr ⟨g, n, _, rfl, hl, h, Nat.le_refl _, hn, size_madeCells _ _, List.take_of_length_le (by simp [size_madeCells])⟩⟩
/-- a row of the table of clashes that is whole -/
def RowF (w : World) (gS gC gP gB n : Nat) (ts : List Tk) (j : Nat) (v : Value) : Prop := ∃ r c, v = .slice (some ⟨r, 0, none⟩) n c ∧ n ≤ c ∧ r < w.heap.size ∧ (r ≠ gS ∧ r ≠ gC ∧ r ≠ gP ∧ r ≠ gB) ∧ ∀ q, q < n → w.cell? ⟨r, q, none⟩ = some (.bool (clashT (ts.getD j tk0) (ts.getD q tk0)))
/-- the search as it is built, k rows of clashes done -/
structure BuM (w : World) (lo gS gC gP gB : Nat) (A : Option Addr) (n c : Nat) (B : Option Addr) (nw cw : Nat) (ts : List Tk) (ws : List Bool) (k : Nat) (vs : List Value) (en : Int) : Prop where
  st : Blk w gS 46 #[.slice A n c, .slice B nw cw, .slice (some ⟨gC, 0, none⟩) n n, .slice (some ⟨gP, 0, none⟩) n n, .slice (some ⟨gB, 0, none⟩) n n, .int .i64 en]
  pl : OwnSh w lo gP n (List.replicate n sh0)
  be : OwnSh w lo gB n (List.replicate n sh0)
  cl : w.ownsRow lo 23 1 (.slice (some ⟨gC, 0, none⟩) n n) n vs
  rows : ∀ j, j < k → ∃ v, vs[j]? = some v ∧ RowF w gS gC gP gB n ts j v
  rest : ∀ j, k ≤ j → j < n → vs[j]? = some (.slice none 0 0)
  ts : Tks w lo A n ts
  ws : Bools w lo B nw ws
  low : lo ≤ w.heap.size ∧ lo ≤ gS ∧ lo ≤ gC ∧ lo ≤ gP ∧ lo ≤ gB
  ne : gP ≠ gB ∧ gS ≠ gC ∧ gS ≠ gP ∧ gS ≠ gB ∧ gC ≠ gP ∧ gC ≠ gB
section
variable {w w' : World} {lo gS gC gP gB : Nat} {A : Option Addr} {n c : Nat} {B : Option Addr} {nw cw : Nat} {ts : List Tk} {ws : List Bool} {k : Nat} {vs : List Value} {en : Int}
theorem RowF.kept {j : Nat} {v : Value} (h : RowF w gS gC gP gB n ts j v) (hs : w.heap.size ≤ w'.heap.size) (hb : ∀ q, q < w.heap.size → q ≠ gS → q ≠ gC → q ≠ gP → q ≠ gB → w'.heap[q]? = w.heap[q]?) : RowF w' gS gC gP gB n ts j v := by
  obtain ⟨r, cc, h1, h2, h3, ⟨a, b, d, e⟩, h5⟩ := h
  exact ⟨r, cc, h1, h2, Nat.lt_of_lt_of_le h3 hs, ⟨a, b, d, e⟩, fun q hq => (World.cell?_of_block (w := w) (hb r h3 a b d e)).trans (h5 q hq)⟩
theorem BuM.below (h : BuM w lo gS gC gP gB A n c B nw cw ts ws k vs en) (hb : Below w.heap.size w w') : BuM w' lo gS gC gP gB A n c B nw cw ts ws k vs en :=
  ⟨h.st.below hb h.st.lt, own_below h.pl hb (Nat.le_refl _), own_below h.be hb (Nat.le_refl _), own_below h.cl hb (Nat.le_refl _), fun j hj => by
    obtain ⟨v, h1, h2⟩ := h.rows j hj
    exact ⟨v, h1, h2.kept hb.size fun q hq _ _ _ _ => hb.block q hq⟩, h.rest, h.ts.below (hb.mono h.low.1), h.ws.below (hb.mono h.low.1), ⟨Nat.le_trans h.low.1 hb.size, h.low.2⟩, h.ne⟩
theorem BuM.setE (h : BuM w lo gS gC gP gB A n c B nw cw ts ws k vs en) {en' : Int} (ho : Only gS w w') (hp : Blk w' gS 46 #[.slice A n c, .slice B nw cw, .slice (some ⟨gC, 0, none⟩) n n, .slice (some ⟨gP, 0, none⟩) n n, .slice (some ⟨gB, 0, none⟩) n n, .int .i64 en']) : BuM w' lo gS gC gP gB A n c B nw cw ts ws k vs en' :=
  ⟨hp, ho.own h.pl (fun e => h.ne.2.2.1 (Option.some.inj e).symm), ho.own h.be (fun e => h.ne.2.2.2.1 (Option.some.inj e).symm), ho.own h.cl (fun e => h.ne.2.1 (Option.some.inj e).symm), fun j hj => by
    obtain ⟨v, h1, h2⟩ := h.rows j hj
    exact ⟨v, h1, h2.kept (Nat.le_of_eq ho.size.symm) fun q _ a _ _ _ => ho.block q a⟩, h.rest, h.ts.keep fun p hp => ho.cell (by have := h.low; omega), h.ws.keep fun p hp => ho.cell (by have := h.low; omega), ⟨by rw [ho.size]; exact h.low.1, h.low.2⟩, h.ne⟩
/-- behind the loop: the table has one more row -/
theorem BuM.row (h : BuM w lo gS gC gP gB A n c B nw cw ts ws k vs en) (hk : k < n) {v : Value} (hs : w.heap.size ≤ w'.heap.size) (hb : ∀ q, q < w.heap.size → q ≠ gC → w'.heap[q]? = w.heap[q]?) (hc : w'.ownsRow lo 23 1 (.slice (some ⟨gC, 0, none⟩) n n) n (vs.set k v)) (hr : RowF w' gS gC gP gB n ts k v) : BuM w' lo gS gC gP gB A n c B nw cw ts ws (k + 1) (vs.set k v) en := by
  have hg : gC < w.heap.size := (World.ownsRow.lt h.cl gC rfl).2
  have hvl : vs.length = n := by have := h.cl.1; simpa using this
  have kown : ∀ {e : TypeId} {s m : Nat} {g : Nat} {cap : Nat} {xs : List Value}, w.ownsRow lo e s (.slice (some ⟨g, 0, none⟩) m cap) m xs → g ≠ gC → w'.ownsRow lo e s (.slice (some ⟨g, 0, none⟩) m cap) m xs := by
    intro e s m g cap xs ho hne
    refine ⟨ho.1, ?_⟩
    rcases ho.2 with ⟨h0, _⟩ | ⟨g', cap', cur, hv, h1, h2, h3⟩
    · cases h0
    · have e0 : g' = g := by injection hv with hv; injection hv with hv; injection hv with hv; exact hv.symm
      subst e0
      exact .inr ⟨g', cap', cur, hv, h1, (hb g' (Array.getElem?_eq_some_iff.1 h2).1 hne).trans h2, h3⟩
  refine ⟨(hb gS h.st.lt h.ne.2.1).trans h.st, kown h.pl h.ne.2.2.2.2.1.symm, kown h.be h.ne.2.2.2.2.2.symm, hc, fun j hj => ?_, fun j hj hjn => ?_, h.ts.keep fun p hp => World.cell?_of_block (hb p.block (by have := h.low; omega) (by have := h.low; omega)), h.ws.keep fun p hp => World.cell?_of_block (hb p.block (by have := h.low; omega) (by have := h.low; omega)), ⟨Nat.le_trans h.low.1 hs, h.low.2⟩, h.ne⟩
  · rcases Nat.lt_or_ge j k with h1 | h1
    · obtain ⟨u, h2, h3⟩ := h.rows j h1
      exact ⟨u, by rw [List.getElem?_set_ne (by omega)]; exact h2, h3.kept hs fun q hq _ a _ _ => hb q hq a⟩
    · obtain rfl : j = k := by omega
      exact ⟨v, by rw [List.getElem?_set_self (by omega)], hr⟩
  · rw [List.getElem?_set_ne (by omega)]
    exact h.rest j (by omega) hjn
/-- the whole table: the search may begin -/
theorem BuM.done (h : BuM w lo gS gC gP gB A n c B nw cw ts ws n vs en) : ∃ rw_ rc : Nat → Nat, SeaK lo gS gC gP gB n rw_ ∧ (∀ i, i < n → n ≤ rc i) ∧ SeaM w lo gS gC gP gB A n c B nw cw rw_ rc ts ws (List.replicate n sh0) (List.replicate n sh0) en := by
  have hex : ∀ i, ∃ rr : Nat × Nat, i < n → vs[i]? = some (.slice (some ⟨rr.1, 0, none⟩) n rr.2) ∧ n ≤ rr.2 ∧ rr.1 < w.heap.size ∧ (rr.1 ≠ gS ∧ rr.1 ≠ gC ∧ rr.1 ≠ gP ∧ rr.1 ≠ gB) ∧ ∀ q, q < n → w.cell? ⟨rr.1, q, none⟩ = some (.bool (clashT (ts.getD i tk0) (ts.getD q tk0))) := fun i => by
    by_cases hi : i < n
    · obtain ⟨v, h1, r, cc, rfl, h2, h3, h4, h5⟩ := h.rows i hi
      exact ⟨(r, cc), fun _ => ⟨h1, h2, h3, h4, h5⟩⟩
    · exact ⟨(0, 0), fun h => absurd h hi⟩
  have hch : ∃ f : Nat → Nat × Nat, ∀ i, i < n → vs[i]? = some (.slice (some ⟨(f i).1, 0, none⟩) n (f i).2) ∧ n ≤ (f i).2 ∧ (f i).1 < w.heap.size ∧ ((f i).1 ≠ gS ∧ (f i).1 ≠ gC ∧ (f i).1 ≠ gP ∧ (f i).1 ≠ gB) ∧ ∀ q, q < n → w.cell? ⟨(f i).1, q, none⟩ = some (.bool (clashT (ts.getD i tk0) (ts.getD q tk0))) := ⟨fun i => Classical.choose (hex i), fun i => Classical.choose_spec (hex i)⟩
  obtain ⟨f, hf⟩ := hch
  obtain ⟨n1, n2, n3, n4, n5, n6⟩ := h.ne
  refine ⟨fun i => (f i).1, fun i => (f i).2, ⟨⟨h.low.2.1, h.low.2.2.1, h.low.2.2.2.1, h.low.2.2.2.2⟩, n3, n4, n1, ⟨n2.symm, n5, n6⟩, fun i hi => ⟨(hf i hi).2.2.2.1.1, (hf i hi).2.2.2.1.2.2.1, (hf i hi).2.2.2.1.2.2.2⟩⟩, fun i hi => (hf i hi).2.1, ⟨h.st, h.pl, h.be, fun i hi => ?_, fun i hi => (hf i hi).2.2.2.2, fun i hi => ⟨(World.ownsRow.lt h.cl gC rfl).2, (hf i hi).2.2.1⟩, h.ts, h.ws, by simp, by simp, h.low.1⟩⟩
  have h1 := World.ownsRow.cells (g := gC) h.cl rfl i _ (hf i hi).1
  rwa [show (⟨gC, 0, none⟩ : Addr).add i = ⟨gC, i, none⟩ by unfold Addr.add; split <;> simp_all] at h1
end
theorem FrM.bu {w : World} {lo gS gC gP gB : Nat} {A : Option Addr} {n c : Nat} {B : Option Addr} {nw cw : Nat} {ts : List Tk} {ws : List Bool} (h : FrM w lo gS gC gP gB A n c B nw cw) (hn : n ≤ 6) (ht : Tks w lo A n ts) (hw : Bools w lo B nw ws) (hl : lo ≤ w.heap.size) : BuM w lo gS gC gP gB A n c B nw cw ts ws 0 (List.replicate n (.slice none 0 0)) 1 := by
  have hm : n ≤ maxLen := by simp only [maxLen]; omega
  have h1 := own_made h.pl h.low.2.2.1 hm
  have h2 := own_made h.be h.low.2.2.2 hm
  have h3 := own_made h.cl h.low.2.1 hm
  have e1 : (madeCells (Value.agg #[.int .i64 0, .int .i64 0, .int .i64 0, .int .i64 0]).cells (n * 4)).toList = (((List.replicate n sh0).map Sh.cells).flatten) := plan_zero n
  have e2 : (madeCells (Value.slice none 0 0).cells (n * 1)).toList = List.replicate n (.slice none 0 0) := by rw [Nat.mul_one]; exact toList_madeCells_one _ _
  rw [e1] at h1 h2
  rw [e2] at h3
  refine ⟨h.st, h1, h2, h3, fun j hj => by omega, fun j _ hj => ?_, ht, hw, ⟨hl, h.low.1, h.low.2.1, h.low.2.2.1, h.low.2.2.2⟩, h.ne⟩
  rw [List.getElem?_replicate, if_pos hj]
/-- the search's plan, and where it ends -/
def bestP (ts : List Tk) (ws : List Bool) : List Sh × Int := placeF (probOf ts ws) ts.length (plan0 (probOf ts ws)) 0 0 (plan0 (probOf ts ws), 1 + seqSt (probOf ts ws) ts.length)
theorem bestP_is {ts : List Tk} {ws : List Bool} (h : RtOK ts ws) : Part (probOf ts ws) (bestP ts ws).1 (bestP ts ws).2 ∧ (∀ i, i < (probOf ts ws).n → ((bestP ts ws).1.getD i sh0).g ≠ 0) ∧ 0 ≤ (bestP ts ws).2 ∧ ∀ (gr : Nat → Nat) (st : Nat → Int) (T : Int), 0 ≤ T → Feas (probOf ts ws) st gr T → (bestP ts ws).2 ≤ T := by
  obtain ⟨P, E, h1, h2, h3, h4, _, h5⟩ := search_is h.dur (prob_sym ts ws) h.who (plan0 (probOf ts ws))
  have e : bestP ts ws = (P, E) := h1
  rw [e]
  exact ⟨h2, h3, h4, h5⟩
theorem seq_bnd {ts : List Tk} {ws : List Bool} (h : RtOK ts ws) : ∀ k, k ≤ ts.length → 0 ≤ seqSt (probOf ts ws) k ∧ seqSt (probOf ts ws) k ≤ 86400 * (k : Int)
  | 0, _ => ⟨Int.le_refl _, by simp [seqSt]⟩
  | k + 1, hk => by
    have ih := seq_bnd h k (by omega)
    have h1 := (h.each _ (tk_mem (show k < ts.length by omega))).2.1
    have e : (probOf ts ws).dur k = (ts.getD k tk0).sec := rfl
    rw [seqSt, e]
    omega
set_option maxRecDepth 100000 in
set_option maxHeartbeats 32000000 in
theorem best_any (A B : Option Addr) (n c nw cw : Nat) (ts : List Tk) (ws : List Bool) (w : World) (hr : Tks w w.heap.size A n ts) (hw : Bools w w.heap.size B nw ws) (hc : n ≤ c) (hc2 : c ≤ maxLen) (hok : RtOK ts ws) :
    Calls Try.prog 6 #[.slice A n c, .slice B nw cw] w fun e w' => ∃ g, e = .returned (.slice (some ⟨g, 0, none⟩) n n) ∧ OwnSh w' w.heap.size g n (bestP ts ws).1 ∧ Below w.heap.size w w' := by
  have HR := Lib.hid hr
  have HW := Lib.hid hw
  have HOk := Lib.hid hok
  have HL := Lib.hid hr.len
  have HWl := Lib.hid hw.boolen
  have hn6 : n ≤ 6 := by rw [← hr.len]; exact hok.l1
  have hw3 : nw ≤ 3 := by rw [← hw.boolen]; exact hok.l2.2
  have HSec : Hid (∀ i, i < n → 1 ≤ (ts.getD i tk0).sec ∧ (ts.getD i tk0).sec ≤ 86400) := fun i hi => (hok.each _ (tk_mem (by rw [hr.len]; exact hi))).2.1
  have HCl6 : Hid (∀ i, i < n → (ts.getD i tk0).cl.length ≤ 1000) := fun i hi => Nat.le_trans (hok.each _ (tk_mem (by rw [hr.len]; exact hi))).2.2 (by omega)
  have HSeq : Hid (∀ k, k ≤ n → 0 ≤ seqSt (probOf ts ws) k ∧ seqSt (probOf ts ws) k ≤ 600000) := fun k hk => by have := seq_bnd hok k (by rw [hr.len]; exact hk); omega
  have HSs : Hid (∀ k, seqSt (probOf ts ws) (k + 1) = seqSt (probOf ts ws) k + (ts.getD k tk0).sec) := fun k => rfl
  have HS0 : Hid (seqSt (probOf ts ws) 0 = 0) := rfl
  have HRt := Lib.hid (right_any A B n c nw cw ts ws w hr hw hc hc2 hok)
  obtain ⟨R, hR⟩ : ∃ R, bestP ts ws = R := ⟨_, rfl⟩
  have HRb : Hid (placeF (probOf ts ws) n (List.replicate n sh0) 0 0 (List.replicate n sh0, 1 + seqSt (probOf ts ws) n) = R) := by
    rw [← hR]
    unfold bestP plan0
    rw [← hr.len]
    exact rfl
  rw [hR]
  obtain ⟨lo, hlo⟩ : ∃ x, w.heap.size = x := ⟨_, rfl⟩
  have HFin : Hid (∀ (g : Nat) (w' : World), OwnSh w' lo g n R.1 → Below w.heap.size w w' → (fun (e : Ending) (w' : World) => ∃ g, e = .returned (.slice (some ⟨g, 0, none⟩) n n) ∧ OwnSh w' w.heap.size g n R.1 ∧ Below w.heap.size w w') (.returned (.slice (some ⟨g, 0, none⟩) n n)) w') := hide (by rw [← hlo]; exact fun g w' h1 h2 => ⟨g, rfl, h1, h2⟩)
  generalize (fun (e : Ending) (w' : World) => ∃ g, e = .returned (.slice (some ⟨g, 0, none⟩) n n) ∧ OwnSh w' w.heap.size g n R.1 ∧ Below w.heap.size w w') = RR at *
  clear hr hw hok hR
  generalize hsq : seqSt (probOf ts ws) = SQ at *
  clear hsq
  go_enter Try.func6, Try.ntmps6
  go_wp2_with fail
  with_reducible refine HRt.out.mono ?_
  rintro e w1 ⟨rfl, hb1⟩
  have HB1 := Lib.hid hb1
  have HBw1d : Hid (Below w.heap.size w w1.drew) := hide hb1.drew
  clear hb1 HRt
  go_upto_region 3 with (fail)
  go_cut [5] (fun s wx => ∃ gS gC gP gB : Nat, s = .pointer (some ⟨gS, 0, none⟩) ∧ FrM wx lo gS gC gP gB A n c B nw cw ∧ Below w.heap.size w wx)
  case first =>
    refine wp_region_held_drew (S := fun _ => True) (by kernel_rfl) (trivial) (fun hHeld => ?_)
    refine held_run 0 (some 14) (.move (.tmp 0)) ?v3_1_2 (by rfl) (by kernel_rfl) (by kernel_rfl) (by kernel_rfl) (fun _ _ _ h => h) (fun o ho w hS => ?y3_1_2) (by assumption) ?r3_1_2
    case y3_1_2 => (try dsimp only at hS); unfold execOp; simp only [ho]; go_simp; try with_reducible rfl
    try simp only [Act.put, List.setIfInBounds_toArray, List.set_cons_zero, List.set_cons_succ]
    refine held_run 1 (some 15) (.move (.tmp 1)) ?v3_1_3 (by rfl) (by kernel_rfl) (by kernel_rfl) (by kernel_rfl) (fun _ _ _ h => h) (fun o ho w hS => ?y3_1_3) (by assumption) ?r3_1_3
    case y3_1_3 => (try dsimp only at hS); unfold execOp; simp only [ho]; go_simp; try with_reducible rfl
    try simp only [Act.put, List.setIfInBounds_toArray, List.set_cons_zero, List.set_cons_succ]
    refine held_run 2 (some 16) (.move (.tmp 0)) ?v3_1_4 (by rfl) (by kernel_rfl) (by kernel_rfl) (by kernel_rfl) (fun _ _ _ h => h) (fun o ho w hS => ?y3_1_4) (by assumption) ?r3_1_4
    case y3_1_4 => (try dsimp only at hS); unfold execOp; simp only [ho]; go_simp; try with_reducible rfl
    try simp only [Act.put, List.setIfInBounds_toArray, List.set_cons_zero, List.set_cons_succ]
    refine held_run 3 (some 17) (.call { callee := .builtin .len, args := #[(.tmp 16)], argTypes := #[22] }) ?v3_1_5 (by rfl) (by kernel_rfl) (by kernel_rfl) (by kernel_rfl) (fun _ _ _ h => h) (fun o ho w hS => ?y3_1_5) (by assumption) ?r3_1_5
    case y3_1_5 => (try dsimp only at hS); unfold execOp; simp only [ho]; go_simp; try with_reducible rfl
    try simp only [Act.put, List.setIfInBounds_toArray, List.set_cons_zero, List.set_cons_succ]
    refine held_run 5 (some 19) (.move (.tmp 0)) ?v3_1_6 (by rfl) (by kernel_rfl) (by kernel_rfl) (by kernel_rfl) (fun _ _ _ h => h) (fun o ho w hS => ?y3_1_6) (by assumption) ?r3_1_6
    case y3_1_6 => (try dsimp only at hS); unfold execOp; simp only [ho]; go_simp; try with_reducible rfl
    try simp only [Act.put, List.setIfInBounds_toArray, List.set_cons_zero, List.set_cons_succ]
    refine held_run 6 (some 20) (.call { callee := .builtin .len, args := #[(.tmp 19)], argTypes := #[22] }) ?v3_1_7 (by rfl) (by kernel_rfl) (by kernel_rfl) (by kernel_rfl) (fun _ _ _ h => h) (fun o ho w hS => ?y3_1_7) (by assumption) ?r3_1_7
    case y3_1_7 => (try dsimp only at hS); unfold execOp; simp only [ho]; go_simp; try with_reducible rfl
    try simp only [Act.put, List.setIfInBounds_toArray, List.set_cons_zero, List.set_cons_succ]
    refine held_run 8 (some 22) (.move (.tmp 0)) ?v3_1_8 (by rfl) (by kernel_rfl) (by kernel_rfl) (by kernel_rfl) (fun _ _ _ h => h) (fun o ho w hS => ?y3_1_8) (by assumption) ?r3_1_8
    case y3_1_8 => (try dsimp only at hS); unfold execOp; simp only [ho]; go_simp; try with_reducible rfl
    try simp only [Act.put, List.setIfInBounds_toArray, List.set_cons_zero, List.set_cons_succ]
    refine held_run 9 (some 23) (.call { callee := .builtin .len, args := #[(.tmp 22)], argTypes := #[22] }) ?v3_1_9 (by rfl) (by kernel_rfl) (by kernel_rfl) (by kernel_rfl) (fun _ _ _ h => h) (fun o ho w hS => ?y3_1_9) (by assumption) ?r3_1_9
    case y3_1_9 => (try dsimp only at hS); unfold execOp; simp only [ho]; go_simp; try with_reducible rfl
    try simp only [Act.put, List.setIfInBounds_toArray, List.set_cons_zero, List.set_cons_succ]
    refine held_four 4 7 10 12 (by kernel_rfl) ?_ ?_ ?_ ?_
    · refine op_make 4 (some 18) 44 (.tmp 17) (.tmp 17) (by rfl) Try.underlying44 inf_bools n rfl rfl (by omega) ?_
      intro wC hx hb
      have HBwC := Lib.hid (HBw1d.out.trans (hb.mono HBw1d.out.size))
      have HX4wC := Lib.hid hx
      clear hx hb
      refine ⟨trivial, ?_⟩
      try simp only [Act.put, List.setIfInBounds_toArray, List.set_cons_zero, List.set_cons_succ]
      refine held_three 7 10 12 (by kernel_rfl) ?_ ?_ ?_
      · refine op_make 7 (some 21) 24 (.tmp 20) (.tmp 20) (by rfl) Try.underlying24 inf_shift n rfl rfl (by omega) ?_
        intro wCP hx hb
        have HBwCP := Lib.hid (HBwC.out.trans (hb.mono HBwC.out.size))
        have HX7wCP := Lib.hid hx
        have HX4wCP := Lib.hid (HX4wC.out.below hb HX4wC.out.lt)
        have hl4_7wCP : w1.drew.heap.size < wC.heap.size := HX4wC.out.lt
        clear hx hb
        refine ⟨trivial, ?_⟩
        try simp only [Act.put, List.setIfInBounds_toArray, List.set_cons_zero, List.set_cons_succ]
        refine held_two 10 12 (by kernel_rfl) ?_ ?_
        · refine op_make 10 (some 24) 24 (.tmp 23) (.tmp 23) (by rfl) Try.underlying24 inf_shift n rfl rfl (by omega) ?_
          intro wCPB hx hb
          have HBwCPB := Lib.hid (HBwCP.out.trans (hb.mono HBwCP.out.size))
          have HX10wCPB := Lib.hid hx
          have HX4wCPB := Lib.hid (HX4wCP.out.below hb HX4wCP.out.lt)
          have hl4_10wCPB : w1.drew.heap.size < wCP.heap.size := HX4wCP.out.lt
          have HX7wCPB := Lib.hid (HX7wCP.out.below hb HX7wCP.out.lt)
          have hl7_10wCPB : wC.heap.size < wCP.heap.size := HX7wCP.out.lt
          clear hx hb
          refine ⟨trivial, ?_⟩
          try simp only [Act.put, List.setIfInBounds_toArray, List.set_cons_zero, List.set_cons_succ]
          refine held_run 11 (some 25) (.build 46 #[(0, (.tmp 14)), (1, (.tmp 15)), (2, (.tmp 18)), (3, (.tmp 21)), (4, (.tmp 24)), (5, .const (.int .i64 1))]) ?v3_1_13 (by rfl) (by kernel_rfl) (by kernel_rfl) (by kernel_rfl) (fun _ _ _ h => h) (fun o ho w hS => ?y3_1_13) (by assumption) ?r3_1_13
          case y3_1_13 => (try dsimp only at hS); unfold execOp; simp only [ho]; go_simp; try with_reducible rfl
          try simp only [Act.put, List.setIfInBounds_toArray, List.set_cons_zero, List.set_cons_succ]
          refine held_one 12 (by kernel_rfl) ?_
          refine op_alloc 12 (some 5) 46 #[.slice none 0 0, .slice none 0 0, .slice none 0 0, .slice none 0 0, .slice none 0 0, .int .i64 0] (by rfl) (by kernel_rfl) ?_
          intro wCPBS hx hb
          have HBwCPBS := Lib.hid (HBwCPB.out.trans (hb.mono HBwCPB.out.size))
          have HX12wCPBS := Lib.hid hx
          have HX4wCPBS := Lib.hid (HX4wCPB.out.below hb HX4wCPB.out.lt)
          have hl4_12wCPBS : w1.drew.heap.size < wCPB.heap.size := HX4wCPB.out.lt
          have HX7wCPBS := Lib.hid (HX7wCPB.out.below hb HX7wCPB.out.lt)
          have hl7_12wCPBS : wC.heap.size < wCPB.heap.size := HX7wCPB.out.lt
          have HX10wCPBS := Lib.hid (HX10wCPB.out.below hb HX10wCPB.out.lt)
          have hl10_12wCPBS : wCP.heap.size < wCPB.heap.size := HX10wCPB.out.lt
          clear hx hb
          refine ⟨trivial, ?_⟩
          try simp only [Act.put, List.setIfInBounds_toArray, List.set_cons_zero, List.set_cons_succ]
          refine held_one 13 (by kernel_rfl) ?_
          refine op_store_blk 13 46 (.tmp 5) (.tmp 25) (by rfl) (wCPB.heap.size) #[.slice A n c, .slice B nw cw, .slice (some ⟨w1.drew.heap.size, 0, none⟩) n n, .slice (some ⟨wC.heap.size, 0, none⟩) n n, .slice (some ⟨wCP.heap.size, 0, none⟩) n n, .int .i64 1] rfl rfl _ _ (HX12wCPBS.out) (by kernel_rfl) rfl (by simp [Value.oneCell']) ?_
          intro wFCPBS hx hon
          have HFwFCPBS : Hid (FrM wFCPBS lo (wCPB.heap.size) (w1.drew.heap.size) (wC.heap.size) (wCP.heap.size) A n c B nw cw) := hide ⟨hx, hon.blk HX4wCPBS.out (by omega), hon.blk HX7wCPBS.out (by omega), hon.blk HX10wCPBS.out (by omega), by have h := HBw1d.out.size; omega, by omega⟩
          have HBwFCPBS : Hid (Below w.heap.size w wFCPBS) := hide (hon.below HBwCPBS.out (by have h := HBw1d.out.size; omega))
          clear hx hon
          refine ⟨trivial, ?_⟩
          try simp only [Act.put]
          refine wpAnyH_done (by kernel_rfl) ?_ _
          go_wp2_with fail
          go_meet
          first
            | exact ⟨wCPB.heap.size, w1.drew.heap.size, wC.heap.size, wCP.heap.size, rfl, HFwFCPBS.out, HBwFCPBS.out⟩
            | exact ⟨wCP.heap.size, w1.drew.heap.size, wC.heap.size, wCPS.heap.size, rfl, HFwFCPSB.out, HBwFCPSB.out⟩
            | exact ⟨wCBP.heap.size, w1.drew.heap.size, wCB.heap.size, wC.heap.size, rfl, HFwFCBPS.out, HBwFCBPS.out⟩
            | exact ⟨wCB.heap.size, w1.drew.heap.size, wCBS.heap.size, wC.heap.size, rfl, HFwFCBSP.out, HBwFCBSP.out⟩
            | exact ⟨wC.heap.size, w1.drew.heap.size, wCS.heap.size, wCSP.heap.size, rfl, HFwFCSPB.out, HBwFCSPB.out⟩
            | exact ⟨wC.heap.size, w1.drew.heap.size, wCSB.heap.size, wCS.heap.size, rfl, HFwFCSBP.out, HBwFCSBP.out⟩
            | exact ⟨wPCB.heap.size, wP.heap.size, w1.drew.heap.size, wPC.heap.size, rfl, HFwFPCBS.out, HBwFPCBS.out⟩
            | exact ⟨wPC.heap.size, wP.heap.size, w1.drew.heap.size, wPCS.heap.size, rfl, HFwFPCSB.out, HBwFPCSB.out⟩
            | exact ⟨wPBC.heap.size, wPB.heap.size, w1.drew.heap.size, wP.heap.size, rfl, HFwFPBCS.out, HBwFPBCS.out⟩
            | exact ⟨wPB.heap.size, wPBS.heap.size, w1.drew.heap.size, wP.heap.size, rfl, HFwFPBSC.out, HBwFPBSC.out⟩
            | exact ⟨wP.heap.size, wPS.heap.size, w1.drew.heap.size, wPSC.heap.size, rfl, HFwFPSCB.out, HBwFPSCB.out⟩
            | exact ⟨wP.heap.size, wPSB.heap.size, w1.drew.heap.size, wPS.heap.size, rfl, HFwFPSBC.out, HBwFPSBC.out⟩
            | exact ⟨wBCP.heap.size, wB.heap.size, wBC.heap.size, w1.drew.heap.size, rfl, HFwFBCPS.out, HBwFBCPS.out⟩
            | exact ⟨wBC.heap.size, wB.heap.size, wBCS.heap.size, w1.drew.heap.size, rfl, HFwFBCSP.out, HBwFBCSP.out⟩
            | exact ⟨wBPC.heap.size, wBP.heap.size, wB.heap.size, w1.drew.heap.size, rfl, HFwFBPCS.out, HBwFBPCS.out⟩
            | exact ⟨wBP.heap.size, wBPS.heap.size, wB.heap.size, w1.drew.heap.size, rfl, HFwFBPSC.out, HBwFBPSC.out⟩
            | exact ⟨wB.heap.size, wBS.heap.size, wBSC.heap.size, w1.drew.heap.size, rfl, HFwFBSCP.out, HBwFBSCP.out⟩
            | exact ⟨wB.heap.size, wBSP.heap.size, wBS.heap.size, w1.drew.heap.size, rfl, HFwFBSPC.out, HBwFBSPC.out⟩
            | exact ⟨w1.drew.heap.size, wS.heap.size, wSC.heap.size, wSCP.heap.size, rfl, HFwFSCPB.out, HBwFSCPB.out⟩
            | exact ⟨w1.drew.heap.size, wS.heap.size, wSCB.heap.size, wSC.heap.size, rfl, HFwFSCBP.out, HBwFSCBP.out⟩
            | exact ⟨w1.drew.heap.size, wSP.heap.size, wS.heap.size, wSPC.heap.size, rfl, HFwFSPCB.out, HBwFSPCB.out⟩
            | exact ⟨w1.drew.heap.size, wSPB.heap.size, wS.heap.size, wSP.heap.size, rfl, HFwFSPBC.out, HBwFSPBC.out⟩
            | exact ⟨w1.drew.heap.size, wSB.heap.size, wSBC.heap.size, wS.heap.size, rfl, HFwFSBCP.out, HBwFSBCP.out⟩
            | exact ⟨w1.drew.heap.size, wSBP.heap.size, wSB.heap.size, wS.heap.size, rfl, HFwFSBPC.out, HBwFSBPC.out⟩
        · refine op_alloc 12 (some 5) 46 #[.slice none 0 0, .slice none 0 0, .slice none 0 0, .slice none 0 0, .slice none 0 0, .int .i64 0] (by rfl) (by kernel_rfl) ?_
          intro wCPS hx hb
          have HBwCPS := Lib.hid (HBwCP.out.trans (hb.mono HBwCP.out.size))
          have HX12wCPS := Lib.hid hx
          have HX4wCPS := Lib.hid (HX4wCP.out.below hb HX4wCP.out.lt)
          have hl4_12wCPS : w1.drew.heap.size < wCP.heap.size := HX4wCP.out.lt
          have HX7wCPS := Lib.hid (HX7wCP.out.below hb HX7wCP.out.lt)
          have hl7_12wCPS : wC.heap.size < wCP.heap.size := HX7wCP.out.lt
          clear hx hb
          refine ⟨trivial, ?_⟩
          try simp only [Act.put, List.setIfInBounds_toArray, List.set_cons_zero, List.set_cons_succ]
          refine held_one 10 (by kernel_rfl) ?_
          refine op_make 10 (some 24) 24 (.tmp 23) (.tmp 23) (by rfl) Try.underlying24 inf_shift n rfl rfl (by omega) ?_
          intro wCPSB hx hb
          have HBwCPSB := Lib.hid (HBwCPS.out.trans (hb.mono HBwCPS.out.size))
          have HX10wCPSB := Lib.hid hx
          have HX4wCPSB := Lib.hid (HX4wCPS.out.below hb HX4wCPS.out.lt)
          have hl4_10wCPSB : w1.drew.heap.size < wCPS.heap.size := HX4wCPS.out.lt
          have HX7wCPSB := Lib.hid (HX7wCPS.out.below hb HX7wCPS.out.lt)
          have hl7_10wCPSB : wC.heap.size < wCPS.heap.size := HX7wCPS.out.lt
          have HX12wCPSB := Lib.hid (HX12wCPS.out.below hb HX12wCPS.out.lt)
          have hl12_10wCPSB : wCP.heap.size < wCPS.heap.size := HX12wCPS.out.lt
          clear hx hb
          refine ⟨trivial, ?_⟩
          try simp only [Act.put, List.setIfInBounds_toArray, List.set_cons_zero, List.set_cons_succ]
          refine held_run 11 (some 25) (.build 46 #[(0, (.tmp 14)), (1, (.tmp 15)), (2, (.tmp 18)), (3, (.tmp 21)), (4, (.tmp 24)), (5, .const (.int .i64 1))]) ?v3_1_18 (by rfl) (by kernel_rfl) (by kernel_rfl) (by kernel_rfl) (fun _ _ _ h => h) (fun o ho w hS => ?y3_1_18) (by assumption) ?r3_1_18
          case y3_1_18 => (try dsimp only at hS); unfold execOp; simp only [ho]; go_simp; try with_reducible rfl
          try simp only [Act.put, List.setIfInBounds_toArray, List.set_cons_zero, List.set_cons_succ]
          refine held_one 13 (by kernel_rfl) ?_
          refine op_store_blk 13 46 (.tmp 5) (.tmp 25) (by rfl) (wCP.heap.size) #[.slice A n c, .slice B nw cw, .slice (some ⟨w1.drew.heap.size, 0, none⟩) n n, .slice (some ⟨wC.heap.size, 0, none⟩) n n, .slice (some ⟨wCPS.heap.size, 0, none⟩) n n, .int .i64 1] rfl rfl _ _ (HX12wCPSB.out) (by kernel_rfl) rfl (by simp [Value.oneCell']) ?_
          intro wFCPSB hx hon
          have HFwFCPSB : Hid (FrM wFCPSB lo (wCP.heap.size) (w1.drew.heap.size) (wC.heap.size) (wCPS.heap.size) A n c B nw cw) := hide ⟨hx, hon.blk HX4wCPSB.out (by omega), hon.blk HX7wCPSB.out (by omega), hon.blk HX10wCPSB.out (by omega), by have h := HBw1d.out.size; omega, by omega⟩
          have HBwFCPSB : Hid (Below w.heap.size w wFCPSB) := hide (hon.below HBwCPSB.out (by have h := HBw1d.out.size; omega))
          clear hx hon
          refine ⟨trivial, ?_⟩
          try simp only [Act.put]
          refine wpAnyH_done (by kernel_rfl) ?_ _
          go_wp2_with fail
          go_meet
          first
            | exact ⟨wCPB.heap.size, w1.drew.heap.size, wC.heap.size, wCP.heap.size, rfl, HFwFCPBS.out, HBwFCPBS.out⟩
            | exact ⟨wCP.heap.size, w1.drew.heap.size, wC.heap.size, wCPS.heap.size, rfl, HFwFCPSB.out, HBwFCPSB.out⟩
            | exact ⟨wCBP.heap.size, w1.drew.heap.size, wCB.heap.size, wC.heap.size, rfl, HFwFCBPS.out, HBwFCBPS.out⟩
            | exact ⟨wCB.heap.size, w1.drew.heap.size, wCBS.heap.size, wC.heap.size, rfl, HFwFCBSP.out, HBwFCBSP.out⟩
            | exact ⟨wC.heap.size, w1.drew.heap.size, wCS.heap.size, wCSP.heap.size, rfl, HFwFCSPB.out, HBwFCSPB.out⟩
            | exact ⟨wC.heap.size, w1.drew.heap.size, wCSB.heap.size, wCS.heap.size, rfl, HFwFCSBP.out, HBwFCSBP.out⟩
            | exact ⟨wPCB.heap.size, wP.heap.size, w1.drew.heap.size, wPC.heap.size, rfl, HFwFPCBS.out, HBwFPCBS.out⟩
            | exact ⟨wPC.heap.size, wP.heap.size, w1.drew.heap.size, wPCS.heap.size, rfl, HFwFPCSB.out, HBwFPCSB.out⟩
            | exact ⟨wPBC.heap.size, wPB.heap.size, w1.drew.heap.size, wP.heap.size, rfl, HFwFPBCS.out, HBwFPBCS.out⟩
            | exact ⟨wPB.heap.size, wPBS.heap.size, w1.drew.heap.size, wP.heap.size, rfl, HFwFPBSC.out, HBwFPBSC.out⟩
            | exact ⟨wP.heap.size, wPS.heap.size, w1.drew.heap.size, wPSC.heap.size, rfl, HFwFPSCB.out, HBwFPSCB.out⟩
            | exact ⟨wP.heap.size, wPSB.heap.size, w1.drew.heap.size, wPS.heap.size, rfl, HFwFPSBC.out, HBwFPSBC.out⟩
            | exact ⟨wBCP.heap.size, wB.heap.size, wBC.heap.size, w1.drew.heap.size, rfl, HFwFBCPS.out, HBwFBCPS.out⟩
            | exact ⟨wBC.heap.size, wB.heap.size, wBCS.heap.size, w1.drew.heap.size, rfl, HFwFBCSP.out, HBwFBCSP.out⟩
            | exact ⟨wBPC.heap.size, wBP.heap.size, wB.heap.size, w1.drew.heap.size, rfl, HFwFBPCS.out, HBwFBPCS.out⟩
            | exact ⟨wBP.heap.size, wBPS.heap.size, wB.heap.size, w1.drew.heap.size, rfl, HFwFBPSC.out, HBwFBPSC.out⟩
            | exact ⟨wB.heap.size, wBS.heap.size, wBSC.heap.size, w1.drew.heap.size, rfl, HFwFBSCP.out, HBwFBSCP.out⟩
            | exact ⟨wB.heap.size, wBSP.heap.size, wBS.heap.size, w1.drew.heap.size, rfl, HFwFBSPC.out, HBwFBSPC.out⟩
            | exact ⟨w1.drew.heap.size, wS.heap.size, wSC.heap.size, wSCP.heap.size, rfl, HFwFSCPB.out, HBwFSCPB.out⟩
            | exact ⟨w1.drew.heap.size, wS.heap.size, wSCB.heap.size, wSC.heap.size, rfl, HFwFSCBP.out, HBwFSCBP.out⟩
            | exact ⟨w1.drew.heap.size, wSP.heap.size, wS.heap.size, wSPC.heap.size, rfl, HFwFSPCB.out, HBwFSPCB.out⟩
            | exact ⟨w1.drew.heap.size, wSPB.heap.size, wS.heap.size, wSP.heap.size, rfl, HFwFSPBC.out, HBwFSPBC.out⟩
            | exact ⟨w1.drew.heap.size, wSB.heap.size, wSBC.heap.size, wS.heap.size, rfl, HFwFSBCP.out, HBwFSBCP.out⟩
            | exact ⟨w1.drew.heap.size, wSBP.heap.size, wSB.heap.size, wS.heap.size, rfl, HFwFSBPC.out, HBwFSBPC.out⟩
      · refine op_make 10 (some 24) 24 (.tmp 23) (.tmp 23) (by rfl) Try.underlying24 inf_shift n rfl rfl (by omega) ?_
        intro wCB hx hb
        have HBwCB := Lib.hid (HBwC.out.trans (hb.mono HBwC.out.size))
        have HX10wCB := Lib.hid hx
        have HX4wCB := Lib.hid (HX4wC.out.below hb HX4wC.out.lt)
        have hl4_10wCB : w1.drew.heap.size < wC.heap.size := HX4wC.out.lt
        clear hx hb
        refine ⟨trivial, ?_⟩
        try simp only [Act.put, List.setIfInBounds_toArray, List.set_cons_zero, List.set_cons_succ]
        refine held_two 7 12 (by kernel_rfl) ?_ ?_
        · refine op_make 7 (some 21) 24 (.tmp 20) (.tmp 20) (by rfl) Try.underlying24 inf_shift n rfl rfl (by omega) ?_
          intro wCBP hx hb
          have HBwCBP := Lib.hid (HBwCB.out.trans (hb.mono HBwCB.out.size))
          have HX7wCBP := Lib.hid hx
          have HX4wCBP := Lib.hid (HX4wCB.out.below hb HX4wCB.out.lt)
          have hl4_7wCBP : w1.drew.heap.size < wCB.heap.size := HX4wCB.out.lt
          have HX10wCBP := Lib.hid (HX10wCB.out.below hb HX10wCB.out.lt)
          have hl10_7wCBP : wC.heap.size < wCB.heap.size := HX10wCB.out.lt
          clear hx hb
          refine ⟨trivial, ?_⟩
          try simp only [Act.put, List.setIfInBounds_toArray, List.set_cons_zero, List.set_cons_succ]
          refine held_run 11 (some 25) (.build 46 #[(0, (.tmp 14)), (1, (.tmp 15)), (2, (.tmp 18)), (3, (.tmp 21)), (4, (.tmp 24)), (5, .const (.int .i64 1))]) ?v3_1_22 (by rfl) (by kernel_rfl) (by kernel_rfl) (by kernel_rfl) (fun _ _ _ h => h) (fun o ho w hS => ?y3_1_22) (by assumption) ?r3_1_22
          case y3_1_22 => (try dsimp only at hS); unfold execOp; simp only [ho]; go_simp; try with_reducible rfl
          try simp only [Act.put, List.setIfInBounds_toArray, List.set_cons_zero, List.set_cons_succ]
          refine held_one 12 (by kernel_rfl) ?_
          refine op_alloc 12 (some 5) 46 #[.slice none 0 0, .slice none 0 0, .slice none 0 0, .slice none 0 0, .slice none 0 0, .int .i64 0] (by rfl) (by kernel_rfl) ?_
          intro wCBPS hx hb
          have HBwCBPS := Lib.hid (HBwCBP.out.trans (hb.mono HBwCBP.out.size))
          have HX12wCBPS := Lib.hid hx
          have HX4wCBPS := Lib.hid (HX4wCBP.out.below hb HX4wCBP.out.lt)
          have hl4_12wCBPS : w1.drew.heap.size < wCBP.heap.size := HX4wCBP.out.lt
          have HX10wCBPS := Lib.hid (HX10wCBP.out.below hb HX10wCBP.out.lt)
          have hl10_12wCBPS : wC.heap.size < wCBP.heap.size := HX10wCBP.out.lt
          have HX7wCBPS := Lib.hid (HX7wCBP.out.below hb HX7wCBP.out.lt)
          have hl7_12wCBPS : wCB.heap.size < wCBP.heap.size := HX7wCBP.out.lt
          clear hx hb
          refine ⟨trivial, ?_⟩
          try simp only [Act.put, List.setIfInBounds_toArray, List.set_cons_zero, List.set_cons_succ]
          refine held_one 13 (by kernel_rfl) ?_
          refine op_store_blk 13 46 (.tmp 5) (.tmp 25) (by rfl) (wCBP.heap.size) #[.slice A n c, .slice B nw cw, .slice (some ⟨w1.drew.heap.size, 0, none⟩) n n, .slice (some ⟨wCB.heap.size, 0, none⟩) n n, .slice (some ⟨wC.heap.size, 0, none⟩) n n, .int .i64 1] rfl rfl _ _ (HX12wCBPS.out) (by kernel_rfl) rfl (by simp [Value.oneCell']) ?_
          intro wFCBPS hx hon
          have HFwFCBPS : Hid (FrM wFCBPS lo (wCBP.heap.size) (w1.drew.heap.size) (wCB.heap.size) (wC.heap.size) A n c B nw cw) := hide ⟨hx, hon.blk HX4wCBPS.out (by omega), hon.blk HX7wCBPS.out (by omega), hon.blk HX10wCBPS.out (by omega), by have h := HBw1d.out.size; omega, by omega⟩
          have HBwFCBPS : Hid (Below w.heap.size w wFCBPS) := hide (hon.below HBwCBPS.out (by have h := HBw1d.out.size; omega))
          clear hx hon
          refine ⟨trivial, ?_⟩
          try simp only [Act.put]
          refine wpAnyH_done (by kernel_rfl) ?_ _
          go_wp2_with fail
          go_meet
          first
            | exact ⟨wCPB.heap.size, w1.drew.heap.size, wC.heap.size, wCP.heap.size, rfl, HFwFCPBS.out, HBwFCPBS.out⟩
            | exact ⟨wCP.heap.size, w1.drew.heap.size, wC.heap.size, wCPS.heap.size, rfl, HFwFCPSB.out, HBwFCPSB.out⟩
            | exact ⟨wCBP.heap.size, w1.drew.heap.size, wCB.heap.size, wC.heap.size, rfl, HFwFCBPS.out, HBwFCBPS.out⟩
            | exact ⟨wCB.heap.size, w1.drew.heap.size, wCBS.heap.size, wC.heap.size, rfl, HFwFCBSP.out, HBwFCBSP.out⟩
            | exact ⟨wC.heap.size, w1.drew.heap.size, wCS.heap.size, wCSP.heap.size, rfl, HFwFCSPB.out, HBwFCSPB.out⟩
            | exact ⟨wC.heap.size, w1.drew.heap.size, wCSB.heap.size, wCS.heap.size, rfl, HFwFCSBP.out, HBwFCSBP.out⟩
            | exact ⟨wPCB.heap.size, wP.heap.size, w1.drew.heap.size, wPC.heap.size, rfl, HFwFPCBS.out, HBwFPCBS.out⟩
            | exact ⟨wPC.heap.size, wP.heap.size, w1.drew.heap.size, wPCS.heap.size, rfl, HFwFPCSB.out, HBwFPCSB.out⟩
            | exact ⟨wPBC.heap.size, wPB.heap.size, w1.drew.heap.size, wP.heap.size, rfl, HFwFPBCS.out, HBwFPBCS.out⟩
            | exact ⟨wPB.heap.size, wPBS.heap.size, w1.drew.heap.size, wP.heap.size, rfl, HFwFPBSC.out, HBwFPBSC.out⟩
            | exact ⟨wP.heap.size, wPS.heap.size, w1.drew.heap.size, wPSC.heap.size, rfl, HFwFPSCB.out, HBwFPSCB.out⟩
            | exact ⟨wP.heap.size, wPSB.heap.size, w1.drew.heap.size, wPS.heap.size, rfl, HFwFPSBC.out, HBwFPSBC.out⟩
            | exact ⟨wBCP.heap.size, wB.heap.size, wBC.heap.size, w1.drew.heap.size, rfl, HFwFBCPS.out, HBwFBCPS.out⟩
            | exact ⟨wBC.heap.size, wB.heap.size, wBCS.heap.size, w1.drew.heap.size, rfl, HFwFBCSP.out, HBwFBCSP.out⟩
            | exact ⟨wBPC.heap.size, wBP.heap.size, wB.heap.size, w1.drew.heap.size, rfl, HFwFBPCS.out, HBwFBPCS.out⟩
            | exact ⟨wBP.heap.size, wBPS.heap.size, wB.heap.size, w1.drew.heap.size, rfl, HFwFBPSC.out, HBwFBPSC.out⟩
            | exact ⟨wB.heap.size, wBS.heap.size, wBSC.heap.size, w1.drew.heap.size, rfl, HFwFBSCP.out, HBwFBSCP.out⟩
            | exact ⟨wB.heap.size, wBSP.heap.size, wBS.heap.size, w1.drew.heap.size, rfl, HFwFBSPC.out, HBwFBSPC.out⟩
            | exact ⟨w1.drew.heap.size, wS.heap.size, wSC.heap.size, wSCP.heap.size, rfl, HFwFSCPB.out, HBwFSCPB.out⟩
            | exact ⟨w1.drew.heap.size, wS.heap.size, wSCB.heap.size, wSC.heap.size, rfl, HFwFSCBP.out, HBwFSCBP.out⟩
            | exact ⟨w1.drew.heap.size, wSP.heap.size, wS.heap.size, wSPC.heap.size, rfl, HFwFSPCB.out, HBwFSPCB.out⟩
            | exact ⟨w1.drew.heap.size, wSPB.heap.size, wS.heap.size, wSP.heap.size, rfl, HFwFSPBC.out, HBwFSPBC.out⟩
            | exact ⟨w1.drew.heap.size, wSB.heap.size, wSBC.heap.size, wS.heap.size, rfl, HFwFSBCP.out, HBwFSBCP.out⟩
            | exact ⟨w1.drew.heap.size, wSBP.heap.size, wSB.heap.size, wS.heap.size, rfl, HFwFSBPC.out, HBwFSBPC.out⟩
        · refine op_alloc 12 (some 5) 46 #[.slice none 0 0, .slice none 0 0, .slice none 0 0, .slice none 0 0, .slice none 0 0, .int .i64 0] (by rfl) (by kernel_rfl) ?_
          intro wCBS hx hb
          have HBwCBS := Lib.hid (HBwCB.out.trans (hb.mono HBwCB.out.size))
          have HX12wCBS := Lib.hid hx
          have HX4wCBS := Lib.hid (HX4wCB.out.below hb HX4wCB.out.lt)
          have hl4_12wCBS : w1.drew.heap.size < wCB.heap.size := HX4wCB.out.lt
          have HX10wCBS := Lib.hid (HX10wCB.out.below hb HX10wCB.out.lt)
          have hl10_12wCBS : wC.heap.size < wCB.heap.size := HX10wCB.out.lt
          clear hx hb
          refine ⟨trivial, ?_⟩
          try simp only [Act.put, List.setIfInBounds_toArray, List.set_cons_zero, List.set_cons_succ]
          refine held_one 7 (by kernel_rfl) ?_
          refine op_make 7 (some 21) 24 (.tmp 20) (.tmp 20) (by rfl) Try.underlying24 inf_shift n rfl rfl (by omega) ?_
          intro wCBSP hx hb
          have HBwCBSP := Lib.hid (HBwCBS.out.trans (hb.mono HBwCBS.out.size))
          have HX7wCBSP := Lib.hid hx
          have HX4wCBSP := Lib.hid (HX4wCBS.out.below hb HX4wCBS.out.lt)
          have hl4_7wCBSP : w1.drew.heap.size < wCBS.heap.size := HX4wCBS.out.lt
          have HX10wCBSP := Lib.hid (HX10wCBS.out.below hb HX10wCBS.out.lt)
          have hl10_7wCBSP : wC.heap.size < wCBS.heap.size := HX10wCBS.out.lt
          have HX12wCBSP := Lib.hid (HX12wCBS.out.below hb HX12wCBS.out.lt)
          have hl12_7wCBSP : wCB.heap.size < wCBS.heap.size := HX12wCBS.out.lt
          clear hx hb
          refine ⟨trivial, ?_⟩
          try simp only [Act.put, List.setIfInBounds_toArray, List.set_cons_zero, List.set_cons_succ]
          refine held_run 11 (some 25) (.build 46 #[(0, (.tmp 14)), (1, (.tmp 15)), (2, (.tmp 18)), (3, (.tmp 21)), (4, (.tmp 24)), (5, .const (.int .i64 1))]) ?v3_1_27 (by rfl) (by kernel_rfl) (by kernel_rfl) (by kernel_rfl) (fun _ _ _ h => h) (fun o ho w hS => ?y3_1_27) (by assumption) ?r3_1_27
          case y3_1_27 => (try dsimp only at hS); unfold execOp; simp only [ho]; go_simp; try with_reducible rfl
          try simp only [Act.put, List.setIfInBounds_toArray, List.set_cons_zero, List.set_cons_succ]
          refine held_one 13 (by kernel_rfl) ?_
          refine op_store_blk 13 46 (.tmp 5) (.tmp 25) (by rfl) (wCB.heap.size) #[.slice A n c, .slice B nw cw, .slice (some ⟨w1.drew.heap.size, 0, none⟩) n n, .slice (some ⟨wCBS.heap.size, 0, none⟩) n n, .slice (some ⟨wC.heap.size, 0, none⟩) n n, .int .i64 1] rfl rfl _ _ (HX12wCBSP.out) (by kernel_rfl) rfl (by simp [Value.oneCell']) ?_
          intro wFCBSP hx hon
          have HFwFCBSP : Hid (FrM wFCBSP lo (wCB.heap.size) (w1.drew.heap.size) (wCBS.heap.size) (wC.heap.size) A n c B nw cw) := hide ⟨hx, hon.blk HX4wCBSP.out (by omega), hon.blk HX7wCBSP.out (by omega), hon.blk HX10wCBSP.out (by omega), by have h := HBw1d.out.size; omega, by omega⟩
          have HBwFCBSP : Hid (Below w.heap.size w wFCBSP) := hide (hon.below HBwCBSP.out (by have h := HBw1d.out.size; omega))
          clear hx hon
          refine ⟨trivial, ?_⟩
          try simp only [Act.put]
          refine wpAnyH_done (by kernel_rfl) ?_ _
          go_wp2_with fail
          go_meet
          first
            | exact ⟨wCPB.heap.size, w1.drew.heap.size, wC.heap.size, wCP.heap.size, rfl, HFwFCPBS.out, HBwFCPBS.out⟩
            | exact ⟨wCP.heap.size, w1.drew.heap.size, wC.heap.size, wCPS.heap.size, rfl, HFwFCPSB.out, HBwFCPSB.out⟩
            | exact ⟨wCBP.heap.size, w1.drew.heap.size, wCB.heap.size, wC.heap.size, rfl, HFwFCBPS.out, HBwFCBPS.out⟩
            | exact ⟨wCB.heap.size, w1.drew.heap.size, wCBS.heap.size, wC.heap.size, rfl, HFwFCBSP.out, HBwFCBSP.out⟩
            | exact ⟨wC.heap.size, w1.drew.heap.size, wCS.heap.size, wCSP.heap.size, rfl, HFwFCSPB.out, HBwFCSPB.out⟩
            | exact ⟨wC.heap.size, w1.drew.heap.size, wCSB.heap.size, wCS.heap.size, rfl, HFwFCSBP.out, HBwFCSBP.out⟩
            | exact ⟨wPCB.heap.size, wP.heap.size, w1.drew.heap.size, wPC.heap.size, rfl, HFwFPCBS.out, HBwFPCBS.out⟩
            | exact ⟨wPC.heap.size, wP.heap.size, w1.drew.heap.size, wPCS.heap.size, rfl, HFwFPCSB.out, HBwFPCSB.out⟩
            | exact ⟨wPBC.heap.size, wPB.heap.size, w1.drew.heap.size, wP.heap.size, rfl, HFwFPBCS.out, HBwFPBCS.out⟩
            | exact ⟨wPB.heap.size, wPBS.heap.size, w1.drew.heap.size, wP.heap.size, rfl, HFwFPBSC.out, HBwFPBSC.out⟩
            | exact ⟨wP.heap.size, wPS.heap.size, w1.drew.heap.size, wPSC.heap.size, rfl, HFwFPSCB.out, HBwFPSCB.out⟩
            | exact ⟨wP.heap.size, wPSB.heap.size, w1.drew.heap.size, wPS.heap.size, rfl, HFwFPSBC.out, HBwFPSBC.out⟩
            | exact ⟨wBCP.heap.size, wB.heap.size, wBC.heap.size, w1.drew.heap.size, rfl, HFwFBCPS.out, HBwFBCPS.out⟩
            | exact ⟨wBC.heap.size, wB.heap.size, wBCS.heap.size, w1.drew.heap.size, rfl, HFwFBCSP.out, HBwFBCSP.out⟩
            | exact ⟨wBPC.heap.size, wBP.heap.size, wB.heap.size, w1.drew.heap.size, rfl, HFwFBPCS.out, HBwFBPCS.out⟩
            | exact ⟨wBP.heap.size, wBPS.heap.size, wB.heap.size, w1.drew.heap.size, rfl, HFwFBPSC.out, HBwFBPSC.out⟩
            | exact ⟨wB.heap.size, wBS.heap.size, wBSC.heap.size, w1.drew.heap.size, rfl, HFwFBSCP.out, HBwFBSCP.out⟩
            | exact ⟨wB.heap.size, wBSP.heap.size, wBS.heap.size, w1.drew.heap.size, rfl, HFwFBSPC.out, HBwFBSPC.out⟩
            | exact ⟨w1.drew.heap.size, wS.heap.size, wSC.heap.size, wSCP.heap.size, rfl, HFwFSCPB.out, HBwFSCPB.out⟩
            | exact ⟨w1.drew.heap.size, wS.heap.size, wSCB.heap.size, wSC.heap.size, rfl, HFwFSCBP.out, HBwFSCBP.out⟩
            | exact ⟨w1.drew.heap.size, wSP.heap.size, wS.heap.size, wSPC.heap.size, rfl, HFwFSPCB.out, HBwFSPCB.out⟩
            | exact ⟨w1.drew.heap.size, wSPB.heap.size, wS.heap.size, wSP.heap.size, rfl, HFwFSPBC.out, HBwFSPBC.out⟩
            | exact ⟨w1.drew.heap.size, wSB.heap.size, wSBC.heap.size, wS.heap.size, rfl, HFwFSBCP.out, HBwFSBCP.out⟩
            | exact ⟨w1.drew.heap.size, wSBP.heap.size, wSB.heap.size, wS.heap.size, rfl, HFwFSBPC.out, HBwFSBPC.out⟩
      · refine op_alloc 12 (some 5) 46 #[.slice none 0 0, .slice none 0 0, .slice none 0 0, .slice none 0 0, .slice none 0 0, .int .i64 0] (by rfl) (by kernel_rfl) ?_
        intro wCS hx hb
        have HBwCS := Lib.hid (HBwC.out.trans (hb.mono HBwC.out.size))
        have HX12wCS := Lib.hid hx
        have HX4wCS := Lib.hid (HX4wC.out.below hb HX4wC.out.lt)
        have hl4_12wCS : w1.drew.heap.size < wC.heap.size := HX4wC.out.lt
        clear hx hb
        refine ⟨trivial, ?_⟩
        try simp only [Act.put, List.setIfInBounds_toArray, List.set_cons_zero, List.set_cons_succ]
        refine held_two 7 10 (by kernel_rfl) ?_ ?_
        · refine op_make 7 (some 21) 24 (.tmp 20) (.tmp 20) (by rfl) Try.underlying24 inf_shift n rfl rfl (by omega) ?_
          intro wCSP hx hb
          have HBwCSP := Lib.hid (HBwCS.out.trans (hb.mono HBwCS.out.size))
          have HX7wCSP := Lib.hid hx
          have HX4wCSP := Lib.hid (HX4wCS.out.below hb HX4wCS.out.lt)
          have hl4_7wCSP : w1.drew.heap.size < wCS.heap.size := HX4wCS.out.lt
          have HX12wCSP := Lib.hid (HX12wCS.out.below hb HX12wCS.out.lt)
          have hl12_7wCSP : wC.heap.size < wCS.heap.size := HX12wCS.out.lt
          clear hx hb
          refine ⟨trivial, ?_⟩
          try simp only [Act.put, List.setIfInBounds_toArray, List.set_cons_zero, List.set_cons_succ]
          refine held_one 10 (by kernel_rfl) ?_
          refine op_make 10 (some 24) 24 (.tmp 23) (.tmp 23) (by rfl) Try.underlying24 inf_shift n rfl rfl (by omega) ?_
          intro wCSPB hx hb
          have HBwCSPB := Lib.hid (HBwCSP.out.trans (hb.mono HBwCSP.out.size))
          have HX10wCSPB := Lib.hid hx
          have HX4wCSPB := Lib.hid (HX4wCSP.out.below hb HX4wCSP.out.lt)
          have hl4_10wCSPB : w1.drew.heap.size < wCSP.heap.size := HX4wCSP.out.lt
          have HX12wCSPB := Lib.hid (HX12wCSP.out.below hb HX12wCSP.out.lt)
          have hl12_10wCSPB : wC.heap.size < wCSP.heap.size := HX12wCSP.out.lt
          have HX7wCSPB := Lib.hid (HX7wCSP.out.below hb HX7wCSP.out.lt)
          have hl7_10wCSPB : wCS.heap.size < wCSP.heap.size := HX7wCSP.out.lt
          clear hx hb
          refine ⟨trivial, ?_⟩
          try simp only [Act.put, List.setIfInBounds_toArray, List.set_cons_zero, List.set_cons_succ]
          refine held_run 11 (some 25) (.build 46 #[(0, (.tmp 14)), (1, (.tmp 15)), (2, (.tmp 18)), (3, (.tmp 21)), (4, (.tmp 24)), (5, .const (.int .i64 1))]) ?v3_1_32 (by rfl) (by kernel_rfl) (by kernel_rfl) (by kernel_rfl) (fun _ _ _ h => h) (fun o ho w hS => ?y3_1_32) (by assumption) ?r3_1_32
          case y3_1_32 => (try dsimp only at hS); unfold execOp; simp only [ho]; go_simp; try with_reducible rfl
          try simp only [Act.put, List.setIfInBounds_toArray, List.set_cons_zero, List.set_cons_succ]
          refine held_one 13 (by kernel_rfl) ?_
          refine op_store_blk 13 46 (.tmp 5) (.tmp 25) (by rfl) (wC.heap.size) #[.slice A n c, .slice B nw cw, .slice (some ⟨w1.drew.heap.size, 0, none⟩) n n, .slice (some ⟨wCS.heap.size, 0, none⟩) n n, .slice (some ⟨wCSP.heap.size, 0, none⟩) n n, .int .i64 1] rfl rfl _ _ (HX12wCSPB.out) (by kernel_rfl) rfl (by simp [Value.oneCell']) ?_
          intro wFCSPB hx hon
          have HFwFCSPB : Hid (FrM wFCSPB lo (wC.heap.size) (w1.drew.heap.size) (wCS.heap.size) (wCSP.heap.size) A n c B nw cw) := hide ⟨hx, hon.blk HX4wCSPB.out (by omega), hon.blk HX7wCSPB.out (by omega), hon.blk HX10wCSPB.out (by omega), by have h := HBw1d.out.size; omega, by omega⟩
          have HBwFCSPB : Hid (Below w.heap.size w wFCSPB) := hide (hon.below HBwCSPB.out (by have h := HBw1d.out.size; omega))
          clear hx hon
          refine ⟨trivial, ?_⟩
          try simp only [Act.put]
          refine wpAnyH_done (by kernel_rfl) ?_ _
          go_wp2_with fail
          go_meet
          first
            | exact ⟨wCPB.heap.size, w1.drew.heap.size, wC.heap.size, wCP.heap.size, rfl, HFwFCPBS.out, HBwFCPBS.out⟩
            | exact ⟨wCP.heap.size, w1.drew.heap.size, wC.heap.size, wCPS.heap.size, rfl, HFwFCPSB.out, HBwFCPSB.out⟩
            | exact ⟨wCBP.heap.size, w1.drew.heap.size, wCB.heap.size, wC.heap.size, rfl, HFwFCBPS.out, HBwFCBPS.out⟩
            | exact ⟨wCB.heap.size, w1.drew.heap.size, wCBS.heap.size, wC.heap.size, rfl, HFwFCBSP.out, HBwFCBSP.out⟩
            | exact ⟨wC.heap.size, w1.drew.heap.size, wCS.heap.size, wCSP.heap.size, rfl, HFwFCSPB.out, HBwFCSPB.out⟩
            | exact ⟨wC.heap.size, w1.drew.heap.size, wCSB.heap.size, wCS.heap.size, rfl, HFwFCSBP.out, HBwFCSBP.out⟩
            | exact ⟨wPCB.heap.size, wP.heap.size, w1.drew.heap.size, wPC.heap.size, rfl, HFwFPCBS.out, HBwFPCBS.out⟩
            | exact ⟨wPC.heap.size, wP.heap.size, w1.drew.heap.size, wPCS.heap.size, rfl, HFwFPCSB.out, HBwFPCSB.out⟩
            | exact ⟨wPBC.heap.size, wPB.heap.size, w1.drew.heap.size, wP.heap.size, rfl, HFwFPBCS.out, HBwFPBCS.out⟩
            | exact ⟨wPB.heap.size, wPBS.heap.size, w1.drew.heap.size, wP.heap.size, rfl, HFwFPBSC.out, HBwFPBSC.out⟩
            | exact ⟨wP.heap.size, wPS.heap.size, w1.drew.heap.size, wPSC.heap.size, rfl, HFwFPSCB.out, HBwFPSCB.out⟩
            | exact ⟨wP.heap.size, wPSB.heap.size, w1.drew.heap.size, wPS.heap.size, rfl, HFwFPSBC.out, HBwFPSBC.out⟩
            | exact ⟨wBCP.heap.size, wB.heap.size, wBC.heap.size, w1.drew.heap.size, rfl, HFwFBCPS.out, HBwFBCPS.out⟩
            | exact ⟨wBC.heap.size, wB.heap.size, wBCS.heap.size, w1.drew.heap.size, rfl, HFwFBCSP.out, HBwFBCSP.out⟩
            | exact ⟨wBPC.heap.size, wBP.heap.size, wB.heap.size, w1.drew.heap.size, rfl, HFwFBPCS.out, HBwFBPCS.out⟩
            | exact ⟨wBP.heap.size, wBPS.heap.size, wB.heap.size, w1.drew.heap.size, rfl, HFwFBPSC.out, HBwFBPSC.out⟩
            | exact ⟨wB.heap.size, wBS.heap.size, wBSC.heap.size, w1.drew.heap.size, rfl, HFwFBSCP.out, HBwFBSCP.out⟩
            | exact ⟨wB.heap.size, wBSP.heap.size, wBS.heap.size, w1.drew.heap.size, rfl, HFwFBSPC.out, HBwFBSPC.out⟩
            | exact ⟨w1.drew.heap.size, wS.heap.size, wSC.heap.size, wSCP.heap.size, rfl, HFwFSCPB.out, HBwFSCPB.out⟩
            | exact ⟨w1.drew.heap.size, wS.heap.size, wSCB.heap.size, wSC.heap.size, rfl, HFwFSCBP.out, HBwFSCBP.out⟩
            | exact ⟨w1.drew.heap.size, wSP.heap.size, wS.heap.size, wSPC.heap.size, rfl, HFwFSPCB.out, HBwFSPCB.out⟩
            | exact ⟨w1.drew.heap.size, wSPB.heap.size, wS.heap.size, wSP.heap.size, rfl, HFwFSPBC.out, HBwFSPBC.out⟩
            | exact ⟨w1.drew.heap.size, wSB.heap.size, wSBC.heap.size, wS.heap.size, rfl, HFwFSBCP.out, HBwFSBCP.out⟩
            | exact ⟨w1.drew.heap.size, wSBP.heap.size, wSB.heap.size, wS.heap.size, rfl, HFwFSBPC.out, HBwFSBPC.out⟩
        · refine op_make 10 (some 24) 24 (.tmp 23) (.tmp 23) (by rfl) Try.underlying24 inf_shift n rfl rfl (by omega) ?_
          intro wCSB hx hb
          have HBwCSB := Lib.hid (HBwCS.out.trans (hb.mono HBwCS.out.size))
          have HX10wCSB := Lib.hid hx
          have HX4wCSB := Lib.hid (HX4wCS.out.below hb HX4wCS.out.lt)
          have hl4_10wCSB : w1.drew.heap.size < wCS.heap.size := HX4wCS.out.lt
          have HX12wCSB := Lib.hid (HX12wCS.out.below hb HX12wCS.out.lt)
          have hl12_10wCSB : wC.heap.size < wCS.heap.size := HX12wCS.out.lt
          clear hx hb
          refine ⟨trivial, ?_⟩
          try simp only [Act.put, List.setIfInBounds_toArray, List.set_cons_zero, List.set_cons_succ]
          refine held_one 7 (by kernel_rfl) ?_
          refine op_make 7 (some 21) 24 (.tmp 20) (.tmp 20) (by rfl) Try.underlying24 inf_shift n rfl rfl (by omega) ?_
          intro wCSBP hx hb
          have HBwCSBP := Lib.hid (HBwCSB.out.trans (hb.mono HBwCSB.out.size))
          have HX7wCSBP := Lib.hid hx
          have HX4wCSBP := Lib.hid (HX4wCSB.out.below hb HX4wCSB.out.lt)
          have hl4_7wCSBP : w1.drew.heap.size < wCSB.heap.size := HX4wCSB.out.lt
          have HX12wCSBP := Lib.hid (HX12wCSB.out.below hb HX12wCSB.out.lt)
          have hl12_7wCSBP : wC.heap.size < wCSB.heap.size := HX12wCSB.out.lt
          have HX10wCSBP := Lib.hid (HX10wCSB.out.below hb HX10wCSB.out.lt)
          have hl10_7wCSBP : wCS.heap.size < wCSB.heap.size := HX10wCSB.out.lt
          clear hx hb
          refine ⟨trivial, ?_⟩
          try simp only [Act.put, List.setIfInBounds_toArray, List.set_cons_zero, List.set_cons_succ]
          refine held_run 11 (some 25) (.build 46 #[(0, (.tmp 14)), (1, (.tmp 15)), (2, (.tmp 18)), (3, (.tmp 21)), (4, (.tmp 24)), (5, .const (.int .i64 1))]) ?v3_1_36 (by rfl) (by kernel_rfl) (by kernel_rfl) (by kernel_rfl) (fun _ _ _ h => h) (fun o ho w hS => ?y3_1_36) (by assumption) ?r3_1_36
          case y3_1_36 => (try dsimp only at hS); unfold execOp; simp only [ho]; go_simp; try with_reducible rfl
          try simp only [Act.put, List.setIfInBounds_toArray, List.set_cons_zero, List.set_cons_succ]
          refine held_one 13 (by kernel_rfl) ?_
          refine op_store_blk 13 46 (.tmp 5) (.tmp 25) (by rfl) (wC.heap.size) #[.slice A n c, .slice B nw cw, .slice (some ⟨w1.drew.heap.size, 0, none⟩) n n, .slice (some ⟨wCSB.heap.size, 0, none⟩) n n, .slice (some ⟨wCS.heap.size, 0, none⟩) n n, .int .i64 1] rfl rfl _ _ (HX12wCSBP.out) (by kernel_rfl) rfl (by simp [Value.oneCell']) ?_
          intro wFCSBP hx hon
          have HFwFCSBP : Hid (FrM wFCSBP lo (wC.heap.size) (w1.drew.heap.size) (wCSB.heap.size) (wCS.heap.size) A n c B nw cw) := hide ⟨hx, hon.blk HX4wCSBP.out (by omega), hon.blk HX7wCSBP.out (by omega), hon.blk HX10wCSBP.out (by omega), by have h := HBw1d.out.size; omega, by omega⟩
          have HBwFCSBP : Hid (Below w.heap.size w wFCSBP) := hide (hon.below HBwCSBP.out (by have h := HBw1d.out.size; omega))
          clear hx hon
          refine ⟨trivial, ?_⟩
          try simp only [Act.put]
          refine wpAnyH_done (by kernel_rfl) ?_ _
          go_wp2_with fail
          go_meet
          first
            | exact ⟨wCPB.heap.size, w1.drew.heap.size, wC.heap.size, wCP.heap.size, rfl, HFwFCPBS.out, HBwFCPBS.out⟩
            | exact ⟨wCP.heap.size, w1.drew.heap.size, wC.heap.size, wCPS.heap.size, rfl, HFwFCPSB.out, HBwFCPSB.out⟩
            | exact ⟨wCBP.heap.size, w1.drew.heap.size, wCB.heap.size, wC.heap.size, rfl, HFwFCBPS.out, HBwFCBPS.out⟩
            | exact ⟨wCB.heap.size, w1.drew.heap.size, wCBS.heap.size, wC.heap.size, rfl, HFwFCBSP.out, HBwFCBSP.out⟩
            | exact ⟨wC.heap.size, w1.drew.heap.size, wCS.heap.size, wCSP.heap.size, rfl, HFwFCSPB.out, HBwFCSPB.out⟩
            | exact ⟨wC.heap.size, w1.drew.heap.size, wCSB.heap.size, wCS.heap.size, rfl, HFwFCSBP.out, HBwFCSBP.out⟩
            | exact ⟨wPCB.heap.size, wP.heap.size, w1.drew.heap.size, wPC.heap.size, rfl, HFwFPCBS.out, HBwFPCBS.out⟩
            | exact ⟨wPC.heap.size, wP.heap.size, w1.drew.heap.size, wPCS.heap.size, rfl, HFwFPCSB.out, HBwFPCSB.out⟩
            | exact ⟨wPBC.heap.size, wPB.heap.size, w1.drew.heap.size, wP.heap.size, rfl, HFwFPBCS.out, HBwFPBCS.out⟩
            | exact ⟨wPB.heap.size, wPBS.heap.size, w1.drew.heap.size, wP.heap.size, rfl, HFwFPBSC.out, HBwFPBSC.out⟩
            | exact ⟨wP.heap.size, wPS.heap.size, w1.drew.heap.size, wPSC.heap.size, rfl, HFwFPSCB.out, HBwFPSCB.out⟩
            | exact ⟨wP.heap.size, wPSB.heap.size, w1.drew.heap.size, wPS.heap.size, rfl, HFwFPSBC.out, HBwFPSBC.out⟩
            | exact ⟨wBCP.heap.size, wB.heap.size, wBC.heap.size, w1.drew.heap.size, rfl, HFwFBCPS.out, HBwFBCPS.out⟩
            | exact ⟨wBC.heap.size, wB.heap.size, wBCS.heap.size, w1.drew.heap.size, rfl, HFwFBCSP.out, HBwFBCSP.out⟩
            | exact ⟨wBPC.heap.size, wBP.heap.size, wB.heap.size, w1.drew.heap.size, rfl, HFwFBPCS.out, HBwFBPCS.out⟩
            | exact ⟨wBP.heap.size, wBPS.heap.size, wB.heap.size, w1.drew.heap.size, rfl, HFwFBPSC.out, HBwFBPSC.out⟩
            | exact ⟨wB.heap.size, wBS.heap.size, wBSC.heap.size, w1.drew.heap.size, rfl, HFwFBSCP.out, HBwFBSCP.out⟩
            | exact ⟨wB.heap.size, wBSP.heap.size, wBS.heap.size, w1.drew.heap.size, rfl, HFwFBSPC.out, HBwFBSPC.out⟩
            | exact ⟨w1.drew.heap.size, wS.heap.size, wSC.heap.size, wSCP.heap.size, rfl, HFwFSCPB.out, HBwFSCPB.out⟩
            | exact ⟨w1.drew.heap.size, wS.heap.size, wSCB.heap.size, wSC.heap.size, rfl, HFwFSCBP.out, HBwFSCBP.out⟩
            | exact ⟨w1.drew.heap.size, wSP.heap.size, wS.heap.size, wSPC.heap.size, rfl, HFwFSPCB.out, HBwFSPCB.out⟩
            | exact ⟨w1.drew.heap.size, wSPB.heap.size, wS.heap.size, wSP.heap.size, rfl, HFwFSPBC.out, HBwFSPBC.out⟩
            | exact ⟨w1.drew.heap.size, wSB.heap.size, wSBC.heap.size, wS.heap.size, rfl, HFwFSBCP.out, HBwFSBCP.out⟩
            | exact ⟨w1.drew.heap.size, wSBP.heap.size, wSB.heap.size, wS.heap.size, rfl, HFwFSBPC.out, HBwFSBPC.out⟩
    · refine op_make 7 (some 21) 24 (.tmp 20) (.tmp 20) (by rfl) Try.underlying24 inf_shift n rfl rfl (by omega) ?_
      intro wP hx hb
      have HBwP := Lib.hid (HBw1d.out.trans (hb.mono HBw1d.out.size))
      have HX7wP := Lib.hid hx
      clear hx hb
      refine ⟨trivial, ?_⟩
      try simp only [Act.put, List.setIfInBounds_toArray, List.set_cons_zero, List.set_cons_succ]
      refine held_three 4 10 12 (by kernel_rfl) ?_ ?_ ?_
      · refine op_make 4 (some 18) 44 (.tmp 17) (.tmp 17) (by rfl) Try.underlying44 inf_bools n rfl rfl (by omega) ?_
        intro wPC hx hb
        have HBwPC := Lib.hid (HBwP.out.trans (hb.mono HBwP.out.size))
        have HX4wPC := Lib.hid hx
        have HX7wPC := Lib.hid (HX7wP.out.below hb HX7wP.out.lt)
        have hl7_4wPC : w1.drew.heap.size < wP.heap.size := HX7wP.out.lt
        clear hx hb
        refine ⟨trivial, ?_⟩
        try simp only [Act.put, List.setIfInBounds_toArray, List.set_cons_zero, List.set_cons_succ]
        refine held_two 10 12 (by kernel_rfl) ?_ ?_
        · refine op_make 10 (some 24) 24 (.tmp 23) (.tmp 23) (by rfl) Try.underlying24 inf_shift n rfl rfl (by omega) ?_
          intro wPCB hx hb
          have HBwPCB := Lib.hid (HBwPC.out.trans (hb.mono HBwPC.out.size))
          have HX10wPCB := Lib.hid hx
          have HX7wPCB := Lib.hid (HX7wPC.out.below hb HX7wPC.out.lt)
          have hl7_10wPCB : w1.drew.heap.size < wPC.heap.size := HX7wPC.out.lt
          have HX4wPCB := Lib.hid (HX4wPC.out.below hb HX4wPC.out.lt)
          have hl4_10wPCB : wP.heap.size < wPC.heap.size := HX4wPC.out.lt
          clear hx hb
          refine ⟨trivial, ?_⟩
          try simp only [Act.put, List.setIfInBounds_toArray, List.set_cons_zero, List.set_cons_succ]
          refine held_run 11 (some 25) (.build 46 #[(0, (.tmp 14)), (1, (.tmp 15)), (2, (.tmp 18)), (3, (.tmp 21)), (4, (.tmp 24)), (5, .const (.int .i64 1))]) ?v3_1_41 (by rfl) (by kernel_rfl) (by kernel_rfl) (by kernel_rfl) (fun _ _ _ h => h) (fun o ho w hS => ?y3_1_41) (by assumption) ?r3_1_41
          case y3_1_41 => (try dsimp only at hS); unfold execOp; simp only [ho]; go_simp; try with_reducible rfl
          try simp only [Act.put, List.setIfInBounds_toArray, List.set_cons_zero, List.set_cons_succ]
          refine held_one 12 (by kernel_rfl) ?_
          refine op_alloc 12 (some 5) 46 #[.slice none 0 0, .slice none 0 0, .slice none 0 0, .slice none 0 0, .slice none 0 0, .int .i64 0] (by rfl) (by kernel_rfl) ?_
          intro wPCBS hx hb
          have HBwPCBS := Lib.hid (HBwPCB.out.trans (hb.mono HBwPCB.out.size))
          have HX12wPCBS := Lib.hid hx
          have HX7wPCBS := Lib.hid (HX7wPCB.out.below hb HX7wPCB.out.lt)
          have hl7_12wPCBS : w1.drew.heap.size < wPCB.heap.size := HX7wPCB.out.lt
          have HX4wPCBS := Lib.hid (HX4wPCB.out.below hb HX4wPCB.out.lt)
          have hl4_12wPCBS : wP.heap.size < wPCB.heap.size := HX4wPCB.out.lt
          have HX10wPCBS := Lib.hid (HX10wPCB.out.below hb HX10wPCB.out.lt)
          have hl10_12wPCBS : wPC.heap.size < wPCB.heap.size := HX10wPCB.out.lt
          clear hx hb
          refine ⟨trivial, ?_⟩
          try simp only [Act.put, List.setIfInBounds_toArray, List.set_cons_zero, List.set_cons_succ]
          refine held_one 13 (by kernel_rfl) ?_
          refine op_store_blk 13 46 (.tmp 5) (.tmp 25) (by rfl) (wPCB.heap.size) #[.slice A n c, .slice B nw cw, .slice (some ⟨wP.heap.size, 0, none⟩) n n, .slice (some ⟨w1.drew.heap.size, 0, none⟩) n n, .slice (some ⟨wPC.heap.size, 0, none⟩) n n, .int .i64 1] rfl rfl _ _ (HX12wPCBS.out) (by kernel_rfl) rfl (by simp [Value.oneCell']) ?_
          intro wFPCBS hx hon
          have HFwFPCBS : Hid (FrM wFPCBS lo (wPCB.heap.size) (wP.heap.size) (w1.drew.heap.size) (wPC.heap.size) A n c B nw cw) := hide ⟨hx, hon.blk HX4wPCBS.out (by omega), hon.blk HX7wPCBS.out (by omega), hon.blk HX10wPCBS.out (by omega), by have h := HBw1d.out.size; omega, by omega⟩
          have HBwFPCBS : Hid (Below w.heap.size w wFPCBS) := hide (hon.below HBwPCBS.out (by have h := HBw1d.out.size; omega))
          clear hx hon
          refine ⟨trivial, ?_⟩
          try simp only [Act.put]
          refine wpAnyH_done (by kernel_rfl) ?_ _
          go_wp2_with fail
          go_meet
          first
            | exact ⟨wCPB.heap.size, w1.drew.heap.size, wC.heap.size, wCP.heap.size, rfl, HFwFCPBS.out, HBwFCPBS.out⟩
            | exact ⟨wCP.heap.size, w1.drew.heap.size, wC.heap.size, wCPS.heap.size, rfl, HFwFCPSB.out, HBwFCPSB.out⟩
            | exact ⟨wCBP.heap.size, w1.drew.heap.size, wCB.heap.size, wC.heap.size, rfl, HFwFCBPS.out, HBwFCBPS.out⟩
            | exact ⟨wCB.heap.size, w1.drew.heap.size, wCBS.heap.size, wC.heap.size, rfl, HFwFCBSP.out, HBwFCBSP.out⟩
            | exact ⟨wC.heap.size, w1.drew.heap.size, wCS.heap.size, wCSP.heap.size, rfl, HFwFCSPB.out, HBwFCSPB.out⟩
            | exact ⟨wC.heap.size, w1.drew.heap.size, wCSB.heap.size, wCS.heap.size, rfl, HFwFCSBP.out, HBwFCSBP.out⟩
            | exact ⟨wPCB.heap.size, wP.heap.size, w1.drew.heap.size, wPC.heap.size, rfl, HFwFPCBS.out, HBwFPCBS.out⟩
            | exact ⟨wPC.heap.size, wP.heap.size, w1.drew.heap.size, wPCS.heap.size, rfl, HFwFPCSB.out, HBwFPCSB.out⟩
            | exact ⟨wPBC.heap.size, wPB.heap.size, w1.drew.heap.size, wP.heap.size, rfl, HFwFPBCS.out, HBwFPBCS.out⟩
            | exact ⟨wPB.heap.size, wPBS.heap.size, w1.drew.heap.size, wP.heap.size, rfl, HFwFPBSC.out, HBwFPBSC.out⟩
            | exact ⟨wP.heap.size, wPS.heap.size, w1.drew.heap.size, wPSC.heap.size, rfl, HFwFPSCB.out, HBwFPSCB.out⟩
            | exact ⟨wP.heap.size, wPSB.heap.size, w1.drew.heap.size, wPS.heap.size, rfl, HFwFPSBC.out, HBwFPSBC.out⟩
            | exact ⟨wBCP.heap.size, wB.heap.size, wBC.heap.size, w1.drew.heap.size, rfl, HFwFBCPS.out, HBwFBCPS.out⟩
            | exact ⟨wBC.heap.size, wB.heap.size, wBCS.heap.size, w1.drew.heap.size, rfl, HFwFBCSP.out, HBwFBCSP.out⟩
            | exact ⟨wBPC.heap.size, wBP.heap.size, wB.heap.size, w1.drew.heap.size, rfl, HFwFBPCS.out, HBwFBPCS.out⟩
            | exact ⟨wBP.heap.size, wBPS.heap.size, wB.heap.size, w1.drew.heap.size, rfl, HFwFBPSC.out, HBwFBPSC.out⟩
            | exact ⟨wB.heap.size, wBS.heap.size, wBSC.heap.size, w1.drew.heap.size, rfl, HFwFBSCP.out, HBwFBSCP.out⟩
            | exact ⟨wB.heap.size, wBSP.heap.size, wBS.heap.size, w1.drew.heap.size, rfl, HFwFBSPC.out, HBwFBSPC.out⟩
            | exact ⟨w1.drew.heap.size, wS.heap.size, wSC.heap.size, wSCP.heap.size, rfl, HFwFSCPB.out, HBwFSCPB.out⟩
            | exact ⟨w1.drew.heap.size, wS.heap.size, wSCB.heap.size, wSC.heap.size, rfl, HFwFSCBP.out, HBwFSCBP.out⟩
            | exact ⟨w1.drew.heap.size, wSP.heap.size, wS.heap.size, wSPC.heap.size, rfl, HFwFSPCB.out, HBwFSPCB.out⟩
            | exact ⟨w1.drew.heap.size, wSPB.heap.size, wS.heap.size, wSP.heap.size, rfl, HFwFSPBC.out, HBwFSPBC.out⟩
            | exact ⟨w1.drew.heap.size, wSB.heap.size, wSBC.heap.size, wS.heap.size, rfl, HFwFSBCP.out, HBwFSBCP.out⟩
            | exact ⟨w1.drew.heap.size, wSBP.heap.size, wSB.heap.size, wS.heap.size, rfl, HFwFSBPC.out, HBwFSBPC.out⟩
        · refine op_alloc 12 (some 5) 46 #[.slice none 0 0, .slice none 0 0, .slice none 0 0, .slice none 0 0, .slice none 0 0, .int .i64 0] (by rfl) (by kernel_rfl) ?_
          intro wPCS hx hb
          have HBwPCS := Lib.hid (HBwPC.out.trans (hb.mono HBwPC.out.size))
          have HX12wPCS := Lib.hid hx
          have HX7wPCS := Lib.hid (HX7wPC.out.below hb HX7wPC.out.lt)
          have hl7_12wPCS : w1.drew.heap.size < wPC.heap.size := HX7wPC.out.lt
          have HX4wPCS := Lib.hid (HX4wPC.out.below hb HX4wPC.out.lt)
          have hl4_12wPCS : wP.heap.size < wPC.heap.size := HX4wPC.out.lt
          clear hx hb
          refine ⟨trivial, ?_⟩
          try simp only [Act.put, List.setIfInBounds_toArray, List.set_cons_zero, List.set_cons_succ]
          refine held_one 10 (by kernel_rfl) ?_
          refine op_make 10 (some 24) 24 (.tmp 23) (.tmp 23) (by rfl) Try.underlying24 inf_shift n rfl rfl (by omega) ?_
          intro wPCSB hx hb
          have HBwPCSB := Lib.hid (HBwPCS.out.trans (hb.mono HBwPCS.out.size))
          have HX10wPCSB := Lib.hid hx
          have HX7wPCSB := Lib.hid (HX7wPCS.out.below hb HX7wPCS.out.lt)
          have hl7_10wPCSB : w1.drew.heap.size < wPCS.heap.size := HX7wPCS.out.lt
          have HX4wPCSB := Lib.hid (HX4wPCS.out.below hb HX4wPCS.out.lt)
          have hl4_10wPCSB : wP.heap.size < wPCS.heap.size := HX4wPCS.out.lt
          have HX12wPCSB := Lib.hid (HX12wPCS.out.below hb HX12wPCS.out.lt)
          have hl12_10wPCSB : wPC.heap.size < wPCS.heap.size := HX12wPCS.out.lt
          clear hx hb
          refine ⟨trivial, ?_⟩
          try simp only [Act.put, List.setIfInBounds_toArray, List.set_cons_zero, List.set_cons_succ]
          refine held_run 11 (some 25) (.build 46 #[(0, (.tmp 14)), (1, (.tmp 15)), (2, (.tmp 18)), (3, (.tmp 21)), (4, (.tmp 24)), (5, .const (.int .i64 1))]) ?v3_1_46 (by rfl) (by kernel_rfl) (by kernel_rfl) (by kernel_rfl) (fun _ _ _ h => h) (fun o ho w hS => ?y3_1_46) (by assumption) ?r3_1_46
          case y3_1_46 => (try dsimp only at hS); unfold execOp; simp only [ho]; go_simp; try with_reducible rfl
          try simp only [Act.put, List.setIfInBounds_toArray, List.set_cons_zero, List.set_cons_succ]
          refine held_one 13 (by kernel_rfl) ?_
          refine op_store_blk 13 46 (.tmp 5) (.tmp 25) (by rfl) (wPC.heap.size) #[.slice A n c, .slice B nw cw, .slice (some ⟨wP.heap.size, 0, none⟩) n n, .slice (some ⟨w1.drew.heap.size, 0, none⟩) n n, .slice (some ⟨wPCS.heap.size, 0, none⟩) n n, .int .i64 1] rfl rfl _ _ (HX12wPCSB.out) (by kernel_rfl) rfl (by simp [Value.oneCell']) ?_
          intro wFPCSB hx hon
          have HFwFPCSB : Hid (FrM wFPCSB lo (wPC.heap.size) (wP.heap.size) (w1.drew.heap.size) (wPCS.heap.size) A n c B nw cw) := hide ⟨hx, hon.blk HX4wPCSB.out (by omega), hon.blk HX7wPCSB.out (by omega), hon.blk HX10wPCSB.out (by omega), by have h := HBw1d.out.size; omega, by omega⟩
          have HBwFPCSB : Hid (Below w.heap.size w wFPCSB) := hide (hon.below HBwPCSB.out (by have h := HBw1d.out.size; omega))
          clear hx hon
          refine ⟨trivial, ?_⟩
          try simp only [Act.put]
          refine wpAnyH_done (by kernel_rfl) ?_ _
          go_wp2_with fail
          go_meet
          first
            | exact ⟨wCPB.heap.size, w1.drew.heap.size, wC.heap.size, wCP.heap.size, rfl, HFwFCPBS.out, HBwFCPBS.out⟩
            | exact ⟨wCP.heap.size, w1.drew.heap.size, wC.heap.size, wCPS.heap.size, rfl, HFwFCPSB.out, HBwFCPSB.out⟩
            | exact ⟨wCBP.heap.size, w1.drew.heap.size, wCB.heap.size, wC.heap.size, rfl, HFwFCBPS.out, HBwFCBPS.out⟩
            | exact ⟨wCB.heap.size, w1.drew.heap.size, wCBS.heap.size, wC.heap.size, rfl, HFwFCBSP.out, HBwFCBSP.out⟩
            | exact ⟨wC.heap.size, w1.drew.heap.size, wCS.heap.size, wCSP.heap.size, rfl, HFwFCSPB.out, HBwFCSPB.out⟩
            | exact ⟨wC.heap.size, w1.drew.heap.size, wCSB.heap.size, wCS.heap.size, rfl, HFwFCSBP.out, HBwFCSBP.out⟩
            | exact ⟨wPCB.heap.size, wP.heap.size, w1.drew.heap.size, wPC.heap.size, rfl, HFwFPCBS.out, HBwFPCBS.out⟩
            | exact ⟨wPC.heap.size, wP.heap.size, w1.drew.heap.size, wPCS.heap.size, rfl, HFwFPCSB.out, HBwFPCSB.out⟩
            | exact ⟨wPBC.heap.size, wPB.heap.size, w1.drew.heap.size, wP.heap.size, rfl, HFwFPBCS.out, HBwFPBCS.out⟩
            | exact ⟨wPB.heap.size, wPBS.heap.size, w1.drew.heap.size, wP.heap.size, rfl, HFwFPBSC.out, HBwFPBSC.out⟩
            | exact ⟨wP.heap.size, wPS.heap.size, w1.drew.heap.size, wPSC.heap.size, rfl, HFwFPSCB.out, HBwFPSCB.out⟩
            | exact ⟨wP.heap.size, wPSB.heap.size, w1.drew.heap.size, wPS.heap.size, rfl, HFwFPSBC.out, HBwFPSBC.out⟩
            | exact ⟨wBCP.heap.size, wB.heap.size, wBC.heap.size, w1.drew.heap.size, rfl, HFwFBCPS.out, HBwFBCPS.out⟩
            | exact ⟨wBC.heap.size, wB.heap.size, wBCS.heap.size, w1.drew.heap.size, rfl, HFwFBCSP.out, HBwFBCSP.out⟩
            | exact ⟨wBPC.heap.size, wBP.heap.size, wB.heap.size, w1.drew.heap.size, rfl, HFwFBPCS.out, HBwFBPCS.out⟩
            | exact ⟨wBP.heap.size, wBPS.heap.size, wB.heap.size, w1.drew.heap.size, rfl, HFwFBPSC.out, HBwFBPSC.out⟩
            | exact ⟨wB.heap.size, wBS.heap.size, wBSC.heap.size, w1.drew.heap.size, rfl, HFwFBSCP.out, HBwFBSCP.out⟩
            | exact ⟨wB.heap.size, wBSP.heap.size, wBS.heap.size, w1.drew.heap.size, rfl, HFwFBSPC.out, HBwFBSPC.out⟩
            | exact ⟨w1.drew.heap.size, wS.heap.size, wSC.heap.size, wSCP.heap.size, rfl, HFwFSCPB.out, HBwFSCPB.out⟩
            | exact ⟨w1.drew.heap.size, wS.heap.size, wSCB.heap.size, wSC.heap.size, rfl, HFwFSCBP.out, HBwFSCBP.out⟩
            | exact ⟨w1.drew.heap.size, wSP.heap.size, wS.heap.size, wSPC.heap.size, rfl, HFwFSPCB.out, HBwFSPCB.out⟩
            | exact ⟨w1.drew.heap.size, wSPB.heap.size, wS.heap.size, wSP.heap.size, rfl, HFwFSPBC.out, HBwFSPBC.out⟩
            | exact ⟨w1.drew.heap.size, wSB.heap.size, wSBC.heap.size, wS.heap.size, rfl, HFwFSBCP.out, HBwFSBCP.out⟩
            | exact ⟨w1.drew.heap.size, wSBP.heap.size, wSB.heap.size, wS.heap.size, rfl, HFwFSBPC.out, HBwFSBPC.out⟩
      · refine op_make 10 (some 24) 24 (.tmp 23) (.tmp 23) (by rfl) Try.underlying24 inf_shift n rfl rfl (by omega) ?_
        intro wPB hx hb
        have HBwPB := Lib.hid (HBwP.out.trans (hb.mono HBwP.out.size))
        have HX10wPB := Lib.hid hx
        have HX7wPB := Lib.hid (HX7wP.out.below hb HX7wP.out.lt)
        have hl7_10wPB : w1.drew.heap.size < wP.heap.size := HX7wP.out.lt
        clear hx hb
        refine ⟨trivial, ?_⟩
        try simp only [Act.put, List.setIfInBounds_toArray, List.set_cons_zero, List.set_cons_succ]
        refine held_two 4 12 (by kernel_rfl) ?_ ?_
        · refine op_make 4 (some 18) 44 (.tmp 17) (.tmp 17) (by rfl) Try.underlying44 inf_bools n rfl rfl (by omega) ?_
          intro wPBC hx hb
          have HBwPBC := Lib.hid (HBwPB.out.trans (hb.mono HBwPB.out.size))
          have HX4wPBC := Lib.hid hx
          have HX7wPBC := Lib.hid (HX7wPB.out.below hb HX7wPB.out.lt)
          have hl7_4wPBC : w1.drew.heap.size < wPB.heap.size := HX7wPB.out.lt
          have HX10wPBC := Lib.hid (HX10wPB.out.below hb HX10wPB.out.lt)
          have hl10_4wPBC : wP.heap.size < wPB.heap.size := HX10wPB.out.lt
          clear hx hb
          refine ⟨trivial, ?_⟩
          try simp only [Act.put, List.setIfInBounds_toArray, List.set_cons_zero, List.set_cons_succ]
          refine held_run 11 (some 25) (.build 46 #[(0, (.tmp 14)), (1, (.tmp 15)), (2, (.tmp 18)), (3, (.tmp 21)), (4, (.tmp 24)), (5, .const (.int .i64 1))]) ?v3_1_50 (by rfl) (by kernel_rfl) (by kernel_rfl) (by kernel_rfl) (fun _ _ _ h => h) (fun o ho w hS => ?y3_1_50) (by assumption) ?r3_1_50
          case y3_1_50 => (try dsimp only at hS); unfold execOp; simp only [ho]; go_simp; try with_reducible rfl
          try simp only [Act.put, List.setIfInBounds_toArray, List.set_cons_zero, List.set_cons_succ]
          refine held_one 12 (by kernel_rfl) ?_
          refine op_alloc 12 (some 5) 46 #[.slice none 0 0, .slice none 0 0, .slice none 0 0, .slice none 0 0, .slice none 0 0, .int .i64 0] (by rfl) (by kernel_rfl) ?_
          intro wPBCS hx hb
          have HBwPBCS := Lib.hid (HBwPBC.out.trans (hb.mono HBwPBC.out.size))
          have HX12wPBCS := Lib.hid hx
          have HX7wPBCS := Lib.hid (HX7wPBC.out.below hb HX7wPBC.out.lt)
          have hl7_12wPBCS : w1.drew.heap.size < wPBC.heap.size := HX7wPBC.out.lt
          have HX10wPBCS := Lib.hid (HX10wPBC.out.below hb HX10wPBC.out.lt)
          have hl10_12wPBCS : wP.heap.size < wPBC.heap.size := HX10wPBC.out.lt
          have HX4wPBCS := Lib.hid (HX4wPBC.out.below hb HX4wPBC.out.lt)
          have hl4_12wPBCS : wPB.heap.size < wPBC.heap.size := HX4wPBC.out.lt
          clear hx hb
          refine ⟨trivial, ?_⟩
          try simp only [Act.put, List.setIfInBounds_toArray, List.set_cons_zero, List.set_cons_succ]
          refine held_one 13 (by kernel_rfl) ?_
          refine op_store_blk 13 46 (.tmp 5) (.tmp 25) (by rfl) (wPBC.heap.size) #[.slice A n c, .slice B nw cw, .slice (some ⟨wPB.heap.size, 0, none⟩) n n, .slice (some ⟨w1.drew.heap.size, 0, none⟩) n n, .slice (some ⟨wP.heap.size, 0, none⟩) n n, .int .i64 1] rfl rfl _ _ (HX12wPBCS.out) (by kernel_rfl) rfl (by simp [Value.oneCell']) ?_
          intro wFPBCS hx hon
          have HFwFPBCS : Hid (FrM wFPBCS lo (wPBC.heap.size) (wPB.heap.size) (w1.drew.heap.size) (wP.heap.size) A n c B nw cw) := hide ⟨hx, hon.blk HX4wPBCS.out (by omega), hon.blk HX7wPBCS.out (by omega), hon.blk HX10wPBCS.out (by omega), by have h := HBw1d.out.size; omega, by omega⟩
          have HBwFPBCS : Hid (Below w.heap.size w wFPBCS) := hide (hon.below HBwPBCS.out (by have h := HBw1d.out.size; omega))
          clear hx hon
          refine ⟨trivial, ?_⟩
          try simp only [Act.put]
          refine wpAnyH_done (by kernel_rfl) ?_ _
          go_wp2_with fail
          go_meet
          first
            | exact ⟨wCPB.heap.size, w1.drew.heap.size, wC.heap.size, wCP.heap.size, rfl, HFwFCPBS.out, HBwFCPBS.out⟩
            | exact ⟨wCP.heap.size, w1.drew.heap.size, wC.heap.size, wCPS.heap.size, rfl, HFwFCPSB.out, HBwFCPSB.out⟩
            | exact ⟨wCBP.heap.size, w1.drew.heap.size, wCB.heap.size, wC.heap.size, rfl, HFwFCBPS.out, HBwFCBPS.out⟩
            | exact ⟨wCB.heap.size, w1.drew.heap.size, wCBS.heap.size, wC.heap.size, rfl, HFwFCBSP.out, HBwFCBSP.out⟩
            | exact ⟨wC.heap.size, w1.drew.heap.size, wCS.heap.size, wCSP.heap.size, rfl, HFwFCSPB.out, HBwFCSPB.out⟩
            | exact ⟨wC.heap.size, w1.drew.heap.size, wCSB.heap.size, wCS.heap.size, rfl, HFwFCSBP.out, HBwFCSBP.out⟩
            | exact ⟨wPCB.heap.size, wP.heap.size, w1.drew.heap.size, wPC.heap.size, rfl, HFwFPCBS.out, HBwFPCBS.out⟩
            | exact ⟨wPC.heap.size, wP.heap.size, w1.drew.heap.size, wPCS.heap.size, rfl, HFwFPCSB.out, HBwFPCSB.out⟩
            | exact ⟨wPBC.heap.size, wPB.heap.size, w1.drew.heap.size, wP.heap.size, rfl, HFwFPBCS.out, HBwFPBCS.out⟩
            | exact ⟨wPB.heap.size, wPBS.heap.size, w1.drew.heap.size, wP.heap.size, rfl, HFwFPBSC.out, HBwFPBSC.out⟩
            | exact ⟨wP.heap.size, wPS.heap.size, w1.drew.heap.size, wPSC.heap.size, rfl, HFwFPSCB.out, HBwFPSCB.out⟩
            | exact ⟨wP.heap.size, wPSB.heap.size, w1.drew.heap.size, wPS.heap.size, rfl, HFwFPSBC.out, HBwFPSBC.out⟩
            | exact ⟨wBCP.heap.size, wB.heap.size, wBC.heap.size, w1.drew.heap.size, rfl, HFwFBCPS.out, HBwFBCPS.out⟩
            | exact ⟨wBC.heap.size, wB.heap.size, wBCS.heap.size, w1.drew.heap.size, rfl, HFwFBCSP.out, HBwFBCSP.out⟩
            | exact ⟨wBPC.heap.size, wBP.heap.size, wB.heap.size, w1.drew.heap.size, rfl, HFwFBPCS.out, HBwFBPCS.out⟩
            | exact ⟨wBP.heap.size, wBPS.heap.size, wB.heap.size, w1.drew.heap.size, rfl, HFwFBPSC.out, HBwFBPSC.out⟩
            | exact ⟨wB.heap.size, wBS.heap.size, wBSC.heap.size, w1.drew.heap.size, rfl, HFwFBSCP.out, HBwFBSCP.out⟩
            | exact ⟨wB.heap.size, wBSP.heap.size, wBS.heap.size, w1.drew.heap.size, rfl, HFwFBSPC.out, HBwFBSPC.out⟩
            | exact ⟨w1.drew.heap.size, wS.heap.size, wSC.heap.size, wSCP.heap.size, rfl, HFwFSCPB.out, HBwFSCPB.out⟩
            | exact ⟨w1.drew.heap.size, wS.heap.size, wSCB.heap.size, wSC.heap.size, rfl, HFwFSCBP.out, HBwFSCBP.out⟩
            | exact ⟨w1.drew.heap.size, wSP.heap.size, wS.heap.size, wSPC.heap.size, rfl, HFwFSPCB.out, HBwFSPCB.out⟩
            | exact ⟨w1.drew.heap.size, wSPB.heap.size, wS.heap.size, wSP.heap.size, rfl, HFwFSPBC.out, HBwFSPBC.out⟩
            | exact ⟨w1.drew.heap.size, wSB.heap.size, wSBC.heap.size, wS.heap.size, rfl, HFwFSBCP.out, HBwFSBCP.out⟩
            | exact ⟨w1.drew.heap.size, wSBP.heap.size, wSB.heap.size, wS.heap.size, rfl, HFwFSBPC.out, HBwFSBPC.out⟩
        · refine op_alloc 12 (some 5) 46 #[.slice none 0 0, .slice none 0 0, .slice none 0 0, .slice none 0 0, .slice none 0 0, .int .i64 0] (by rfl) (by kernel_rfl) ?_
          intro wPBS hx hb
          have HBwPBS := Lib.hid (HBwPB.out.trans (hb.mono HBwPB.out.size))
          have HX12wPBS := Lib.hid hx
          have HX7wPBS := Lib.hid (HX7wPB.out.below hb HX7wPB.out.lt)
          have hl7_12wPBS : w1.drew.heap.size < wPB.heap.size := HX7wPB.out.lt
          have HX10wPBS := Lib.hid (HX10wPB.out.below hb HX10wPB.out.lt)
          have hl10_12wPBS : wP.heap.size < wPB.heap.size := HX10wPB.out.lt
          clear hx hb
          refine ⟨trivial, ?_⟩
          try simp only [Act.put, List.setIfInBounds_toArray, List.set_cons_zero, List.set_cons_succ]
          refine held_one 4 (by kernel_rfl) ?_
          refine op_make 4 (some 18) 44 (.tmp 17) (.tmp 17) (by rfl) Try.underlying44 inf_bools n rfl rfl (by omega) ?_
          intro wPBSC hx hb
          have HBwPBSC := Lib.hid (HBwPBS.out.trans (hb.mono HBwPBS.out.size))
          have HX4wPBSC := Lib.hid hx
          have HX7wPBSC := Lib.hid (HX7wPBS.out.below hb HX7wPBS.out.lt)
          have hl7_4wPBSC : w1.drew.heap.size < wPBS.heap.size := HX7wPBS.out.lt
          have HX10wPBSC := Lib.hid (HX10wPBS.out.below hb HX10wPBS.out.lt)
          have hl10_4wPBSC : wP.heap.size < wPBS.heap.size := HX10wPBS.out.lt
          have HX12wPBSC := Lib.hid (HX12wPBS.out.below hb HX12wPBS.out.lt)
          have hl12_4wPBSC : wPB.heap.size < wPBS.heap.size := HX12wPBS.out.lt
          clear hx hb
          refine ⟨trivial, ?_⟩
          try simp only [Act.put, List.setIfInBounds_toArray, List.set_cons_zero, List.set_cons_succ]
          refine held_run 11 (some 25) (.build 46 #[(0, (.tmp 14)), (1, (.tmp 15)), (2, (.tmp 18)), (3, (.tmp 21)), (4, (.tmp 24)), (5, .const (.int .i64 1))]) ?v3_1_55 (by rfl) (by kernel_rfl) (by kernel_rfl) (by kernel_rfl) (fun _ _ _ h => h) (fun o ho w hS => ?y3_1_55) (by assumption) ?r3_1_55
          case y3_1_55 => (try dsimp only at hS); unfold execOp; simp only [ho]; go_simp; try with_reducible rfl
          try simp only [Act.put, List.setIfInBounds_toArray, List.set_cons_zero, List.set_cons_succ]
          refine held_one 13 (by kernel_rfl) ?_
          refine op_store_blk 13 46 (.tmp 5) (.tmp 25) (by rfl) (wPB.heap.size) #[.slice A n c, .slice B nw cw, .slice (some ⟨wPBS.heap.size, 0, none⟩) n n, .slice (some ⟨w1.drew.heap.size, 0, none⟩) n n, .slice (some ⟨wP.heap.size, 0, none⟩) n n, .int .i64 1] rfl rfl _ _ (HX12wPBSC.out) (by kernel_rfl) rfl (by simp [Value.oneCell']) ?_
          intro wFPBSC hx hon
          have HFwFPBSC : Hid (FrM wFPBSC lo (wPB.heap.size) (wPBS.heap.size) (w1.drew.heap.size) (wP.heap.size) A n c B nw cw) := hide ⟨hx, hon.blk HX4wPBSC.out (by omega), hon.blk HX7wPBSC.out (by omega), hon.blk HX10wPBSC.out (by omega), by have h := HBw1d.out.size; omega, by omega⟩
          have HBwFPBSC : Hid (Below w.heap.size w wFPBSC) := hide (hon.below HBwPBSC.out (by have h := HBw1d.out.size; omega))
          clear hx hon
          refine ⟨trivial, ?_⟩
          try simp only [Act.put]
          refine wpAnyH_done (by kernel_rfl) ?_ _
          go_wp2_with fail
          go_meet
          first
            | exact ⟨wCPB.heap.size, w1.drew.heap.size, wC.heap.size, wCP.heap.size, rfl, HFwFCPBS.out, HBwFCPBS.out⟩
            | exact ⟨wCP.heap.size, w1.drew.heap.size, wC.heap.size, wCPS.heap.size, rfl, HFwFCPSB.out, HBwFCPSB.out⟩
            | exact ⟨wCBP.heap.size, w1.drew.heap.size, wCB.heap.size, wC.heap.size, rfl, HFwFCBPS.out, HBwFCBPS.out⟩
            | exact ⟨wCB.heap.size, w1.drew.heap.size, wCBS.heap.size, wC.heap.size, rfl, HFwFCBSP.out, HBwFCBSP.out⟩
            | exact ⟨wC.heap.size, w1.drew.heap.size, wCS.heap.size, wCSP.heap.size, rfl, HFwFCSPB.out, HBwFCSPB.out⟩
            | exact ⟨wC.heap.size, w1.drew.heap.size, wCSB.heap.size, wCS.heap.size, rfl, HFwFCSBP.out, HBwFCSBP.out⟩
            | exact ⟨wPCB.heap.size, wP.heap.size, w1.drew.heap.size, wPC.heap.size, rfl, HFwFPCBS.out, HBwFPCBS.out⟩
            | exact ⟨wPC.heap.size, wP.heap.size, w1.drew.heap.size, wPCS.heap.size, rfl, HFwFPCSB.out, HBwFPCSB.out⟩
            | exact ⟨wPBC.heap.size, wPB.heap.size, w1.drew.heap.size, wP.heap.size, rfl, HFwFPBCS.out, HBwFPBCS.out⟩
            | exact ⟨wPB.heap.size, wPBS.heap.size, w1.drew.heap.size, wP.heap.size, rfl, HFwFPBSC.out, HBwFPBSC.out⟩
            | exact ⟨wP.heap.size, wPS.heap.size, w1.drew.heap.size, wPSC.heap.size, rfl, HFwFPSCB.out, HBwFPSCB.out⟩
            | exact ⟨wP.heap.size, wPSB.heap.size, w1.drew.heap.size, wPS.heap.size, rfl, HFwFPSBC.out, HBwFPSBC.out⟩
            | exact ⟨wBCP.heap.size, wB.heap.size, wBC.heap.size, w1.drew.heap.size, rfl, HFwFBCPS.out, HBwFBCPS.out⟩
            | exact ⟨wBC.heap.size, wB.heap.size, wBCS.heap.size, w1.drew.heap.size, rfl, HFwFBCSP.out, HBwFBCSP.out⟩
            | exact ⟨wBPC.heap.size, wBP.heap.size, wB.heap.size, w1.drew.heap.size, rfl, HFwFBPCS.out, HBwFBPCS.out⟩
            | exact ⟨wBP.heap.size, wBPS.heap.size, wB.heap.size, w1.drew.heap.size, rfl, HFwFBPSC.out, HBwFBPSC.out⟩
            | exact ⟨wB.heap.size, wBS.heap.size, wBSC.heap.size, w1.drew.heap.size, rfl, HFwFBSCP.out, HBwFBSCP.out⟩
            | exact ⟨wB.heap.size, wBSP.heap.size, wBS.heap.size, w1.drew.heap.size, rfl, HFwFBSPC.out, HBwFBSPC.out⟩
            | exact ⟨w1.drew.heap.size, wS.heap.size, wSC.heap.size, wSCP.heap.size, rfl, HFwFSCPB.out, HBwFSCPB.out⟩
            | exact ⟨w1.drew.heap.size, wS.heap.size, wSCB.heap.size, wSC.heap.size, rfl, HFwFSCBP.out, HBwFSCBP.out⟩
            | exact ⟨w1.drew.heap.size, wSP.heap.size, wS.heap.size, wSPC.heap.size, rfl, HFwFSPCB.out, HBwFSPCB.out⟩
            | exact ⟨w1.drew.heap.size, wSPB.heap.size, wS.heap.size, wSP.heap.size, rfl, HFwFSPBC.out, HBwFSPBC.out⟩
            | exact ⟨w1.drew.heap.size, wSB.heap.size, wSBC.heap.size, wS.heap.size, rfl, HFwFSBCP.out, HBwFSBCP.out⟩
            | exact ⟨w1.drew.heap.size, wSBP.heap.size, wSB.heap.size, wS.heap.size, rfl, HFwFSBPC.out, HBwFSBPC.out⟩
      · refine op_alloc 12 (some 5) 46 #[.slice none 0 0, .slice none 0 0, .slice none 0 0, .slice none 0 0, .slice none 0 0, .int .i64 0] (by rfl) (by kernel_rfl) ?_
        intro wPS hx hb
        have HBwPS := Lib.hid (HBwP.out.trans (hb.mono HBwP.out.size))
        have HX12wPS := Lib.hid hx
        have HX7wPS := Lib.hid (HX7wP.out.below hb HX7wP.out.lt)
        have hl7_12wPS : w1.drew.heap.size < wP.heap.size := HX7wP.out.lt
        clear hx hb
        refine ⟨trivial, ?_⟩
        try simp only [Act.put, List.setIfInBounds_toArray, List.set_cons_zero, List.set_cons_succ]
        refine held_two 4 10 (by kernel_rfl) ?_ ?_
        · refine op_make 4 (some 18) 44 (.tmp 17) (.tmp 17) (by rfl) Try.underlying44 inf_bools n rfl rfl (by omega) ?_
          intro wPSC hx hb
          have HBwPSC := Lib.hid (HBwPS.out.trans (hb.mono HBwPS.out.size))
          have HX4wPSC := Lib.hid hx
          have HX7wPSC := Lib.hid (HX7wPS.out.below hb HX7wPS.out.lt)
          have hl7_4wPSC : w1.drew.heap.size < wPS.heap.size := HX7wPS.out.lt
          have HX12wPSC := Lib.hid (HX12wPS.out.below hb HX12wPS.out.lt)
          have hl12_4wPSC : wP.heap.size < wPS.heap.size := HX12wPS.out.lt
          clear hx hb
          refine ⟨trivial, ?_⟩
          try simp only [Act.put, List.setIfInBounds_toArray, List.set_cons_zero, List.set_cons_succ]
          refine held_one 10 (by kernel_rfl) ?_
          refine op_make 10 (some 24) 24 (.tmp 23) (.tmp 23) (by rfl) Try.underlying24 inf_shift n rfl rfl (by omega) ?_
          intro wPSCB hx hb
          have HBwPSCB := Lib.hid (HBwPSC.out.trans (hb.mono HBwPSC.out.size))
          have HX10wPSCB := Lib.hid hx
          have HX7wPSCB := Lib.hid (HX7wPSC.out.below hb HX7wPSC.out.lt)
          have hl7_10wPSCB : w1.drew.heap.size < wPSC.heap.size := HX7wPSC.out.lt
          have HX12wPSCB := Lib.hid (HX12wPSC.out.below hb HX12wPSC.out.lt)
          have hl12_10wPSCB : wP.heap.size < wPSC.heap.size := HX12wPSC.out.lt
          have HX4wPSCB := Lib.hid (HX4wPSC.out.below hb HX4wPSC.out.lt)
          have hl4_10wPSCB : wPS.heap.size < wPSC.heap.size := HX4wPSC.out.lt
          clear hx hb
          refine ⟨trivial, ?_⟩
          try simp only [Act.put, List.setIfInBounds_toArray, List.set_cons_zero, List.set_cons_succ]
          refine held_run 11 (some 25) (.build 46 #[(0, (.tmp 14)), (1, (.tmp 15)), (2, (.tmp 18)), (3, (.tmp 21)), (4, (.tmp 24)), (5, .const (.int .i64 1))]) ?v3_1_60 (by rfl) (by kernel_rfl) (by kernel_rfl) (by kernel_rfl) (fun _ _ _ h => h) (fun o ho w hS => ?y3_1_60) (by assumption) ?r3_1_60
          case y3_1_60 => (try dsimp only at hS); unfold execOp; simp only [ho]; go_simp; try with_reducible rfl
          try simp only [Act.put, List.setIfInBounds_toArray, List.set_cons_zero, List.set_cons_succ]
          refine held_one 13 (by kernel_rfl) ?_
          refine op_store_blk 13 46 (.tmp 5) (.tmp 25) (by rfl) (wP.heap.size) #[.slice A n c, .slice B nw cw, .slice (some ⟨wPS.heap.size, 0, none⟩) n n, .slice (some ⟨w1.drew.heap.size, 0, none⟩) n n, .slice (some ⟨wPSC.heap.size, 0, none⟩) n n, .int .i64 1] rfl rfl _ _ (HX12wPSCB.out) (by kernel_rfl) rfl (by simp [Value.oneCell']) ?_
          intro wFPSCB hx hon
          have HFwFPSCB : Hid (FrM wFPSCB lo (wP.heap.size) (wPS.heap.size) (w1.drew.heap.size) (wPSC.heap.size) A n c B nw cw) := hide ⟨hx, hon.blk HX4wPSCB.out (by omega), hon.blk HX7wPSCB.out (by omega), hon.blk HX10wPSCB.out (by omega), by have h := HBw1d.out.size; omega, by omega⟩
          have HBwFPSCB : Hid (Below w.heap.size w wFPSCB) := hide (hon.below HBwPSCB.out (by have h := HBw1d.out.size; omega))
          clear hx hon
          refine ⟨trivial, ?_⟩
          try simp only [Act.put]
          refine wpAnyH_done (by kernel_rfl) ?_ _
          go_wp2_with fail
          go_meet
          first
            | exact ⟨wCPB.heap.size, w1.drew.heap.size, wC.heap.size, wCP.heap.size, rfl, HFwFCPBS.out, HBwFCPBS.out⟩
            | exact ⟨wCP.heap.size, w1.drew.heap.size, wC.heap.size, wCPS.heap.size, rfl, HFwFCPSB.out, HBwFCPSB.out⟩
            | exact ⟨wCBP.heap.size, w1.drew.heap.size, wCB.heap.size, wC.heap.size, rfl, HFwFCBPS.out, HBwFCBPS.out⟩
            | exact ⟨wCB.heap.size, w1.drew.heap.size, wCBS.heap.size, wC.heap.size, rfl, HFwFCBSP.out, HBwFCBSP.out⟩
            | exact ⟨wC.heap.size, w1.drew.heap.size, wCS.heap.size, wCSP.heap.size, rfl, HFwFCSPB.out, HBwFCSPB.out⟩
            | exact ⟨wC.heap.size, w1.drew.heap.size, wCSB.heap.size, wCS.heap.size, rfl, HFwFCSBP.out, HBwFCSBP.out⟩
            | exact ⟨wPCB.heap.size, wP.heap.size, w1.drew.heap.size, wPC.heap.size, rfl, HFwFPCBS.out, HBwFPCBS.out⟩
            | exact ⟨wPC.heap.size, wP.heap.size, w1.drew.heap.size, wPCS.heap.size, rfl, HFwFPCSB.out, HBwFPCSB.out⟩
            | exact ⟨wPBC.heap.size, wPB.heap.size, w1.drew.heap.size, wP.heap.size, rfl, HFwFPBCS.out, HBwFPBCS.out⟩
            | exact ⟨wPB.heap.size, wPBS.heap.size, w1.drew.heap.size, wP.heap.size, rfl, HFwFPBSC.out, HBwFPBSC.out⟩
            | exact ⟨wP.heap.size, wPS.heap.size, w1.drew.heap.size, wPSC.heap.size, rfl, HFwFPSCB.out, HBwFPSCB.out⟩
            | exact ⟨wP.heap.size, wPSB.heap.size, w1.drew.heap.size, wPS.heap.size, rfl, HFwFPSBC.out, HBwFPSBC.out⟩
            | exact ⟨wBCP.heap.size, wB.heap.size, wBC.heap.size, w1.drew.heap.size, rfl, HFwFBCPS.out, HBwFBCPS.out⟩
            | exact ⟨wBC.heap.size, wB.heap.size, wBCS.heap.size, w1.drew.heap.size, rfl, HFwFBCSP.out, HBwFBCSP.out⟩
            | exact ⟨wBPC.heap.size, wBP.heap.size, wB.heap.size, w1.drew.heap.size, rfl, HFwFBPCS.out, HBwFBPCS.out⟩
            | exact ⟨wBP.heap.size, wBPS.heap.size, wB.heap.size, w1.drew.heap.size, rfl, HFwFBPSC.out, HBwFBPSC.out⟩
            | exact ⟨wB.heap.size, wBS.heap.size, wBSC.heap.size, w1.drew.heap.size, rfl, HFwFBSCP.out, HBwFBSCP.out⟩
            | exact ⟨wB.heap.size, wBSP.heap.size, wBS.heap.size, w1.drew.heap.size, rfl, HFwFBSPC.out, HBwFBSPC.out⟩
            | exact ⟨w1.drew.heap.size, wS.heap.size, wSC.heap.size, wSCP.heap.size, rfl, HFwFSCPB.out, HBwFSCPB.out⟩
            | exact ⟨w1.drew.heap.size, wS.heap.size, wSCB.heap.size, wSC.heap.size, rfl, HFwFSCBP.out, HBwFSCBP.out⟩
            | exact ⟨w1.drew.heap.size, wSP.heap.size, wS.heap.size, wSPC.heap.size, rfl, HFwFSPCB.out, HBwFSPCB.out⟩
            | exact ⟨w1.drew.heap.size, wSPB.heap.size, wS.heap.size, wSP.heap.size, rfl, HFwFSPBC.out, HBwFSPBC.out⟩
            | exact ⟨w1.drew.heap.size, wSB.heap.size, wSBC.heap.size, wS.heap.size, rfl, HFwFSBCP.out, HBwFSBCP.out⟩
            | exact ⟨w1.drew.heap.size, wSBP.heap.size, wSB.heap.size, wS.heap.size, rfl, HFwFSBPC.out, HBwFSBPC.out⟩
        · refine op_make 10 (some 24) 24 (.tmp 23) (.tmp 23) (by rfl) Try.underlying24 inf_shift n rfl rfl (by omega) ?_
          intro wPSB hx hb
          have HBwPSB := Lib.hid (HBwPS.out.trans (hb.mono HBwPS.out.size))
          have HX10wPSB := Lib.hid hx
          have HX7wPSB := Lib.hid (HX7wPS.out.below hb HX7wPS.out.lt)
          have hl7_10wPSB : w1.drew.heap.size < wPS.heap.size := HX7wPS.out.lt
          have HX12wPSB := Lib.hid (HX12wPS.out.below hb HX12wPS.out.lt)
          have hl12_10wPSB : wP.heap.size < wPS.heap.size := HX12wPS.out.lt
          clear hx hb
          refine ⟨trivial, ?_⟩
          try simp only [Act.put, List.setIfInBounds_toArray, List.set_cons_zero, List.set_cons_succ]
          refine held_one 4 (by kernel_rfl) ?_
          refine op_make 4 (some 18) 44 (.tmp 17) (.tmp 17) (by rfl) Try.underlying44 inf_bools n rfl rfl (by omega) ?_
          intro wPSBC hx hb
          have HBwPSBC := Lib.hid (HBwPSB.out.trans (hb.mono HBwPSB.out.size))
          have HX4wPSBC := Lib.hid hx
          have HX7wPSBC := Lib.hid (HX7wPSB.out.below hb HX7wPSB.out.lt)
          have hl7_4wPSBC : w1.drew.heap.size < wPSB.heap.size := HX7wPSB.out.lt
          have HX12wPSBC := Lib.hid (HX12wPSB.out.below hb HX12wPSB.out.lt)
          have hl12_4wPSBC : wP.heap.size < wPSB.heap.size := HX12wPSB.out.lt
          have HX10wPSBC := Lib.hid (HX10wPSB.out.below hb HX10wPSB.out.lt)
          have hl10_4wPSBC : wPS.heap.size < wPSB.heap.size := HX10wPSB.out.lt
          clear hx hb
          refine ⟨trivial, ?_⟩
          try simp only [Act.put, List.setIfInBounds_toArray, List.set_cons_zero, List.set_cons_succ]
          refine held_run 11 (some 25) (.build 46 #[(0, (.tmp 14)), (1, (.tmp 15)), (2, (.tmp 18)), (3, (.tmp 21)), (4, (.tmp 24)), (5, .const (.int .i64 1))]) ?v3_1_64 (by rfl) (by kernel_rfl) (by kernel_rfl) (by kernel_rfl) (fun _ _ _ h => h) (fun o ho w hS => ?y3_1_64) (by assumption) ?r3_1_64
          case y3_1_64 => (try dsimp only at hS); unfold execOp; simp only [ho]; go_simp; try with_reducible rfl
          try simp only [Act.put, List.setIfInBounds_toArray, List.set_cons_zero, List.set_cons_succ]
          refine held_one 13 (by kernel_rfl) ?_
          refine op_store_blk 13 46 (.tmp 5) (.tmp 25) (by rfl) (wP.heap.size) #[.slice A n c, .slice B nw cw, .slice (some ⟨wPSB.heap.size, 0, none⟩) n n, .slice (some ⟨w1.drew.heap.size, 0, none⟩) n n, .slice (some ⟨wPS.heap.size, 0, none⟩) n n, .int .i64 1] rfl rfl _ _ (HX12wPSBC.out) (by kernel_rfl) rfl (by simp [Value.oneCell']) ?_
          intro wFPSBC hx hon
          have HFwFPSBC : Hid (FrM wFPSBC lo (wP.heap.size) (wPSB.heap.size) (w1.drew.heap.size) (wPS.heap.size) A n c B nw cw) := hide ⟨hx, hon.blk HX4wPSBC.out (by omega), hon.blk HX7wPSBC.out (by omega), hon.blk HX10wPSBC.out (by omega), by have h := HBw1d.out.size; omega, by omega⟩
          have HBwFPSBC : Hid (Below w.heap.size w wFPSBC) := hide (hon.below HBwPSBC.out (by have h := HBw1d.out.size; omega))
          clear hx hon
          refine ⟨trivial, ?_⟩
          try simp only [Act.put]
          refine wpAnyH_done (by kernel_rfl) ?_ _
          go_wp2_with fail
          go_meet
          first
            | exact ⟨wCPB.heap.size, w1.drew.heap.size, wC.heap.size, wCP.heap.size, rfl, HFwFCPBS.out, HBwFCPBS.out⟩
            | exact ⟨wCP.heap.size, w1.drew.heap.size, wC.heap.size, wCPS.heap.size, rfl, HFwFCPSB.out, HBwFCPSB.out⟩
            | exact ⟨wCBP.heap.size, w1.drew.heap.size, wCB.heap.size, wC.heap.size, rfl, HFwFCBPS.out, HBwFCBPS.out⟩
            | exact ⟨wCB.heap.size, w1.drew.heap.size, wCBS.heap.size, wC.heap.size, rfl, HFwFCBSP.out, HBwFCBSP.out⟩
            | exact ⟨wC.heap.size, w1.drew.heap.size, wCS.heap.size, wCSP.heap.size, rfl, HFwFCSPB.out, HBwFCSPB.out⟩
            | exact ⟨wC.heap.size, w1.drew.heap.size, wCSB.heap.size, wCS.heap.size, rfl, HFwFCSBP.out, HBwFCSBP.out⟩
            | exact ⟨wPCB.heap.size, wP.heap.size, w1.drew.heap.size, wPC.heap.size, rfl, HFwFPCBS.out, HBwFPCBS.out⟩
            | exact ⟨wPC.heap.size, wP.heap.size, w1.drew.heap.size, wPCS.heap.size, rfl, HFwFPCSB.out, HBwFPCSB.out⟩
            | exact ⟨wPBC.heap.size, wPB.heap.size, w1.drew.heap.size, wP.heap.size, rfl, HFwFPBCS.out, HBwFPBCS.out⟩
            | exact ⟨wPB.heap.size, wPBS.heap.size, w1.drew.heap.size, wP.heap.size, rfl, HFwFPBSC.out, HBwFPBSC.out⟩
            | exact ⟨wP.heap.size, wPS.heap.size, w1.drew.heap.size, wPSC.heap.size, rfl, HFwFPSCB.out, HBwFPSCB.out⟩
            | exact ⟨wP.heap.size, wPSB.heap.size, w1.drew.heap.size, wPS.heap.size, rfl, HFwFPSBC.out, HBwFPSBC.out⟩
            | exact ⟨wBCP.heap.size, wB.heap.size, wBC.heap.size, w1.drew.heap.size, rfl, HFwFBCPS.out, HBwFBCPS.out⟩
            | exact ⟨wBC.heap.size, wB.heap.size, wBCS.heap.size, w1.drew.heap.size, rfl, HFwFBCSP.out, HBwFBCSP.out⟩
            | exact ⟨wBPC.heap.size, wBP.heap.size, wB.heap.size, w1.drew.heap.size, rfl, HFwFBPCS.out, HBwFBPCS.out⟩
            | exact ⟨wBP.heap.size, wBPS.heap.size, wB.heap.size, w1.drew.heap.size, rfl, HFwFBPSC.out, HBwFBPSC.out⟩
            | exact ⟨wB.heap.size, wBS.heap.size, wBSC.heap.size, w1.drew.heap.size, rfl, HFwFBSCP.out, HBwFBSCP.out⟩
            | exact ⟨wB.heap.size, wBSP.heap.size, wBS.heap.size, w1.drew.heap.size, rfl, HFwFBSPC.out, HBwFBSPC.out⟩
            | exact ⟨w1.drew.heap.size, wS.heap.size, wSC.heap.size, wSCP.heap.size, rfl, HFwFSCPB.out, HBwFSCPB.out⟩
            | exact ⟨w1.drew.heap.size, wS.heap.size, wSCB.heap.size, wSC.heap.size, rfl, HFwFSCBP.out, HBwFSCBP.out⟩
            | exact ⟨w1.drew.heap.size, wSP.heap.size, wS.heap.size, wSPC.heap.size, rfl, HFwFSPCB.out, HBwFSPCB.out⟩
            | exact ⟨w1.drew.heap.size, wSPB.heap.size, wS.heap.size, wSP.heap.size, rfl, HFwFSPBC.out, HBwFSPBC.out⟩
            | exact ⟨w1.drew.heap.size, wSB.heap.size, wSBC.heap.size, wS.heap.size, rfl, HFwFSBCP.out, HBwFSBCP.out⟩
            | exact ⟨w1.drew.heap.size, wSBP.heap.size, wSB.heap.size, wS.heap.size, rfl, HFwFSBPC.out, HBwFSBPC.out⟩
    · refine op_make 10 (some 24) 24 (.tmp 23) (.tmp 23) (by rfl) Try.underlying24 inf_shift n rfl rfl (by omega) ?_
      intro wB hx hb
      have HBwB := Lib.hid (HBw1d.out.trans (hb.mono HBw1d.out.size))
      have HX10wB := Lib.hid hx
      clear hx hb
      refine ⟨trivial, ?_⟩
      try simp only [Act.put, List.setIfInBounds_toArray, List.set_cons_zero, List.set_cons_succ]
      refine held_three 4 7 12 (by kernel_rfl) ?_ ?_ ?_
      · refine op_make 4 (some 18) 44 (.tmp 17) (.tmp 17) (by rfl) Try.underlying44 inf_bools n rfl rfl (by omega) ?_
        intro wBC hx hb
        have HBwBC := Lib.hid (HBwB.out.trans (hb.mono HBwB.out.size))
        have HX4wBC := Lib.hid hx
        have HX10wBC := Lib.hid (HX10wB.out.below hb HX10wB.out.lt)
        have hl10_4wBC : w1.drew.heap.size < wB.heap.size := HX10wB.out.lt
        clear hx hb
        refine ⟨trivial, ?_⟩
        try simp only [Act.put, List.setIfInBounds_toArray, List.set_cons_zero, List.set_cons_succ]
        refine held_two 7 12 (by kernel_rfl) ?_ ?_
        · refine op_make 7 (some 21) 24 (.tmp 20) (.tmp 20) (by rfl) Try.underlying24 inf_shift n rfl rfl (by omega) ?_
          intro wBCP hx hb
          have HBwBCP := Lib.hid (HBwBC.out.trans (hb.mono HBwBC.out.size))
          have HX7wBCP := Lib.hid hx
          have HX10wBCP := Lib.hid (HX10wBC.out.below hb HX10wBC.out.lt)
          have hl10_7wBCP : w1.drew.heap.size < wBC.heap.size := HX10wBC.out.lt
          have HX4wBCP := Lib.hid (HX4wBC.out.below hb HX4wBC.out.lt)
          have hl4_7wBCP : wB.heap.size < wBC.heap.size := HX4wBC.out.lt
          clear hx hb
          refine ⟨trivial, ?_⟩
          try simp only [Act.put, List.setIfInBounds_toArray, List.set_cons_zero, List.set_cons_succ]
          refine held_run 11 (some 25) (.build 46 #[(0, (.tmp 14)), (1, (.tmp 15)), (2, (.tmp 18)), (3, (.tmp 21)), (4, (.tmp 24)), (5, .const (.int .i64 1))]) ?v3_1_69 (by rfl) (by kernel_rfl) (by kernel_rfl) (by kernel_rfl) (fun _ _ _ h => h) (fun o ho w hS => ?y3_1_69) (by assumption) ?r3_1_69
          case y3_1_69 => (try dsimp only at hS); unfold execOp; simp only [ho]; go_simp; try with_reducible rfl
          try simp only [Act.put, List.setIfInBounds_toArray, List.set_cons_zero, List.set_cons_succ]
          refine held_one 12 (by kernel_rfl) ?_
          refine op_alloc 12 (some 5) 46 #[.slice none 0 0, .slice none 0 0, .slice none 0 0, .slice none 0 0, .slice none 0 0, .int .i64 0] (by rfl) (by kernel_rfl) ?_
          intro wBCPS hx hb
          have HBwBCPS := Lib.hid (HBwBCP.out.trans (hb.mono HBwBCP.out.size))
          have HX12wBCPS := Lib.hid hx
          have HX10wBCPS := Lib.hid (HX10wBCP.out.below hb HX10wBCP.out.lt)
          have hl10_12wBCPS : w1.drew.heap.size < wBCP.heap.size := HX10wBCP.out.lt
          have HX4wBCPS := Lib.hid (HX4wBCP.out.below hb HX4wBCP.out.lt)
          have hl4_12wBCPS : wB.heap.size < wBCP.heap.size := HX4wBCP.out.lt
          have HX7wBCPS := Lib.hid (HX7wBCP.out.below hb HX7wBCP.out.lt)
          have hl7_12wBCPS : wBC.heap.size < wBCP.heap.size := HX7wBCP.out.lt
          clear hx hb
          refine ⟨trivial, ?_⟩
          try simp only [Act.put, List.setIfInBounds_toArray, List.set_cons_zero, List.set_cons_succ]
          refine held_one 13 (by kernel_rfl) ?_
          refine op_store_blk 13 46 (.tmp 5) (.tmp 25) (by rfl) (wBCP.heap.size) #[.slice A n c, .slice B nw cw, .slice (some ⟨wB.heap.size, 0, none⟩) n n, .slice (some ⟨wBC.heap.size, 0, none⟩) n n, .slice (some ⟨w1.drew.heap.size, 0, none⟩) n n, .int .i64 1] rfl rfl _ _ (HX12wBCPS.out) (by kernel_rfl) rfl (by simp [Value.oneCell']) ?_
          intro wFBCPS hx hon
          have HFwFBCPS : Hid (FrM wFBCPS lo (wBCP.heap.size) (wB.heap.size) (wBC.heap.size) (w1.drew.heap.size) A n c B nw cw) := hide ⟨hx, hon.blk HX4wBCPS.out (by omega), hon.blk HX7wBCPS.out (by omega), hon.blk HX10wBCPS.out (by omega), by have h := HBw1d.out.size; omega, by omega⟩
          have HBwFBCPS : Hid (Below w.heap.size w wFBCPS) := hide (hon.below HBwBCPS.out (by have h := HBw1d.out.size; omega))
          clear hx hon
          refine ⟨trivial, ?_⟩
          try simp only [Act.put]
          refine wpAnyH_done (by kernel_rfl) ?_ _
          go_wp2_with fail
          go_meet
          first
            | exact ⟨wCPB.heap.size, w1.drew.heap.size, wC.heap.size, wCP.heap.size, rfl, HFwFCPBS.out, HBwFCPBS.out⟩
            | exact ⟨wCP.heap.size, w1.drew.heap.size, wC.heap.size, wCPS.heap.size, rfl, HFwFCPSB.out, HBwFCPSB.out⟩
            | exact ⟨wCBP.heap.size, w1.drew.heap.size, wCB.heap.size, wC.heap.size, rfl, HFwFCBPS.out, HBwFCBPS.out⟩
            | exact ⟨wCB.heap.size, w1.drew.heap.size, wCBS.heap.size, wC.heap.size, rfl, HFwFCBSP.out, HBwFCBSP.out⟩
            | exact ⟨wC.heap.size, w1.drew.heap.size, wCS.heap.size, wCSP.heap.size, rfl, HFwFCSPB.out, HBwFCSPB.out⟩
            | exact ⟨wC.heap.size, w1.drew.heap.size, wCSB.heap.size, wCS.heap.size, rfl, HFwFCSBP.out, HBwFCSBP.out⟩
            | exact ⟨wPCB.heap.size, wP.heap.size, w1.drew.heap.size, wPC.heap.size, rfl, HFwFPCBS.out, HBwFPCBS.out⟩
            | exact ⟨wPC.heap.size, wP.heap.size, w1.drew.heap.size, wPCS.heap.size, rfl, HFwFPCSB.out, HBwFPCSB.out⟩
            | exact ⟨wPBC.heap.size, wPB.heap.size, w1.drew.heap.size, wP.heap.size, rfl, HFwFPBCS.out, HBwFPBCS.out⟩
            | exact ⟨wPB.heap.size, wPBS.heap.size, w1.drew.heap.size, wP.heap.size, rfl, HFwFPBSC.out, HBwFPBSC.out⟩
            | exact ⟨wP.heap.size, wPS.heap.size, w1.drew.heap.size, wPSC.heap.size, rfl, HFwFPSCB.out, HBwFPSCB.out⟩
            | exact ⟨wP.heap.size, wPSB.heap.size, w1.drew.heap.size, wPS.heap.size, rfl, HFwFPSBC.out, HBwFPSBC.out⟩
            | exact ⟨wBCP.heap.size, wB.heap.size, wBC.heap.size, w1.drew.heap.size, rfl, HFwFBCPS.out, HBwFBCPS.out⟩
            | exact ⟨wBC.heap.size, wB.heap.size, wBCS.heap.size, w1.drew.heap.size, rfl, HFwFBCSP.out, HBwFBCSP.out⟩
            | exact ⟨wBPC.heap.size, wBP.heap.size, wB.heap.size, w1.drew.heap.size, rfl, HFwFBPCS.out, HBwFBPCS.out⟩
            | exact ⟨wBP.heap.size, wBPS.heap.size, wB.heap.size, w1.drew.heap.size, rfl, HFwFBPSC.out, HBwFBPSC.out⟩
            | exact ⟨wB.heap.size, wBS.heap.size, wBSC.heap.size, w1.drew.heap.size, rfl, HFwFBSCP.out, HBwFBSCP.out⟩
            | exact ⟨wB.heap.size, wBSP.heap.size, wBS.heap.size, w1.drew.heap.size, rfl, HFwFBSPC.out, HBwFBSPC.out⟩
            | exact ⟨w1.drew.heap.size, wS.heap.size, wSC.heap.size, wSCP.heap.size, rfl, HFwFSCPB.out, HBwFSCPB.out⟩
            | exact ⟨w1.drew.heap.size, wS.heap.size, wSCB.heap.size, wSC.heap.size, rfl, HFwFSCBP.out, HBwFSCBP.out⟩
            | exact ⟨w1.drew.heap.size, wSP.heap.size, wS.heap.size, wSPC.heap.size, rfl, HFwFSPCB.out, HBwFSPCB.out⟩
            | exact ⟨w1.drew.heap.size, wSPB.heap.size, wS.heap.size, wSP.heap.size, rfl, HFwFSPBC.out, HBwFSPBC.out⟩
            | exact ⟨w1.drew.heap.size, wSB.heap.size, wSBC.heap.size, wS.heap.size, rfl, HFwFSBCP.out, HBwFSBCP.out⟩
            | exact ⟨w1.drew.heap.size, wSBP.heap.size, wSB.heap.size, wS.heap.size, rfl, HFwFSBPC.out, HBwFSBPC.out⟩
        · refine op_alloc 12 (some 5) 46 #[.slice none 0 0, .slice none 0 0, .slice none 0 0, .slice none 0 0, .slice none 0 0, .int .i64 0] (by rfl) (by kernel_rfl) ?_
          intro wBCS hx hb
          have HBwBCS := Lib.hid (HBwBC.out.trans (hb.mono HBwBC.out.size))
          have HX12wBCS := Lib.hid hx
          have HX10wBCS := Lib.hid (HX10wBC.out.below hb HX10wBC.out.lt)
          have hl10_12wBCS : w1.drew.heap.size < wBC.heap.size := HX10wBC.out.lt
          have HX4wBCS := Lib.hid (HX4wBC.out.below hb HX4wBC.out.lt)
          have hl4_12wBCS : wB.heap.size < wBC.heap.size := HX4wBC.out.lt
          clear hx hb
          refine ⟨trivial, ?_⟩
          try simp only [Act.put, List.setIfInBounds_toArray, List.set_cons_zero, List.set_cons_succ]
          refine held_one 7 (by kernel_rfl) ?_
          refine op_make 7 (some 21) 24 (.tmp 20) (.tmp 20) (by rfl) Try.underlying24 inf_shift n rfl rfl (by omega) ?_
          intro wBCSP hx hb
          have HBwBCSP := Lib.hid (HBwBCS.out.trans (hb.mono HBwBCS.out.size))
          have HX7wBCSP := Lib.hid hx
          have HX10wBCSP := Lib.hid (HX10wBCS.out.below hb HX10wBCS.out.lt)
          have hl10_7wBCSP : w1.drew.heap.size < wBCS.heap.size := HX10wBCS.out.lt
          have HX4wBCSP := Lib.hid (HX4wBCS.out.below hb HX4wBCS.out.lt)
          have hl4_7wBCSP : wB.heap.size < wBCS.heap.size := HX4wBCS.out.lt
          have HX12wBCSP := Lib.hid (HX12wBCS.out.below hb HX12wBCS.out.lt)
          have hl12_7wBCSP : wBC.heap.size < wBCS.heap.size := HX12wBCS.out.lt
          clear hx hb
          refine ⟨trivial, ?_⟩
          try simp only [Act.put, List.setIfInBounds_toArray, List.set_cons_zero, List.set_cons_succ]
          refine held_run 11 (some 25) (.build 46 #[(0, (.tmp 14)), (1, (.tmp 15)), (2, (.tmp 18)), (3, (.tmp 21)), (4, (.tmp 24)), (5, .const (.int .i64 1))]) ?v3_1_74 (by rfl) (by kernel_rfl) (by kernel_rfl) (by kernel_rfl) (fun _ _ _ h => h) (fun o ho w hS => ?y3_1_74) (by assumption) ?r3_1_74
          case y3_1_74 => (try dsimp only at hS); unfold execOp; simp only [ho]; go_simp; try with_reducible rfl
          try simp only [Act.put, List.setIfInBounds_toArray, List.set_cons_zero, List.set_cons_succ]
          refine held_one 13 (by kernel_rfl) ?_
          refine op_store_blk 13 46 (.tmp 5) (.tmp 25) (by rfl) (wBC.heap.size) #[.slice A n c, .slice B nw cw, .slice (some ⟨wB.heap.size, 0, none⟩) n n, .slice (some ⟨wBCS.heap.size, 0, none⟩) n n, .slice (some ⟨w1.drew.heap.size, 0, none⟩) n n, .int .i64 1] rfl rfl _ _ (HX12wBCSP.out) (by kernel_rfl) rfl (by simp [Value.oneCell']) ?_
          intro wFBCSP hx hon
          have HFwFBCSP : Hid (FrM wFBCSP lo (wBC.heap.size) (wB.heap.size) (wBCS.heap.size) (w1.drew.heap.size) A n c B nw cw) := hide ⟨hx, hon.blk HX4wBCSP.out (by omega), hon.blk HX7wBCSP.out (by omega), hon.blk HX10wBCSP.out (by omega), by have h := HBw1d.out.size; omega, by omega⟩
          have HBwFBCSP : Hid (Below w.heap.size w wFBCSP) := hide (hon.below HBwBCSP.out (by have h := HBw1d.out.size; omega))
          clear hx hon
          refine ⟨trivial, ?_⟩
          try simp only [Act.put]
          refine wpAnyH_done (by kernel_rfl) ?_ _
          go_wp2_with fail
          go_meet
          first
            | exact ⟨wCPB.heap.size, w1.drew.heap.size, wC.heap.size, wCP.heap.size, rfl, HFwFCPBS.out, HBwFCPBS.out⟩
            | exact ⟨wCP.heap.size, w1.drew.heap.size, wC.heap.size, wCPS.heap.size, rfl, HFwFCPSB.out, HBwFCPSB.out⟩
            | exact ⟨wCBP.heap.size, w1.drew.heap.size, wCB.heap.size, wC.heap.size, rfl, HFwFCBPS.out, HBwFCBPS.out⟩
            | exact ⟨wCB.heap.size, w1.drew.heap.size, wCBS.heap.size, wC.heap.size, rfl, HFwFCBSP.out, HBwFCBSP.out⟩
            | exact ⟨wC.heap.size, w1.drew.heap.size, wCS.heap.size, wCSP.heap.size, rfl, HFwFCSPB.out, HBwFCSPB.out⟩
            | exact ⟨wC.heap.size, w1.drew.heap.size, wCSB.heap.size, wCS.heap.size, rfl, HFwFCSBP.out, HBwFCSBP.out⟩
            | exact ⟨wPCB.heap.size, wP.heap.size, w1.drew.heap.size, wPC.heap.size, rfl, HFwFPCBS.out, HBwFPCBS.out⟩
            | exact ⟨wPC.heap.size, wP.heap.size, w1.drew.heap.size, wPCS.heap.size, rfl, HFwFPCSB.out, HBwFPCSB.out⟩
            | exact ⟨wPBC.heap.size, wPB.heap.size, w1.drew.heap.size, wP.heap.size, rfl, HFwFPBCS.out, HBwFPBCS.out⟩
            | exact ⟨wPB.heap.size, wPBS.heap.size, w1.drew.heap.size, wP.heap.size, rfl, HFwFPBSC.out, HBwFPBSC.out⟩
            | exact ⟨wP.heap.size, wPS.heap.size, w1.drew.heap.size, wPSC.heap.size, rfl, HFwFPSCB.out, HBwFPSCB.out⟩
            | exact ⟨wP.heap.size, wPSB.heap.size, w1.drew.heap.size, wPS.heap.size, rfl, HFwFPSBC.out, HBwFPSBC.out⟩
            | exact ⟨wBCP.heap.size, wB.heap.size, wBC.heap.size, w1.drew.heap.size, rfl, HFwFBCPS.out, HBwFBCPS.out⟩
            | exact ⟨wBC.heap.size, wB.heap.size, wBCS.heap.size, w1.drew.heap.size, rfl, HFwFBCSP.out, HBwFBCSP.out⟩
            | exact ⟨wBPC.heap.size, wBP.heap.size, wB.heap.size, w1.drew.heap.size, rfl, HFwFBPCS.out, HBwFBPCS.out⟩
            | exact ⟨wBP.heap.size, wBPS.heap.size, wB.heap.size, w1.drew.heap.size, rfl, HFwFBPSC.out, HBwFBPSC.out⟩
            | exact ⟨wB.heap.size, wBS.heap.size, wBSC.heap.size, w1.drew.heap.size, rfl, HFwFBSCP.out, HBwFBSCP.out⟩
            | exact ⟨wB.heap.size, wBSP.heap.size, wBS.heap.size, w1.drew.heap.size, rfl, HFwFBSPC.out, HBwFBSPC.out⟩
            | exact ⟨w1.drew.heap.size, wS.heap.size, wSC.heap.size, wSCP.heap.size, rfl, HFwFSCPB.out, HBwFSCPB.out⟩
            | exact ⟨w1.drew.heap.size, wS.heap.size, wSCB.heap.size, wSC.heap.size, rfl, HFwFSCBP.out, HBwFSCBP.out⟩
            | exact ⟨w1.drew.heap.size, wSP.heap.size, wS.heap.size, wSPC.heap.size, rfl, HFwFSPCB.out, HBwFSPCB.out⟩
            | exact ⟨w1.drew.heap.size, wSPB.heap.size, wS.heap.size, wSP.heap.size, rfl, HFwFSPBC.out, HBwFSPBC.out⟩
            | exact ⟨w1.drew.heap.size, wSB.heap.size, wSBC.heap.size, wS.heap.size, rfl, HFwFSBCP.out, HBwFSBCP.out⟩
            | exact ⟨w1.drew.heap.size, wSBP.heap.size, wSB.heap.size, wS.heap.size, rfl, HFwFSBPC.out, HBwFSBPC.out⟩
      · refine op_make 7 (some 21) 24 (.tmp 20) (.tmp 20) (by rfl) Try.underlying24 inf_shift n rfl rfl (by omega) ?_
        intro wBP hx hb
        have HBwBP := Lib.hid (HBwB.out.trans (hb.mono HBwB.out.size))
        have HX7wBP := Lib.hid hx
        have HX10wBP := Lib.hid (HX10wB.out.below hb HX10wB.out.lt)
        have hl10_7wBP : w1.drew.heap.size < wB.heap.size := HX10wB.out.lt
        clear hx hb
        refine ⟨trivial, ?_⟩
        try simp only [Act.put, List.setIfInBounds_toArray, List.set_cons_zero, List.set_cons_succ]
        refine held_two 4 12 (by kernel_rfl) ?_ ?_
        · refine op_make 4 (some 18) 44 (.tmp 17) (.tmp 17) (by rfl) Try.underlying44 inf_bools n rfl rfl (by omega) ?_
          intro wBPC hx hb
          have HBwBPC := Lib.hid (HBwBP.out.trans (hb.mono HBwBP.out.size))
          have HX4wBPC := Lib.hid hx
          have HX10wBPC := Lib.hid (HX10wBP.out.below hb HX10wBP.out.lt)
          have hl10_4wBPC : w1.drew.heap.size < wBP.heap.size := HX10wBP.out.lt
          have HX7wBPC := Lib.hid (HX7wBP.out.below hb HX7wBP.out.lt)
          have hl7_4wBPC : wB.heap.size < wBP.heap.size := HX7wBP.out.lt
          clear hx hb
          refine ⟨trivial, ?_⟩
          try simp only [Act.put, List.setIfInBounds_toArray, List.set_cons_zero, List.set_cons_succ]
          refine held_run 11 (some 25) (.build 46 #[(0, (.tmp 14)), (1, (.tmp 15)), (2, (.tmp 18)), (3, (.tmp 21)), (4, (.tmp 24)), (5, .const (.int .i64 1))]) ?v3_1_78 (by rfl) (by kernel_rfl) (by kernel_rfl) (by kernel_rfl) (fun _ _ _ h => h) (fun o ho w hS => ?y3_1_78) (by assumption) ?r3_1_78
          case y3_1_78 => (try dsimp only at hS); unfold execOp; simp only [ho]; go_simp; try with_reducible rfl
          try simp only [Act.put, List.setIfInBounds_toArray, List.set_cons_zero, List.set_cons_succ]
          refine held_one 12 (by kernel_rfl) ?_
          refine op_alloc 12 (some 5) 46 #[.slice none 0 0, .slice none 0 0, .slice none 0 0, .slice none 0 0, .slice none 0 0, .int .i64 0] (by rfl) (by kernel_rfl) ?_
          intro wBPCS hx hb
          have HBwBPCS := Lib.hid (HBwBPC.out.trans (hb.mono HBwBPC.out.size))
          have HX12wBPCS := Lib.hid hx
          have HX10wBPCS := Lib.hid (HX10wBPC.out.below hb HX10wBPC.out.lt)
          have hl10_12wBPCS : w1.drew.heap.size < wBPC.heap.size := HX10wBPC.out.lt
          have HX7wBPCS := Lib.hid (HX7wBPC.out.below hb HX7wBPC.out.lt)
          have hl7_12wBPCS : wB.heap.size < wBPC.heap.size := HX7wBPC.out.lt
          have HX4wBPCS := Lib.hid (HX4wBPC.out.below hb HX4wBPC.out.lt)
          have hl4_12wBPCS : wBP.heap.size < wBPC.heap.size := HX4wBPC.out.lt
          clear hx hb
          refine ⟨trivial, ?_⟩
          try simp only [Act.put, List.setIfInBounds_toArray, List.set_cons_zero, List.set_cons_succ]
          refine held_one 13 (by kernel_rfl) ?_
          refine op_store_blk 13 46 (.tmp 5) (.tmp 25) (by rfl) (wBPC.heap.size) #[.slice A n c, .slice B nw cw, .slice (some ⟨wBP.heap.size, 0, none⟩) n n, .slice (some ⟨wB.heap.size, 0, none⟩) n n, .slice (some ⟨w1.drew.heap.size, 0, none⟩) n n, .int .i64 1] rfl rfl _ _ (HX12wBPCS.out) (by kernel_rfl) rfl (by simp [Value.oneCell']) ?_
          intro wFBPCS hx hon
          have HFwFBPCS : Hid (FrM wFBPCS lo (wBPC.heap.size) (wBP.heap.size) (wB.heap.size) (w1.drew.heap.size) A n c B nw cw) := hide ⟨hx, hon.blk HX4wBPCS.out (by omega), hon.blk HX7wBPCS.out (by omega), hon.blk HX10wBPCS.out (by omega), by have h := HBw1d.out.size; omega, by omega⟩
          have HBwFBPCS : Hid (Below w.heap.size w wFBPCS) := hide (hon.below HBwBPCS.out (by have h := HBw1d.out.size; omega))
          clear hx hon
          refine ⟨trivial, ?_⟩
          try simp only [Act.put]
          refine wpAnyH_done (by kernel_rfl) ?_ _
          go_wp2_with fail
          go_meet
          first
            | exact ⟨wCPB.heap.size, w1.drew.heap.size, wC.heap.size, wCP.heap.size, rfl, HFwFCPBS.out, HBwFCPBS.out⟩
            | exact ⟨wCP.heap.size, w1.drew.heap.size, wC.heap.size, wCPS.heap.size, rfl, HFwFCPSB.out, HBwFCPSB.out⟩
            | exact ⟨wCBP.heap.size, w1.drew.heap.size, wCB.heap.size, wC.heap.size, rfl, HFwFCBPS.out, HBwFCBPS.out⟩
            | exact ⟨wCB.heap.size, w1.drew.heap.size, wCBS.heap.size, wC.heap.size, rfl, HFwFCBSP.out, HBwFCBSP.out⟩
            | exact ⟨wC.heap.size, w1.drew.heap.size, wCS.heap.size, wCSP.heap.size, rfl, HFwFCSPB.out, HBwFCSPB.out⟩
            | exact ⟨wC.heap.size, w1.drew.heap.size, wCSB.heap.size, wCS.heap.size, rfl, HFwFCSBP.out, HBwFCSBP.out⟩
            | exact ⟨wPCB.heap.size, wP.heap.size, w1.drew.heap.size, wPC.heap.size, rfl, HFwFPCBS.out, HBwFPCBS.out⟩
            | exact ⟨wPC.heap.size, wP.heap.size, w1.drew.heap.size, wPCS.heap.size, rfl, HFwFPCSB.out, HBwFPCSB.out⟩
            | exact ⟨wPBC.heap.size, wPB.heap.size, w1.drew.heap.size, wP.heap.size, rfl, HFwFPBCS.out, HBwFPBCS.out⟩
            | exact ⟨wPB.heap.size, wPBS.heap.size, w1.drew.heap.size, wP.heap.size, rfl, HFwFPBSC.out, HBwFPBSC.out⟩
            | exact ⟨wP.heap.size, wPS.heap.size, w1.drew.heap.size, wPSC.heap.size, rfl, HFwFPSCB.out, HBwFPSCB.out⟩
            | exact ⟨wP.heap.size, wPSB.heap.size, w1.drew.heap.size, wPS.heap.size, rfl, HFwFPSBC.out, HBwFPSBC.out⟩
            | exact ⟨wBCP.heap.size, wB.heap.size, wBC.heap.size, w1.drew.heap.size, rfl, HFwFBCPS.out, HBwFBCPS.out⟩
            | exact ⟨wBC.heap.size, wB.heap.size, wBCS.heap.size, w1.drew.heap.size, rfl, HFwFBCSP.out, HBwFBCSP.out⟩
            | exact ⟨wBPC.heap.size, wBP.heap.size, wB.heap.size, w1.drew.heap.size, rfl, HFwFBPCS.out, HBwFBPCS.out⟩
            | exact ⟨wBP.heap.size, wBPS.heap.size, wB.heap.size, w1.drew.heap.size, rfl, HFwFBPSC.out, HBwFBPSC.out⟩
            | exact ⟨wB.heap.size, wBS.heap.size, wBSC.heap.size, w1.drew.heap.size, rfl, HFwFBSCP.out, HBwFBSCP.out⟩
            | exact ⟨wB.heap.size, wBSP.heap.size, wBS.heap.size, w1.drew.heap.size, rfl, HFwFBSPC.out, HBwFBSPC.out⟩
            | exact ⟨w1.drew.heap.size, wS.heap.size, wSC.heap.size, wSCP.heap.size, rfl, HFwFSCPB.out, HBwFSCPB.out⟩
            | exact ⟨w1.drew.heap.size, wS.heap.size, wSCB.heap.size, wSC.heap.size, rfl, HFwFSCBP.out, HBwFSCBP.out⟩
            | exact ⟨w1.drew.heap.size, wSP.heap.size, wS.heap.size, wSPC.heap.size, rfl, HFwFSPCB.out, HBwFSPCB.out⟩
            | exact ⟨w1.drew.heap.size, wSPB.heap.size, wS.heap.size, wSP.heap.size, rfl, HFwFSPBC.out, HBwFSPBC.out⟩
            | exact ⟨w1.drew.heap.size, wSB.heap.size, wSBC.heap.size, wS.heap.size, rfl, HFwFSBCP.out, HBwFSBCP.out⟩
            | exact ⟨w1.drew.heap.size, wSBP.heap.size, wSB.heap.size, wS.heap.size, rfl, HFwFSBPC.out, HBwFSBPC.out⟩
        · refine op_alloc 12 (some 5) 46 #[.slice none 0 0, .slice none 0 0, .slice none 0 0, .slice none 0 0, .slice none 0 0, .int .i64 0] (by rfl) (by kernel_rfl) ?_
          intro wBPS hx hb
          have HBwBPS := Lib.hid (HBwBP.out.trans (hb.mono HBwBP.out.size))
          have HX12wBPS := Lib.hid hx
          have HX10wBPS := Lib.hid (HX10wBP.out.below hb HX10wBP.out.lt)
          have hl10_12wBPS : w1.drew.heap.size < wBP.heap.size := HX10wBP.out.lt
          have HX7wBPS := Lib.hid (HX7wBP.out.below hb HX7wBP.out.lt)
          have hl7_12wBPS : wB.heap.size < wBP.heap.size := HX7wBP.out.lt
          clear hx hb
          refine ⟨trivial, ?_⟩
          try simp only [Act.put, List.setIfInBounds_toArray, List.set_cons_zero, List.set_cons_succ]
          refine held_one 4 (by kernel_rfl) ?_
          refine op_make 4 (some 18) 44 (.tmp 17) (.tmp 17) (by rfl) Try.underlying44 inf_bools n rfl rfl (by omega) ?_
          intro wBPSC hx hb
          have HBwBPSC := Lib.hid (HBwBPS.out.trans (hb.mono HBwBPS.out.size))
          have HX4wBPSC := Lib.hid hx
          have HX10wBPSC := Lib.hid (HX10wBPS.out.below hb HX10wBPS.out.lt)
          have hl10_4wBPSC : w1.drew.heap.size < wBPS.heap.size := HX10wBPS.out.lt
          have HX7wBPSC := Lib.hid (HX7wBPS.out.below hb HX7wBPS.out.lt)
          have hl7_4wBPSC : wB.heap.size < wBPS.heap.size := HX7wBPS.out.lt
          have HX12wBPSC := Lib.hid (HX12wBPS.out.below hb HX12wBPS.out.lt)
          have hl12_4wBPSC : wBP.heap.size < wBPS.heap.size := HX12wBPS.out.lt
          clear hx hb
          refine ⟨trivial, ?_⟩
          try simp only [Act.put, List.setIfInBounds_toArray, List.set_cons_zero, List.set_cons_succ]
          refine held_run 11 (some 25) (.build 46 #[(0, (.tmp 14)), (1, (.tmp 15)), (2, (.tmp 18)), (3, (.tmp 21)), (4, (.tmp 24)), (5, .const (.int .i64 1))]) ?v3_1_83 (by rfl) (by kernel_rfl) (by kernel_rfl) (by kernel_rfl) (fun _ _ _ h => h) (fun o ho w hS => ?y3_1_83) (by assumption) ?r3_1_83
          case y3_1_83 => (try dsimp only at hS); unfold execOp; simp only [ho]; go_simp; try with_reducible rfl
          try simp only [Act.put, List.setIfInBounds_toArray, List.set_cons_zero, List.set_cons_succ]
          refine held_one 13 (by kernel_rfl) ?_
          refine op_store_blk 13 46 (.tmp 5) (.tmp 25) (by rfl) (wBP.heap.size) #[.slice A n c, .slice B nw cw, .slice (some ⟨wBPS.heap.size, 0, none⟩) n n, .slice (some ⟨wB.heap.size, 0, none⟩) n n, .slice (some ⟨w1.drew.heap.size, 0, none⟩) n n, .int .i64 1] rfl rfl _ _ (HX12wBPSC.out) (by kernel_rfl) rfl (by simp [Value.oneCell']) ?_
          intro wFBPSC hx hon
          have HFwFBPSC : Hid (FrM wFBPSC lo (wBP.heap.size) (wBPS.heap.size) (wB.heap.size) (w1.drew.heap.size) A n c B nw cw) := hide ⟨hx, hon.blk HX4wBPSC.out (by omega), hon.blk HX7wBPSC.out (by omega), hon.blk HX10wBPSC.out (by omega), by have h := HBw1d.out.size; omega, by omega⟩
          have HBwFBPSC : Hid (Below w.heap.size w wFBPSC) := hide (hon.below HBwBPSC.out (by have h := HBw1d.out.size; omega))
          clear hx hon
          refine ⟨trivial, ?_⟩
          try simp only [Act.put]
          refine wpAnyH_done (by kernel_rfl) ?_ _
          go_wp2_with fail
          go_meet
          first
            | exact ⟨wCPB.heap.size, w1.drew.heap.size, wC.heap.size, wCP.heap.size, rfl, HFwFCPBS.out, HBwFCPBS.out⟩
            | exact ⟨wCP.heap.size, w1.drew.heap.size, wC.heap.size, wCPS.heap.size, rfl, HFwFCPSB.out, HBwFCPSB.out⟩
            | exact ⟨wCBP.heap.size, w1.drew.heap.size, wCB.heap.size, wC.heap.size, rfl, HFwFCBPS.out, HBwFCBPS.out⟩
            | exact ⟨wCB.heap.size, w1.drew.heap.size, wCBS.heap.size, wC.heap.size, rfl, HFwFCBSP.out, HBwFCBSP.out⟩
            | exact ⟨wC.heap.size, w1.drew.heap.size, wCS.heap.size, wCSP.heap.size, rfl, HFwFCSPB.out, HBwFCSPB.out⟩
            | exact ⟨wC.heap.size, w1.drew.heap.size, wCSB.heap.size, wCS.heap.size, rfl, HFwFCSBP.out, HBwFCSBP.out⟩
            | exact ⟨wPCB.heap.size, wP.heap.size, w1.drew.heap.size, wPC.heap.size, rfl, HFwFPCBS.out, HBwFPCBS.out⟩
            | exact ⟨wPC.heap.size, wP.heap.size, w1.drew.heap.size, wPCS.heap.size, rfl, HFwFPCSB.out, HBwFPCSB.out⟩
            | exact ⟨wPBC.heap.size, wPB.heap.size, w1.drew.heap.size, wP.heap.size, rfl, HFwFPBCS.out, HBwFPBCS.out⟩
            | exact ⟨wPB.heap.size, wPBS.heap.size, w1.drew.heap.size, wP.heap.size, rfl, HFwFPBSC.out, HBwFPBSC.out⟩
            | exact ⟨wP.heap.size, wPS.heap.size, w1.drew.heap.size, wPSC.heap.size, rfl, HFwFPSCB.out, HBwFPSCB.out⟩
            | exact ⟨wP.heap.size, wPSB.heap.size, w1.drew.heap.size, wPS.heap.size, rfl, HFwFPSBC.out, HBwFPSBC.out⟩
            | exact ⟨wBCP.heap.size, wB.heap.size, wBC.heap.size, w1.drew.heap.size, rfl, HFwFBCPS.out, HBwFBCPS.out⟩
            | exact ⟨wBC.heap.size, wB.heap.size, wBCS.heap.size, w1.drew.heap.size, rfl, HFwFBCSP.out, HBwFBCSP.out⟩
            | exact ⟨wBPC.heap.size, wBP.heap.size, wB.heap.size, w1.drew.heap.size, rfl, HFwFBPCS.out, HBwFBPCS.out⟩
            | exact ⟨wBP.heap.size, wBPS.heap.size, wB.heap.size, w1.drew.heap.size, rfl, HFwFBPSC.out, HBwFBPSC.out⟩
            | exact ⟨wB.heap.size, wBS.heap.size, wBSC.heap.size, w1.drew.heap.size, rfl, HFwFBSCP.out, HBwFBSCP.out⟩
            | exact ⟨wB.heap.size, wBSP.heap.size, wBS.heap.size, w1.drew.heap.size, rfl, HFwFBSPC.out, HBwFBSPC.out⟩
            | exact ⟨w1.drew.heap.size, wS.heap.size, wSC.heap.size, wSCP.heap.size, rfl, HFwFSCPB.out, HBwFSCPB.out⟩
            | exact ⟨w1.drew.heap.size, wS.heap.size, wSCB.heap.size, wSC.heap.size, rfl, HFwFSCBP.out, HBwFSCBP.out⟩
            | exact ⟨w1.drew.heap.size, wSP.heap.size, wS.heap.size, wSPC.heap.size, rfl, HFwFSPCB.out, HBwFSPCB.out⟩
            | exact ⟨w1.drew.heap.size, wSPB.heap.size, wS.heap.size, wSP.heap.size, rfl, HFwFSPBC.out, HBwFSPBC.out⟩
            | exact ⟨w1.drew.heap.size, wSB.heap.size, wSBC.heap.size, wS.heap.size, rfl, HFwFSBCP.out, HBwFSBCP.out⟩
            | exact ⟨w1.drew.heap.size, wSBP.heap.size, wSB.heap.size, wS.heap.size, rfl, HFwFSBPC.out, HBwFSBPC.out⟩
      · refine op_alloc 12 (some 5) 46 #[.slice none 0 0, .slice none 0 0, .slice none 0 0, .slice none 0 0, .slice none 0 0, .int .i64 0] (by rfl) (by kernel_rfl) ?_
        intro wBS hx hb
        have HBwBS := Lib.hid (HBwB.out.trans (hb.mono HBwB.out.size))
        have HX12wBS := Lib.hid hx
        have HX10wBS := Lib.hid (HX10wB.out.below hb HX10wB.out.lt)
        have hl10_12wBS : w1.drew.heap.size < wB.heap.size := HX10wB.out.lt
        clear hx hb
        refine ⟨trivial, ?_⟩
        try simp only [Act.put, List.setIfInBounds_toArray, List.set_cons_zero, List.set_cons_succ]
        refine held_two 4 7 (by kernel_rfl) ?_ ?_
        · refine op_make 4 (some 18) 44 (.tmp 17) (.tmp 17) (by rfl) Try.underlying44 inf_bools n rfl rfl (by omega) ?_
          intro wBSC hx hb
          have HBwBSC := Lib.hid (HBwBS.out.trans (hb.mono HBwBS.out.size))
          have HX4wBSC := Lib.hid hx
          have HX10wBSC := Lib.hid (HX10wBS.out.below hb HX10wBS.out.lt)
          have hl10_4wBSC : w1.drew.heap.size < wBS.heap.size := HX10wBS.out.lt
          have HX12wBSC := Lib.hid (HX12wBS.out.below hb HX12wBS.out.lt)
          have hl12_4wBSC : wB.heap.size < wBS.heap.size := HX12wBS.out.lt
          clear hx hb
          refine ⟨trivial, ?_⟩
          try simp only [Act.put, List.setIfInBounds_toArray, List.set_cons_zero, List.set_cons_succ]
          refine held_one 7 (by kernel_rfl) ?_
          refine op_make 7 (some 21) 24 (.tmp 20) (.tmp 20) (by rfl) Try.underlying24 inf_shift n rfl rfl (by omega) ?_
          intro wBSCP hx hb
          have HBwBSCP := Lib.hid (HBwBSC.out.trans (hb.mono HBwBSC.out.size))
          have HX7wBSCP := Lib.hid hx
          have HX10wBSCP := Lib.hid (HX10wBSC.out.below hb HX10wBSC.out.lt)
          have hl10_7wBSCP : w1.drew.heap.size < wBSC.heap.size := HX10wBSC.out.lt
          have HX12wBSCP := Lib.hid (HX12wBSC.out.below hb HX12wBSC.out.lt)
          have hl12_7wBSCP : wB.heap.size < wBSC.heap.size := HX12wBSC.out.lt
          have HX4wBSCP := Lib.hid (HX4wBSC.out.below hb HX4wBSC.out.lt)
          have hl4_7wBSCP : wBS.heap.size < wBSC.heap.size := HX4wBSC.out.lt
          clear hx hb
          refine ⟨trivial, ?_⟩
          try simp only [Act.put, List.setIfInBounds_toArray, List.set_cons_zero, List.set_cons_succ]
          refine held_run 11 (some 25) (.build 46 #[(0, (.tmp 14)), (1, (.tmp 15)), (2, (.tmp 18)), (3, (.tmp 21)), (4, (.tmp 24)), (5, .const (.int .i64 1))]) ?v3_1_88 (by rfl) (by kernel_rfl) (by kernel_rfl) (by kernel_rfl) (fun _ _ _ h => h) (fun o ho w hS => ?y3_1_88) (by assumption) ?r3_1_88
          case y3_1_88 => (try dsimp only at hS); unfold execOp; simp only [ho]; go_simp; try with_reducible rfl
          try simp only [Act.put, List.setIfInBounds_toArray, List.set_cons_zero, List.set_cons_succ]
          refine held_one 13 (by kernel_rfl) ?_
          refine op_store_blk 13 46 (.tmp 5) (.tmp 25) (by rfl) (wB.heap.size) #[.slice A n c, .slice B nw cw, .slice (some ⟨wBS.heap.size, 0, none⟩) n n, .slice (some ⟨wBSC.heap.size, 0, none⟩) n n, .slice (some ⟨w1.drew.heap.size, 0, none⟩) n n, .int .i64 1] rfl rfl _ _ (HX12wBSCP.out) (by kernel_rfl) rfl (by simp [Value.oneCell']) ?_
          intro wFBSCP hx hon
          have HFwFBSCP : Hid (FrM wFBSCP lo (wB.heap.size) (wBS.heap.size) (wBSC.heap.size) (w1.drew.heap.size) A n c B nw cw) := hide ⟨hx, hon.blk HX4wBSCP.out (by omega), hon.blk HX7wBSCP.out (by omega), hon.blk HX10wBSCP.out (by omega), by have h := HBw1d.out.size; omega, by omega⟩
          have HBwFBSCP : Hid (Below w.heap.size w wFBSCP) := hide (hon.below HBwBSCP.out (by have h := HBw1d.out.size; omega))
          clear hx hon
          refine ⟨trivial, ?_⟩
          try simp only [Act.put]
          refine wpAnyH_done (by kernel_rfl) ?_ _
          go_wp2_with fail
          go_meet
          first
            | exact ⟨wCPB.heap.size, w1.drew.heap.size, wC.heap.size, wCP.heap.size, rfl, HFwFCPBS.out, HBwFCPBS.out⟩
            | exact ⟨wCP.heap.size, w1.drew.heap.size, wC.heap.size, wCPS.heap.size, rfl, HFwFCPSB.out, HBwFCPSB.out⟩
            | exact ⟨wCBP.heap.size, w1.drew.heap.size, wCB.heap.size, wC.heap.size, rfl, HFwFCBPS.out, HBwFCBPS.out⟩
            | exact ⟨wCB.heap.size, w1.drew.heap.size, wCBS.heap.size, wC.heap.size, rfl, HFwFCBSP.out, HBwFCBSP.out⟩
            | exact ⟨wC.heap.size, w1.drew.heap.size, wCS.heap.size, wCSP.heap.size, rfl, HFwFCSPB.out, HBwFCSPB.out⟩
            | exact ⟨wC.heap.size, w1.drew.heap.size, wCSB.heap.size, wCS.heap.size, rfl, HFwFCSBP.out, HBwFCSBP.out⟩
            | exact ⟨wPCB.heap.size, wP.heap.size, w1.drew.heap.size, wPC.heap.size, rfl, HFwFPCBS.out, HBwFPCBS.out⟩
            | exact ⟨wPC.heap.size, wP.heap.size, w1.drew.heap.size, wPCS.heap.size, rfl, HFwFPCSB.out, HBwFPCSB.out⟩
            | exact ⟨wPBC.heap.size, wPB.heap.size, w1.drew.heap.size, wP.heap.size, rfl, HFwFPBCS.out, HBwFPBCS.out⟩
            | exact ⟨wPB.heap.size, wPBS.heap.size, w1.drew.heap.size, wP.heap.size, rfl, HFwFPBSC.out, HBwFPBSC.out⟩
            | exact ⟨wP.heap.size, wPS.heap.size, w1.drew.heap.size, wPSC.heap.size, rfl, HFwFPSCB.out, HBwFPSCB.out⟩
            | exact ⟨wP.heap.size, wPSB.heap.size, w1.drew.heap.size, wPS.heap.size, rfl, HFwFPSBC.out, HBwFPSBC.out⟩
            | exact ⟨wBCP.heap.size, wB.heap.size, wBC.heap.size, w1.drew.heap.size, rfl, HFwFBCPS.out, HBwFBCPS.out⟩
            | exact ⟨wBC.heap.size, wB.heap.size, wBCS.heap.size, w1.drew.heap.size, rfl, HFwFBCSP.out, HBwFBCSP.out⟩
            | exact ⟨wBPC.heap.size, wBP.heap.size, wB.heap.size, w1.drew.heap.size, rfl, HFwFBPCS.out, HBwFBPCS.out⟩
            | exact ⟨wBP.heap.size, wBPS.heap.size, wB.heap.size, w1.drew.heap.size, rfl, HFwFBPSC.out, HBwFBPSC.out⟩
            | exact ⟨wB.heap.size, wBS.heap.size, wBSC.heap.size, w1.drew.heap.size, rfl, HFwFBSCP.out, HBwFBSCP.out⟩
            | exact ⟨wB.heap.size, wBSP.heap.size, wBS.heap.size, w1.drew.heap.size, rfl, HFwFBSPC.out, HBwFBSPC.out⟩
            | exact ⟨w1.drew.heap.size, wS.heap.size, wSC.heap.size, wSCP.heap.size, rfl, HFwFSCPB.out, HBwFSCPB.out⟩
            | exact ⟨w1.drew.heap.size, wS.heap.size, wSCB.heap.size, wSC.heap.size, rfl, HFwFSCBP.out, HBwFSCBP.out⟩
            | exact ⟨w1.drew.heap.size, wSP.heap.size, wS.heap.size, wSPC.heap.size, rfl, HFwFSPCB.out, HBwFSPCB.out⟩
            | exact ⟨w1.drew.heap.size, wSPB.heap.size, wS.heap.size, wSP.heap.size, rfl, HFwFSPBC.out, HBwFSPBC.out⟩
            | exact ⟨w1.drew.heap.size, wSB.heap.size, wSBC.heap.size, wS.heap.size, rfl, HFwFSBCP.out, HBwFSBCP.out⟩
            | exact ⟨w1.drew.heap.size, wSBP.heap.size, wSB.heap.size, wS.heap.size, rfl, HFwFSBPC.out, HBwFSBPC.out⟩
        · refine op_make 7 (some 21) 24 (.tmp 20) (.tmp 20) (by rfl) Try.underlying24 inf_shift n rfl rfl (by omega) ?_
          intro wBSP hx hb
          have HBwBSP := Lib.hid (HBwBS.out.trans (hb.mono HBwBS.out.size))
          have HX7wBSP := Lib.hid hx
          have HX10wBSP := Lib.hid (HX10wBS.out.below hb HX10wBS.out.lt)
          have hl10_7wBSP : w1.drew.heap.size < wBS.heap.size := HX10wBS.out.lt
          have HX12wBSP := Lib.hid (HX12wBS.out.below hb HX12wBS.out.lt)
          have hl12_7wBSP : wB.heap.size < wBS.heap.size := HX12wBS.out.lt
          clear hx hb
          refine ⟨trivial, ?_⟩
          try simp only [Act.put, List.setIfInBounds_toArray, List.set_cons_zero, List.set_cons_succ]
          refine held_one 4 (by kernel_rfl) ?_
          refine op_make 4 (some 18) 44 (.tmp 17) (.tmp 17) (by rfl) Try.underlying44 inf_bools n rfl rfl (by omega) ?_
          intro wBSPC hx hb
          have HBwBSPC := Lib.hid (HBwBSP.out.trans (hb.mono HBwBSP.out.size))
          have HX4wBSPC := Lib.hid hx
          have HX10wBSPC := Lib.hid (HX10wBSP.out.below hb HX10wBSP.out.lt)
          have hl10_4wBSPC : w1.drew.heap.size < wBSP.heap.size := HX10wBSP.out.lt
          have HX12wBSPC := Lib.hid (HX12wBSP.out.below hb HX12wBSP.out.lt)
          have hl12_4wBSPC : wB.heap.size < wBSP.heap.size := HX12wBSP.out.lt
          have HX7wBSPC := Lib.hid (HX7wBSP.out.below hb HX7wBSP.out.lt)
          have hl7_4wBSPC : wBS.heap.size < wBSP.heap.size := HX7wBSP.out.lt
          clear hx hb
          refine ⟨trivial, ?_⟩
          try simp only [Act.put, List.setIfInBounds_toArray, List.set_cons_zero, List.set_cons_succ]
          refine held_run 11 (some 25) (.build 46 #[(0, (.tmp 14)), (1, (.tmp 15)), (2, (.tmp 18)), (3, (.tmp 21)), (4, (.tmp 24)), (5, .const (.int .i64 1))]) ?v3_1_92 (by rfl) (by kernel_rfl) (by kernel_rfl) (by kernel_rfl) (fun _ _ _ h => h) (fun o ho w hS => ?y3_1_92) (by assumption) ?r3_1_92
          case y3_1_92 => (try dsimp only at hS); unfold execOp; simp only [ho]; go_simp; try with_reducible rfl
          try simp only [Act.put, List.setIfInBounds_toArray, List.set_cons_zero, List.set_cons_succ]
          refine held_one 13 (by kernel_rfl) ?_
          refine op_store_blk 13 46 (.tmp 5) (.tmp 25) (by rfl) (wB.heap.size) #[.slice A n c, .slice B nw cw, .slice (some ⟨wBSP.heap.size, 0, none⟩) n n, .slice (some ⟨wBS.heap.size, 0, none⟩) n n, .slice (some ⟨w1.drew.heap.size, 0, none⟩) n n, .int .i64 1] rfl rfl _ _ (HX12wBSPC.out) (by kernel_rfl) rfl (by simp [Value.oneCell']) ?_
          intro wFBSPC hx hon
          have HFwFBSPC : Hid (FrM wFBSPC lo (wB.heap.size) (wBSP.heap.size) (wBS.heap.size) (w1.drew.heap.size) A n c B nw cw) := hide ⟨hx, hon.blk HX4wBSPC.out (by omega), hon.blk HX7wBSPC.out (by omega), hon.blk HX10wBSPC.out (by omega), by have h := HBw1d.out.size; omega, by omega⟩
          have HBwFBSPC : Hid (Below w.heap.size w wFBSPC) := hide (hon.below HBwBSPC.out (by have h := HBw1d.out.size; omega))
          clear hx hon
          refine ⟨trivial, ?_⟩
          try simp only [Act.put]
          refine wpAnyH_done (by kernel_rfl) ?_ _
          go_wp2_with fail
          go_meet
          first
            | exact ⟨wCPB.heap.size, w1.drew.heap.size, wC.heap.size, wCP.heap.size, rfl, HFwFCPBS.out, HBwFCPBS.out⟩
            | exact ⟨wCP.heap.size, w1.drew.heap.size, wC.heap.size, wCPS.heap.size, rfl, HFwFCPSB.out, HBwFCPSB.out⟩
            | exact ⟨wCBP.heap.size, w1.drew.heap.size, wCB.heap.size, wC.heap.size, rfl, HFwFCBPS.out, HBwFCBPS.out⟩
            | exact ⟨wCB.heap.size, w1.drew.heap.size, wCBS.heap.size, wC.heap.size, rfl, HFwFCBSP.out, HBwFCBSP.out⟩
            | exact ⟨wC.heap.size, w1.drew.heap.size, wCS.heap.size, wCSP.heap.size, rfl, HFwFCSPB.out, HBwFCSPB.out⟩
            | exact ⟨wC.heap.size, w1.drew.heap.size, wCSB.heap.size, wCS.heap.size, rfl, HFwFCSBP.out, HBwFCSBP.out⟩
            | exact ⟨wPCB.heap.size, wP.heap.size, w1.drew.heap.size, wPC.heap.size, rfl, HFwFPCBS.out, HBwFPCBS.out⟩
            | exact ⟨wPC.heap.size, wP.heap.size, w1.drew.heap.size, wPCS.heap.size, rfl, HFwFPCSB.out, HBwFPCSB.out⟩
            | exact ⟨wPBC.heap.size, wPB.heap.size, w1.drew.heap.size, wP.heap.size, rfl, HFwFPBCS.out, HBwFPBCS.out⟩
            | exact ⟨wPB.heap.size, wPBS.heap.size, w1.drew.heap.size, wP.heap.size, rfl, HFwFPBSC.out, HBwFPBSC.out⟩
            | exact ⟨wP.heap.size, wPS.heap.size, w1.drew.heap.size, wPSC.heap.size, rfl, HFwFPSCB.out, HBwFPSCB.out⟩
            | exact ⟨wP.heap.size, wPSB.heap.size, w1.drew.heap.size, wPS.heap.size, rfl, HFwFPSBC.out, HBwFPSBC.out⟩
            | exact ⟨wBCP.heap.size, wB.heap.size, wBC.heap.size, w1.drew.heap.size, rfl, HFwFBCPS.out, HBwFBCPS.out⟩
            | exact ⟨wBC.heap.size, wB.heap.size, wBCS.heap.size, w1.drew.heap.size, rfl, HFwFBCSP.out, HBwFBCSP.out⟩
            | exact ⟨wBPC.heap.size, wBP.heap.size, wB.heap.size, w1.drew.heap.size, rfl, HFwFBPCS.out, HBwFBPCS.out⟩
            | exact ⟨wBP.heap.size, wBPS.heap.size, wB.heap.size, w1.drew.heap.size, rfl, HFwFBPSC.out, HBwFBPSC.out⟩
            | exact ⟨wB.heap.size, wBS.heap.size, wBSC.heap.size, w1.drew.heap.size, rfl, HFwFBSCP.out, HBwFBSCP.out⟩
            | exact ⟨wB.heap.size, wBSP.heap.size, wBS.heap.size, w1.drew.heap.size, rfl, HFwFBSPC.out, HBwFBSPC.out⟩
            | exact ⟨w1.drew.heap.size, wS.heap.size, wSC.heap.size, wSCP.heap.size, rfl, HFwFSCPB.out, HBwFSCPB.out⟩
            | exact ⟨w1.drew.heap.size, wS.heap.size, wSCB.heap.size, wSC.heap.size, rfl, HFwFSCBP.out, HBwFSCBP.out⟩
            | exact ⟨w1.drew.heap.size, wSP.heap.size, wS.heap.size, wSPC.heap.size, rfl, HFwFSPCB.out, HBwFSPCB.out⟩
            | exact ⟨w1.drew.heap.size, wSPB.heap.size, wS.heap.size, wSP.heap.size, rfl, HFwFSPBC.out, HBwFSPBC.out⟩
            | exact ⟨w1.drew.heap.size, wSB.heap.size, wSBC.heap.size, wS.heap.size, rfl, HFwFSBCP.out, HBwFSBCP.out⟩
            | exact ⟨w1.drew.heap.size, wSBP.heap.size, wSB.heap.size, wS.heap.size, rfl, HFwFSBPC.out, HBwFSBPC.out⟩
    · refine op_alloc 12 (some 5) 46 #[.slice none 0 0, .slice none 0 0, .slice none 0 0, .slice none 0 0, .slice none 0 0, .int .i64 0] (by rfl) (by kernel_rfl) ?_
      intro wS hx hb
      have HBwS := Lib.hid (HBw1d.out.trans (hb.mono HBw1d.out.size))
      have HX12wS := Lib.hid hx
      clear hx hb
      refine ⟨trivial, ?_⟩
      try simp only [Act.put, List.setIfInBounds_toArray, List.set_cons_zero, List.set_cons_succ]
      refine held_three 4 7 10 (by kernel_rfl) ?_ ?_ ?_
      · refine op_make 4 (some 18) 44 (.tmp 17) (.tmp 17) (by rfl) Try.underlying44 inf_bools n rfl rfl (by omega) ?_
        intro wSC hx hb
        have HBwSC := Lib.hid (HBwS.out.trans (hb.mono HBwS.out.size))
        have HX4wSC := Lib.hid hx
        have HX12wSC := Lib.hid (HX12wS.out.below hb HX12wS.out.lt)
        have hl12_4wSC : w1.drew.heap.size < wS.heap.size := HX12wS.out.lt
        clear hx hb
        refine ⟨trivial, ?_⟩
        try simp only [Act.put, List.setIfInBounds_toArray, List.set_cons_zero, List.set_cons_succ]
        refine held_two 7 10 (by kernel_rfl) ?_ ?_
        · refine op_make 7 (some 21) 24 (.tmp 20) (.tmp 20) (by rfl) Try.underlying24 inf_shift n rfl rfl (by omega) ?_
          intro wSCP hx hb
          have HBwSCP := Lib.hid (HBwSC.out.trans (hb.mono HBwSC.out.size))
          have HX7wSCP := Lib.hid hx
          have HX12wSCP := Lib.hid (HX12wSC.out.below hb HX12wSC.out.lt)
          have hl12_7wSCP : w1.drew.heap.size < wSC.heap.size := HX12wSC.out.lt
          have HX4wSCP := Lib.hid (HX4wSC.out.below hb HX4wSC.out.lt)
          have hl4_7wSCP : wS.heap.size < wSC.heap.size := HX4wSC.out.lt
          clear hx hb
          refine ⟨trivial, ?_⟩
          try simp only [Act.put, List.setIfInBounds_toArray, List.set_cons_zero, List.set_cons_succ]
          refine held_one 10 (by kernel_rfl) ?_
          refine op_make 10 (some 24) 24 (.tmp 23) (.tmp 23) (by rfl) Try.underlying24 inf_shift n rfl rfl (by omega) ?_
          intro wSCPB hx hb
          have HBwSCPB := Lib.hid (HBwSCP.out.trans (hb.mono HBwSCP.out.size))
          have HX10wSCPB := Lib.hid hx
          have HX12wSCPB := Lib.hid (HX12wSCP.out.below hb HX12wSCP.out.lt)
          have hl12_10wSCPB : w1.drew.heap.size < wSCP.heap.size := HX12wSCP.out.lt
          have HX4wSCPB := Lib.hid (HX4wSCP.out.below hb HX4wSCP.out.lt)
          have hl4_10wSCPB : wS.heap.size < wSCP.heap.size := HX4wSCP.out.lt
          have HX7wSCPB := Lib.hid (HX7wSCP.out.below hb HX7wSCP.out.lt)
          have hl7_10wSCPB : wSC.heap.size < wSCP.heap.size := HX7wSCP.out.lt
          clear hx hb
          refine ⟨trivial, ?_⟩
          try simp only [Act.put, List.setIfInBounds_toArray, List.set_cons_zero, List.set_cons_succ]
          refine held_run 11 (some 25) (.build 46 #[(0, (.tmp 14)), (1, (.tmp 15)), (2, (.tmp 18)), (3, (.tmp 21)), (4, (.tmp 24)), (5, .const (.int .i64 1))]) ?v3_1_98 (by rfl) (by kernel_rfl) (by kernel_rfl) (by kernel_rfl) (fun _ _ _ h => h) (fun o ho w hS => ?y3_1_98) (by assumption) ?r3_1_98
          case y3_1_98 => (try dsimp only at hS); unfold execOp; simp only [ho]; go_simp; try with_reducible rfl
          try simp only [Act.put, List.setIfInBounds_toArray, List.set_cons_zero, List.set_cons_succ]
          refine held_one 13 (by kernel_rfl) ?_
          refine op_store_blk 13 46 (.tmp 5) (.tmp 25) (by rfl) (w1.drew.heap.size) #[.slice A n c, .slice B nw cw, .slice (some ⟨wS.heap.size, 0, none⟩) n n, .slice (some ⟨wSC.heap.size, 0, none⟩) n n, .slice (some ⟨wSCP.heap.size, 0, none⟩) n n, .int .i64 1] rfl rfl _ _ (HX12wSCPB.out) (by kernel_rfl) rfl (by simp [Value.oneCell']) ?_
          intro wFSCPB hx hon
          have HFwFSCPB : Hid (FrM wFSCPB lo (w1.drew.heap.size) (wS.heap.size) (wSC.heap.size) (wSCP.heap.size) A n c B nw cw) := hide ⟨hx, hon.blk HX4wSCPB.out (by omega), hon.blk HX7wSCPB.out (by omega), hon.blk HX10wSCPB.out (by omega), by have h := HBw1d.out.size; omega, by omega⟩
          have HBwFSCPB : Hid (Below w.heap.size w wFSCPB) := hide (hon.below HBwSCPB.out (by have h := HBw1d.out.size; omega))
          clear hx hon
          refine ⟨trivial, ?_⟩
          try simp only [Act.put]
          refine wpAnyH_done (by kernel_rfl) ?_ _
          go_wp2_with fail
          go_meet
          first
            | exact ⟨wCPB.heap.size, w1.drew.heap.size, wC.heap.size, wCP.heap.size, rfl, HFwFCPBS.out, HBwFCPBS.out⟩
            | exact ⟨wCP.heap.size, w1.drew.heap.size, wC.heap.size, wCPS.heap.size, rfl, HFwFCPSB.out, HBwFCPSB.out⟩
            | exact ⟨wCBP.heap.size, w1.drew.heap.size, wCB.heap.size, wC.heap.size, rfl, HFwFCBPS.out, HBwFCBPS.out⟩
            | exact ⟨wCB.heap.size, w1.drew.heap.size, wCBS.heap.size, wC.heap.size, rfl, HFwFCBSP.out, HBwFCBSP.out⟩
            | exact ⟨wC.heap.size, w1.drew.heap.size, wCS.heap.size, wCSP.heap.size, rfl, HFwFCSPB.out, HBwFCSPB.out⟩
            | exact ⟨wC.heap.size, w1.drew.heap.size, wCSB.heap.size, wCS.heap.size, rfl, HFwFCSBP.out, HBwFCSBP.out⟩
            | exact ⟨wPCB.heap.size, wP.heap.size, w1.drew.heap.size, wPC.heap.size, rfl, HFwFPCBS.out, HBwFPCBS.out⟩
            | exact ⟨wPC.heap.size, wP.heap.size, w1.drew.heap.size, wPCS.heap.size, rfl, HFwFPCSB.out, HBwFPCSB.out⟩
            | exact ⟨wPBC.heap.size, wPB.heap.size, w1.drew.heap.size, wP.heap.size, rfl, HFwFPBCS.out, HBwFPBCS.out⟩
            | exact ⟨wPB.heap.size, wPBS.heap.size, w1.drew.heap.size, wP.heap.size, rfl, HFwFPBSC.out, HBwFPBSC.out⟩
            | exact ⟨wP.heap.size, wPS.heap.size, w1.drew.heap.size, wPSC.heap.size, rfl, HFwFPSCB.out, HBwFPSCB.out⟩
            | exact ⟨wP.heap.size, wPSB.heap.size, w1.drew.heap.size, wPS.heap.size, rfl, HFwFPSBC.out, HBwFPSBC.out⟩
            | exact ⟨wBCP.heap.size, wB.heap.size, wBC.heap.size, w1.drew.heap.size, rfl, HFwFBCPS.out, HBwFBCPS.out⟩
            | exact ⟨wBC.heap.size, wB.heap.size, wBCS.heap.size, w1.drew.heap.size, rfl, HFwFBCSP.out, HBwFBCSP.out⟩
            | exact ⟨wBPC.heap.size, wBP.heap.size, wB.heap.size, w1.drew.heap.size, rfl, HFwFBPCS.out, HBwFBPCS.out⟩
            | exact ⟨wBP.heap.size, wBPS.heap.size, wB.heap.size, w1.drew.heap.size, rfl, HFwFBPSC.out, HBwFBPSC.out⟩
            | exact ⟨wB.heap.size, wBS.heap.size, wBSC.heap.size, w1.drew.heap.size, rfl, HFwFBSCP.out, HBwFBSCP.out⟩
            | exact ⟨wB.heap.size, wBSP.heap.size, wBS.heap.size, w1.drew.heap.size, rfl, HFwFBSPC.out, HBwFBSPC.out⟩
            | exact ⟨w1.drew.heap.size, wS.heap.size, wSC.heap.size, wSCP.heap.size, rfl, HFwFSCPB.out, HBwFSCPB.out⟩
            | exact ⟨w1.drew.heap.size, wS.heap.size, wSCB.heap.size, wSC.heap.size, rfl, HFwFSCBP.out, HBwFSCBP.out⟩
            | exact ⟨w1.drew.heap.size, wSP.heap.size, wS.heap.size, wSPC.heap.size, rfl, HFwFSPCB.out, HBwFSPCB.out⟩
            | exact ⟨w1.drew.heap.size, wSPB.heap.size, wS.heap.size, wSP.heap.size, rfl, HFwFSPBC.out, HBwFSPBC.out⟩
            | exact ⟨w1.drew.heap.size, wSB.heap.size, wSBC.heap.size, wS.heap.size, rfl, HFwFSBCP.out, HBwFSBCP.out⟩
            | exact ⟨w1.drew.heap.size, wSBP.heap.size, wSB.heap.size, wS.heap.size, rfl, HFwFSBPC.out, HBwFSBPC.out⟩
        · refine op_make 10 (some 24) 24 (.tmp 23) (.tmp 23) (by rfl) Try.underlying24 inf_shift n rfl rfl (by omega) ?_
          intro wSCB hx hb
          have HBwSCB := Lib.hid (HBwSC.out.trans (hb.mono HBwSC.out.size))
          have HX10wSCB := Lib.hid hx
          have HX12wSCB := Lib.hid (HX12wSC.out.below hb HX12wSC.out.lt)
          have hl12_10wSCB : w1.drew.heap.size < wSC.heap.size := HX12wSC.out.lt
          have HX4wSCB := Lib.hid (HX4wSC.out.below hb HX4wSC.out.lt)
          have hl4_10wSCB : wS.heap.size < wSC.heap.size := HX4wSC.out.lt
          clear hx hb
          refine ⟨trivial, ?_⟩
          try simp only [Act.put, List.setIfInBounds_toArray, List.set_cons_zero, List.set_cons_succ]
          refine held_one 7 (by kernel_rfl) ?_
          refine op_make 7 (some 21) 24 (.tmp 20) (.tmp 20) (by rfl) Try.underlying24 inf_shift n rfl rfl (by omega) ?_
          intro wSCBP hx hb
          have HBwSCBP := Lib.hid (HBwSCB.out.trans (hb.mono HBwSCB.out.size))
          have HX7wSCBP := Lib.hid hx
          have HX12wSCBP := Lib.hid (HX12wSCB.out.below hb HX12wSCB.out.lt)
          have hl12_7wSCBP : w1.drew.heap.size < wSCB.heap.size := HX12wSCB.out.lt
          have HX4wSCBP := Lib.hid (HX4wSCB.out.below hb HX4wSCB.out.lt)
          have hl4_7wSCBP : wS.heap.size < wSCB.heap.size := HX4wSCB.out.lt
          have HX10wSCBP := Lib.hid (HX10wSCB.out.below hb HX10wSCB.out.lt)
          have hl10_7wSCBP : wSC.heap.size < wSCB.heap.size := HX10wSCB.out.lt
          clear hx hb
          refine ⟨trivial, ?_⟩
          try simp only [Act.put, List.setIfInBounds_toArray, List.set_cons_zero, List.set_cons_succ]
          refine held_run 11 (some 25) (.build 46 #[(0, (.tmp 14)), (1, (.tmp 15)), (2, (.tmp 18)), (3, (.tmp 21)), (4, (.tmp 24)), (5, .const (.int .i64 1))]) ?v3_1_102 (by rfl) (by kernel_rfl) (by kernel_rfl) (by kernel_rfl) (fun _ _ _ h => h) (fun o ho w hS => ?y3_1_102) (by assumption) ?r3_1_102
          case y3_1_102 => (try dsimp only at hS); unfold execOp; simp only [ho]; go_simp; try with_reducible rfl
          try simp only [Act.put, List.setIfInBounds_toArray, List.set_cons_zero, List.set_cons_succ]
          refine held_one 13 (by kernel_rfl) ?_
          refine op_store_blk 13 46 (.tmp 5) (.tmp 25) (by rfl) (w1.drew.heap.size) #[.slice A n c, .slice B nw cw, .slice (some ⟨wS.heap.size, 0, none⟩) n n, .slice (some ⟨wSCB.heap.size, 0, none⟩) n n, .slice (some ⟨wSC.heap.size, 0, none⟩) n n, .int .i64 1] rfl rfl _ _ (HX12wSCBP.out) (by kernel_rfl) rfl (by simp [Value.oneCell']) ?_
          intro wFSCBP hx hon
          have HFwFSCBP : Hid (FrM wFSCBP lo (w1.drew.heap.size) (wS.heap.size) (wSCB.heap.size) (wSC.heap.size) A n c B nw cw) := hide ⟨hx, hon.blk HX4wSCBP.out (by omega), hon.blk HX7wSCBP.out (by omega), hon.blk HX10wSCBP.out (by omega), by have h := HBw1d.out.size; omega, by omega⟩
          have HBwFSCBP : Hid (Below w.heap.size w wFSCBP) := hide (hon.below HBwSCBP.out (by have h := HBw1d.out.size; omega))
          clear hx hon
          refine ⟨trivial, ?_⟩
          try simp only [Act.put]
          refine wpAnyH_done (by kernel_rfl) ?_ _
          go_wp2_with fail
          go_meet
          first
            | exact ⟨wCPB.heap.size, w1.drew.heap.size, wC.heap.size, wCP.heap.size, rfl, HFwFCPBS.out, HBwFCPBS.out⟩
            | exact ⟨wCP.heap.size, w1.drew.heap.size, wC.heap.size, wCPS.heap.size, rfl, HFwFCPSB.out, HBwFCPSB.out⟩
            | exact ⟨wCBP.heap.size, w1.drew.heap.size, wCB.heap.size, wC.heap.size, rfl, HFwFCBPS.out, HBwFCBPS.out⟩
            | exact ⟨wCB.heap.size, w1.drew.heap.size, wCBS.heap.size, wC.heap.size, rfl, HFwFCBSP.out, HBwFCBSP.out⟩
            | exact ⟨wC.heap.size, w1.drew.heap.size, wCS.heap.size, wCSP.heap.size, rfl, HFwFCSPB.out, HBwFCSPB.out⟩
            | exact ⟨wC.heap.size, w1.drew.heap.size, wCSB.heap.size, wCS.heap.size, rfl, HFwFCSBP.out, HBwFCSBP.out⟩
            | exact ⟨wPCB.heap.size, wP.heap.size, w1.drew.heap.size, wPC.heap.size, rfl, HFwFPCBS.out, HBwFPCBS.out⟩
            | exact ⟨wPC.heap.size, wP.heap.size, w1.drew.heap.size, wPCS.heap.size, rfl, HFwFPCSB.out, HBwFPCSB.out⟩
            | exact ⟨wPBC.heap.size, wPB.heap.size, w1.drew.heap.size, wP.heap.size, rfl, HFwFPBCS.out, HBwFPBCS.out⟩
            | exact ⟨wPB.heap.size, wPBS.heap.size, w1.drew.heap.size, wP.heap.size, rfl, HFwFPBSC.out, HBwFPBSC.out⟩
            | exact ⟨wP.heap.size, wPS.heap.size, w1.drew.heap.size, wPSC.heap.size, rfl, HFwFPSCB.out, HBwFPSCB.out⟩
            | exact ⟨wP.heap.size, wPSB.heap.size, w1.drew.heap.size, wPS.heap.size, rfl, HFwFPSBC.out, HBwFPSBC.out⟩
            | exact ⟨wBCP.heap.size, wB.heap.size, wBC.heap.size, w1.drew.heap.size, rfl, HFwFBCPS.out, HBwFBCPS.out⟩
            | exact ⟨wBC.heap.size, wB.heap.size, wBCS.heap.size, w1.drew.heap.size, rfl, HFwFBCSP.out, HBwFBCSP.out⟩
            | exact ⟨wBPC.heap.size, wBP.heap.size, wB.heap.size, w1.drew.heap.size, rfl, HFwFBPCS.out, HBwFBPCS.out⟩
            | exact ⟨wBP.heap.size, wBPS.heap.size, wB.heap.size, w1.drew.heap.size, rfl, HFwFBPSC.out, HBwFBPSC.out⟩
            | exact ⟨wB.heap.size, wBS.heap.size, wBSC.heap.size, w1.drew.heap.size, rfl, HFwFBSCP.out, HBwFBSCP.out⟩
            | exact ⟨wB.heap.size, wBSP.heap.size, wBS.heap.size, w1.drew.heap.size, rfl, HFwFBSPC.out, HBwFBSPC.out⟩
            | exact ⟨w1.drew.heap.size, wS.heap.size, wSC.heap.size, wSCP.heap.size, rfl, HFwFSCPB.out, HBwFSCPB.out⟩
            | exact ⟨w1.drew.heap.size, wS.heap.size, wSCB.heap.size, wSC.heap.size, rfl, HFwFSCBP.out, HBwFSCBP.out⟩
            | exact ⟨w1.drew.heap.size, wSP.heap.size, wS.heap.size, wSPC.heap.size, rfl, HFwFSPCB.out, HBwFSPCB.out⟩
            | exact ⟨w1.drew.heap.size, wSPB.heap.size, wS.heap.size, wSP.heap.size, rfl, HFwFSPBC.out, HBwFSPBC.out⟩
            | exact ⟨w1.drew.heap.size, wSB.heap.size, wSBC.heap.size, wS.heap.size, rfl, HFwFSBCP.out, HBwFSBCP.out⟩
            | exact ⟨w1.drew.heap.size, wSBP.heap.size, wSB.heap.size, wS.heap.size, rfl, HFwFSBPC.out, HBwFSBPC.out⟩
      · refine op_make 7 (some 21) 24 (.tmp 20) (.tmp 20) (by rfl) Try.underlying24 inf_shift n rfl rfl (by omega) ?_
        intro wSP hx hb
        have HBwSP := Lib.hid (HBwS.out.trans (hb.mono HBwS.out.size))
        have HX7wSP := Lib.hid hx
        have HX12wSP := Lib.hid (HX12wS.out.below hb HX12wS.out.lt)
        have hl12_7wSP : w1.drew.heap.size < wS.heap.size := HX12wS.out.lt
        clear hx hb
        refine ⟨trivial, ?_⟩
        try simp only [Act.put, List.setIfInBounds_toArray, List.set_cons_zero, List.set_cons_succ]
        refine held_two 4 10 (by kernel_rfl) ?_ ?_
        · refine op_make 4 (some 18) 44 (.tmp 17) (.tmp 17) (by rfl) Try.underlying44 inf_bools n rfl rfl (by omega) ?_
          intro wSPC hx hb
          have HBwSPC := Lib.hid (HBwSP.out.trans (hb.mono HBwSP.out.size))
          have HX4wSPC := Lib.hid hx
          have HX12wSPC := Lib.hid (HX12wSP.out.below hb HX12wSP.out.lt)
          have hl12_4wSPC : w1.drew.heap.size < wSP.heap.size := HX12wSP.out.lt
          have HX7wSPC := Lib.hid (HX7wSP.out.below hb HX7wSP.out.lt)
          have hl7_4wSPC : wS.heap.size < wSP.heap.size := HX7wSP.out.lt
          clear hx hb
          refine ⟨trivial, ?_⟩
          try simp only [Act.put, List.setIfInBounds_toArray, List.set_cons_zero, List.set_cons_succ]
          refine held_one 10 (by kernel_rfl) ?_
          refine op_make 10 (some 24) 24 (.tmp 23) (.tmp 23) (by rfl) Try.underlying24 inf_shift n rfl rfl (by omega) ?_
          intro wSPCB hx hb
          have HBwSPCB := Lib.hid (HBwSPC.out.trans (hb.mono HBwSPC.out.size))
          have HX10wSPCB := Lib.hid hx
          have HX12wSPCB := Lib.hid (HX12wSPC.out.below hb HX12wSPC.out.lt)
          have hl12_10wSPCB : w1.drew.heap.size < wSPC.heap.size := HX12wSPC.out.lt
          have HX7wSPCB := Lib.hid (HX7wSPC.out.below hb HX7wSPC.out.lt)
          have hl7_10wSPCB : wS.heap.size < wSPC.heap.size := HX7wSPC.out.lt
          have HX4wSPCB := Lib.hid (HX4wSPC.out.below hb HX4wSPC.out.lt)
          have hl4_10wSPCB : wSP.heap.size < wSPC.heap.size := HX4wSPC.out.lt
          clear hx hb
          refine ⟨trivial, ?_⟩
          try simp only [Act.put, List.setIfInBounds_toArray, List.set_cons_zero, List.set_cons_succ]
          refine held_run 11 (some 25) (.build 46 #[(0, (.tmp 14)), (1, (.tmp 15)), (2, (.tmp 18)), (3, (.tmp 21)), (4, (.tmp 24)), (5, .const (.int .i64 1))]) ?v3_1_107 (by rfl) (by kernel_rfl) (by kernel_rfl) (by kernel_rfl) (fun _ _ _ h => h) (fun o ho w hS => ?y3_1_107) (by assumption) ?r3_1_107
          case y3_1_107 => (try dsimp only at hS); unfold execOp; simp only [ho]; go_simp; try with_reducible rfl
          try simp only [Act.put, List.setIfInBounds_toArray, List.set_cons_zero, List.set_cons_succ]
          refine held_one 13 (by kernel_rfl) ?_
          refine op_store_blk 13 46 (.tmp 5) (.tmp 25) (by rfl) (w1.drew.heap.size) #[.slice A n c, .slice B nw cw, .slice (some ⟨wSP.heap.size, 0, none⟩) n n, .slice (some ⟨wS.heap.size, 0, none⟩) n n, .slice (some ⟨wSPC.heap.size, 0, none⟩) n n, .int .i64 1] rfl rfl _ _ (HX12wSPCB.out) (by kernel_rfl) rfl (by simp [Value.oneCell']) ?_
          intro wFSPCB hx hon
          have HFwFSPCB : Hid (FrM wFSPCB lo (w1.drew.heap.size) (wSP.heap.size) (wS.heap.size) (wSPC.heap.size) A n c B nw cw) := hide ⟨hx, hon.blk HX4wSPCB.out (by omega), hon.blk HX7wSPCB.out (by omega), hon.blk HX10wSPCB.out (by omega), by have h := HBw1d.out.size; omega, by omega⟩
          have HBwFSPCB : Hid (Below w.heap.size w wFSPCB) := hide (hon.below HBwSPCB.out (by have h := HBw1d.out.size; omega))
          clear hx hon
          refine ⟨trivial, ?_⟩
          try simp only [Act.put]
          refine wpAnyH_done (by kernel_rfl) ?_ _
          go_wp2_with fail
          go_meet
          first
            | exact ⟨wCPB.heap.size, w1.drew.heap.size, wC.heap.size, wCP.heap.size, rfl, HFwFCPBS.out, HBwFCPBS.out⟩
            | exact ⟨wCP.heap.size, w1.drew.heap.size, wC.heap.size, wCPS.heap.size, rfl, HFwFCPSB.out, HBwFCPSB.out⟩
            | exact ⟨wCBP.heap.size, w1.drew.heap.size, wCB.heap.size, wC.heap.size, rfl, HFwFCBPS.out, HBwFCBPS.out⟩
            | exact ⟨wCB.heap.size, w1.drew.heap.size, wCBS.heap.size, wC.heap.size, rfl, HFwFCBSP.out, HBwFCBSP.out⟩
            | exact ⟨wC.heap.size, w1.drew.heap.size, wCS.heap.size, wCSP.heap.size, rfl, HFwFCSPB.out, HBwFCSPB.out⟩
            | exact ⟨wC.heap.size, w1.drew.heap.size, wCSB.heap.size, wCS.heap.size, rfl, HFwFCSBP.out, HBwFCSBP.out⟩
            | exact ⟨wPCB.heap.size, wP.heap.size, w1.drew.heap.size, wPC.heap.size, rfl, HFwFPCBS.out, HBwFPCBS.out⟩
            | exact ⟨wPC.heap.size, wP.heap.size, w1.drew.heap.size, wPCS.heap.size, rfl, HFwFPCSB.out, HBwFPCSB.out⟩
            | exact ⟨wPBC.heap.size, wPB.heap.size, w1.drew.heap.size, wP.heap.size, rfl, HFwFPBCS.out, HBwFPBCS.out⟩
            | exact ⟨wPB.heap.size, wPBS.heap.size, w1.drew.heap.size, wP.heap.size, rfl, HFwFPBSC.out, HBwFPBSC.out⟩
            | exact ⟨wP.heap.size, wPS.heap.size, w1.drew.heap.size, wPSC.heap.size, rfl, HFwFPSCB.out, HBwFPSCB.out⟩
            | exact ⟨wP.heap.size, wPSB.heap.size, w1.drew.heap.size, wPS.heap.size, rfl, HFwFPSBC.out, HBwFPSBC.out⟩
            | exact ⟨wBCP.heap.size, wB.heap.size, wBC.heap.size, w1.drew.heap.size, rfl, HFwFBCPS.out, HBwFBCPS.out⟩
            | exact ⟨wBC.heap.size, wB.heap.size, wBCS.heap.size, w1.drew.heap.size, rfl, HFwFBCSP.out, HBwFBCSP.out⟩
            | exact ⟨wBPC.heap.size, wBP.heap.size, wB.heap.size, w1.drew.heap.size, rfl, HFwFBPCS.out, HBwFBPCS.out⟩
            | exact ⟨wBP.heap.size, wBPS.heap.size, wB.heap.size, w1.drew.heap.size, rfl, HFwFBPSC.out, HBwFBPSC.out⟩
            | exact ⟨wB.heap.size, wBS.heap.size, wBSC.heap.size, w1.drew.heap.size, rfl, HFwFBSCP.out, HBwFBSCP.out⟩
            | exact ⟨wB.heap.size, wBSP.heap.size, wBS.heap.size, w1.drew.heap.size, rfl, HFwFBSPC.out, HBwFBSPC.out⟩
            | exact ⟨w1.drew.heap.size, wS.heap.size, wSC.heap.size, wSCP.heap.size, rfl, HFwFSCPB.out, HBwFSCPB.out⟩
            | exact ⟨w1.drew.heap.size, wS.heap.size, wSCB.heap.size, wSC.heap.size, rfl, HFwFSCBP.out, HBwFSCBP.out⟩
            | exact ⟨w1.drew.heap.size, wSP.heap.size, wS.heap.size, wSPC.heap.size, rfl, HFwFSPCB.out, HBwFSPCB.out⟩
            | exact ⟨w1.drew.heap.size, wSPB.heap.size, wS.heap.size, wSP.heap.size, rfl, HFwFSPBC.out, HBwFSPBC.out⟩
            | exact ⟨w1.drew.heap.size, wSB.heap.size, wSBC.heap.size, wS.heap.size, rfl, HFwFSBCP.out, HBwFSBCP.out⟩
            | exact ⟨w1.drew.heap.size, wSBP.heap.size, wSB.heap.size, wS.heap.size, rfl, HFwFSBPC.out, HBwFSBPC.out⟩
        · refine op_make 10 (some 24) 24 (.tmp 23) (.tmp 23) (by rfl) Try.underlying24 inf_shift n rfl rfl (by omega) ?_
          intro wSPB hx hb
          have HBwSPB := Lib.hid (HBwSP.out.trans (hb.mono HBwSP.out.size))
          have HX10wSPB := Lib.hid hx
          have HX12wSPB := Lib.hid (HX12wSP.out.below hb HX12wSP.out.lt)
          have hl12_10wSPB : w1.drew.heap.size < wSP.heap.size := HX12wSP.out.lt
          have HX7wSPB := Lib.hid (HX7wSP.out.below hb HX7wSP.out.lt)
          have hl7_10wSPB : wS.heap.size < wSP.heap.size := HX7wSP.out.lt
          clear hx hb
          refine ⟨trivial, ?_⟩
          try simp only [Act.put, List.setIfInBounds_toArray, List.set_cons_zero, List.set_cons_succ]
          refine held_one 4 (by kernel_rfl) ?_
          refine op_make 4 (some 18) 44 (.tmp 17) (.tmp 17) (by rfl) Try.underlying44 inf_bools n rfl rfl (by omega) ?_
          intro wSPBC hx hb
          have HBwSPBC := Lib.hid (HBwSPB.out.trans (hb.mono HBwSPB.out.size))
          have HX4wSPBC := Lib.hid hx
          have HX12wSPBC := Lib.hid (HX12wSPB.out.below hb HX12wSPB.out.lt)
          have hl12_4wSPBC : w1.drew.heap.size < wSPB.heap.size := HX12wSPB.out.lt
          have HX7wSPBC := Lib.hid (HX7wSPB.out.below hb HX7wSPB.out.lt)
          have hl7_4wSPBC : wS.heap.size < wSPB.heap.size := HX7wSPB.out.lt
          have HX10wSPBC := Lib.hid (HX10wSPB.out.below hb HX10wSPB.out.lt)
          have hl10_4wSPBC : wSP.heap.size < wSPB.heap.size := HX10wSPB.out.lt
          clear hx hb
          refine ⟨trivial, ?_⟩
          try simp only [Act.put, List.setIfInBounds_toArray, List.set_cons_zero, List.set_cons_succ]
          refine held_run 11 (some 25) (.build 46 #[(0, (.tmp 14)), (1, (.tmp 15)), (2, (.tmp 18)), (3, (.tmp 21)), (4, (.tmp 24)), (5, .const (.int .i64 1))]) ?v3_1_111 (by rfl) (by kernel_rfl) (by kernel_rfl) (by kernel_rfl) (fun _ _ _ h => h) (fun o ho w hS => ?y3_1_111) (by assumption) ?r3_1_111
          case y3_1_111 => (try dsimp only at hS); unfold execOp; simp only [ho]; go_simp; try with_reducible rfl
          try simp only [Act.put, List.setIfInBounds_toArray, List.set_cons_zero, List.set_cons_succ]
          refine held_one 13 (by kernel_rfl) ?_
          refine op_store_blk 13 46 (.tmp 5) (.tmp 25) (by rfl) (w1.drew.heap.size) #[.slice A n c, .slice B nw cw, .slice (some ⟨wSPB.heap.size, 0, none⟩) n n, .slice (some ⟨wS.heap.size, 0, none⟩) n n, .slice (some ⟨wSP.heap.size, 0, none⟩) n n, .int .i64 1] rfl rfl _ _ (HX12wSPBC.out) (by kernel_rfl) rfl (by simp [Value.oneCell']) ?_
          intro wFSPBC hx hon
          have HFwFSPBC : Hid (FrM wFSPBC lo (w1.drew.heap.size) (wSPB.heap.size) (wS.heap.size) (wSP.heap.size) A n c B nw cw) := hide ⟨hx, hon.blk HX4wSPBC.out (by omega), hon.blk HX7wSPBC.out (by omega), hon.blk HX10wSPBC.out (by omega), by have h := HBw1d.out.size; omega, by omega⟩
          have HBwFSPBC : Hid (Below w.heap.size w wFSPBC) := hide (hon.below HBwSPBC.out (by have h := HBw1d.out.size; omega))
          clear hx hon
          refine ⟨trivial, ?_⟩
          try simp only [Act.put]
          refine wpAnyH_done (by kernel_rfl) ?_ _
          go_wp2_with fail
          go_meet
          first
            | exact ⟨wCPB.heap.size, w1.drew.heap.size, wC.heap.size, wCP.heap.size, rfl, HFwFCPBS.out, HBwFCPBS.out⟩
            | exact ⟨wCP.heap.size, w1.drew.heap.size, wC.heap.size, wCPS.heap.size, rfl, HFwFCPSB.out, HBwFCPSB.out⟩
            | exact ⟨wCBP.heap.size, w1.drew.heap.size, wCB.heap.size, wC.heap.size, rfl, HFwFCBPS.out, HBwFCBPS.out⟩
            | exact ⟨wCB.heap.size, w1.drew.heap.size, wCBS.heap.size, wC.heap.size, rfl, HFwFCBSP.out, HBwFCBSP.out⟩
            | exact ⟨wC.heap.size, w1.drew.heap.size, wCS.heap.size, wCSP.heap.size, rfl, HFwFCSPB.out, HBwFCSPB.out⟩
            | exact ⟨wC.heap.size, w1.drew.heap.size, wCSB.heap.size, wCS.heap.size, rfl, HFwFCSBP.out, HBwFCSBP.out⟩
            | exact ⟨wPCB.heap.size, wP.heap.size, w1.drew.heap.size, wPC.heap.size, rfl, HFwFPCBS.out, HBwFPCBS.out⟩
            | exact ⟨wPC.heap.size, wP.heap.size, w1.drew.heap.size, wPCS.heap.size, rfl, HFwFPCSB.out, HBwFPCSB.out⟩
            | exact ⟨wPBC.heap.size, wPB.heap.size, w1.drew.heap.size, wP.heap.size, rfl, HFwFPBCS.out, HBwFPBCS.out⟩
            | exact ⟨wPB.heap.size, wPBS.heap.size, w1.drew.heap.size, wP.heap.size, rfl, HFwFPBSC.out, HBwFPBSC.out⟩
            | exact ⟨wP.heap.size, wPS.heap.size, w1.drew.heap.size, wPSC.heap.size, rfl, HFwFPSCB.out, HBwFPSCB.out⟩
            | exact ⟨wP.heap.size, wPSB.heap.size, w1.drew.heap.size, wPS.heap.size, rfl, HFwFPSBC.out, HBwFPSBC.out⟩
            | exact ⟨wBCP.heap.size, wB.heap.size, wBC.heap.size, w1.drew.heap.size, rfl, HFwFBCPS.out, HBwFBCPS.out⟩
            | exact ⟨wBC.heap.size, wB.heap.size, wBCS.heap.size, w1.drew.heap.size, rfl, HFwFBCSP.out, HBwFBCSP.out⟩
            | exact ⟨wBPC.heap.size, wBP.heap.size, wB.heap.size, w1.drew.heap.size, rfl, HFwFBPCS.out, HBwFBPCS.out⟩
            | exact ⟨wBP.heap.size, wBPS.heap.size, wB.heap.size, w1.drew.heap.size, rfl, HFwFBPSC.out, HBwFBPSC.out⟩
            | exact ⟨wB.heap.size, wBS.heap.size, wBSC.heap.size, w1.drew.heap.size, rfl, HFwFBSCP.out, HBwFBSCP.out⟩
            | exact ⟨wB.heap.size, wBSP.heap.size, wBS.heap.size, w1.drew.heap.size, rfl, HFwFBSPC.out, HBwFBSPC.out⟩
            | exact ⟨w1.drew.heap.size, wS.heap.size, wSC.heap.size, wSCP.heap.size, rfl, HFwFSCPB.out, HBwFSCPB.out⟩
            | exact ⟨w1.drew.heap.size, wS.heap.size, wSCB.heap.size, wSC.heap.size, rfl, HFwFSCBP.out, HBwFSCBP.out⟩
            | exact ⟨w1.drew.heap.size, wSP.heap.size, wS.heap.size, wSPC.heap.size, rfl, HFwFSPCB.out, HBwFSPCB.out⟩
            | exact ⟨w1.drew.heap.size, wSPB.heap.size, wS.heap.size, wSP.heap.size, rfl, HFwFSPBC.out, HBwFSPBC.out⟩
            | exact ⟨w1.drew.heap.size, wSB.heap.size, wSBC.heap.size, wS.heap.size, rfl, HFwFSBCP.out, HBwFSBCP.out⟩
            | exact ⟨w1.drew.heap.size, wSBP.heap.size, wSB.heap.size, wS.heap.size, rfl, HFwFSBPC.out, HBwFSBPC.out⟩
      · refine op_make 10 (some 24) 24 (.tmp 23) (.tmp 23) (by rfl) Try.underlying24 inf_shift n rfl rfl (by omega) ?_
        intro wSB hx hb
        have HBwSB := Lib.hid (HBwS.out.trans (hb.mono HBwS.out.size))
        have HX10wSB := Lib.hid hx
        have HX12wSB := Lib.hid (HX12wS.out.below hb HX12wS.out.lt)
        have hl12_10wSB : w1.drew.heap.size < wS.heap.size := HX12wS.out.lt
        clear hx hb
        refine ⟨trivial, ?_⟩
        try simp only [Act.put, List.setIfInBounds_toArray, List.set_cons_zero, List.set_cons_succ]
        refine held_two 4 7 (by kernel_rfl) ?_ ?_
        · refine op_make 4 (some 18) 44 (.tmp 17) (.tmp 17) (by rfl) Try.underlying44 inf_bools n rfl rfl (by omega) ?_
          intro wSBC hx hb
          have HBwSBC := Lib.hid (HBwSB.out.trans (hb.mono HBwSB.out.size))
          have HX4wSBC := Lib.hid hx
          have HX12wSBC := Lib.hid (HX12wSB.out.below hb HX12wSB.out.lt)
          have hl12_4wSBC : w1.drew.heap.size < wSB.heap.size := HX12wSB.out.lt
          have HX10wSBC := Lib.hid (HX10wSB.out.below hb HX10wSB.out.lt)
          have hl10_4wSBC : wS.heap.size < wSB.heap.size := HX10wSB.out.lt
          clear hx hb
          refine ⟨trivial, ?_⟩
          try simp only [Act.put, List.setIfInBounds_toArray, List.set_cons_zero, List.set_cons_succ]
          refine held_one 7 (by kernel_rfl) ?_
          refine op_make 7 (some 21) 24 (.tmp 20) (.tmp 20) (by rfl) Try.underlying24 inf_shift n rfl rfl (by omega) ?_
          intro wSBCP hx hb
          have HBwSBCP := Lib.hid (HBwSBC.out.trans (hb.mono HBwSBC.out.size))
          have HX7wSBCP := Lib.hid hx
          have HX12wSBCP := Lib.hid (HX12wSBC.out.below hb HX12wSBC.out.lt)
          have hl12_7wSBCP : w1.drew.heap.size < wSBC.heap.size := HX12wSBC.out.lt
          have HX10wSBCP := Lib.hid (HX10wSBC.out.below hb HX10wSBC.out.lt)
          have hl10_7wSBCP : wS.heap.size < wSBC.heap.size := HX10wSBC.out.lt
          have HX4wSBCP := Lib.hid (HX4wSBC.out.below hb HX4wSBC.out.lt)
          have hl4_7wSBCP : wSB.heap.size < wSBC.heap.size := HX4wSBC.out.lt
          clear hx hb
          refine ⟨trivial, ?_⟩
          try simp only [Act.put, List.setIfInBounds_toArray, List.set_cons_zero, List.set_cons_succ]
          refine held_run 11 (some 25) (.build 46 #[(0, (.tmp 14)), (1, (.tmp 15)), (2, (.tmp 18)), (3, (.tmp 21)), (4, (.tmp 24)), (5, .const (.int .i64 1))]) ?v3_1_116 (by rfl) (by kernel_rfl) (by kernel_rfl) (by kernel_rfl) (fun _ _ _ h => h) (fun o ho w hS => ?y3_1_116) (by assumption) ?r3_1_116
          case y3_1_116 => (try dsimp only at hS); unfold execOp; simp only [ho]; go_simp; try with_reducible rfl
          try simp only [Act.put, List.setIfInBounds_toArray, List.set_cons_zero, List.set_cons_succ]
          refine held_one 13 (by kernel_rfl) ?_
          refine op_store_blk 13 46 (.tmp 5) (.tmp 25) (by rfl) (w1.drew.heap.size) #[.slice A n c, .slice B nw cw, .slice (some ⟨wSB.heap.size, 0, none⟩) n n, .slice (some ⟨wSBC.heap.size, 0, none⟩) n n, .slice (some ⟨wS.heap.size, 0, none⟩) n n, .int .i64 1] rfl rfl _ _ (HX12wSBCP.out) (by kernel_rfl) rfl (by simp [Value.oneCell']) ?_
          intro wFSBCP hx hon
          have HFwFSBCP : Hid (FrM wFSBCP lo (w1.drew.heap.size) (wSB.heap.size) (wSBC.heap.size) (wS.heap.size) A n c B nw cw) := hide ⟨hx, hon.blk HX4wSBCP.out (by omega), hon.blk HX7wSBCP.out (by omega), hon.blk HX10wSBCP.out (by omega), by have h := HBw1d.out.size; omega, by omega⟩
          have HBwFSBCP : Hid (Below w.heap.size w wFSBCP) := hide (hon.below HBwSBCP.out (by have h := HBw1d.out.size; omega))
          clear hx hon
          refine ⟨trivial, ?_⟩
          try simp only [Act.put]
          refine wpAnyH_done (by kernel_rfl) ?_ _
          go_wp2_with fail
          go_meet
          first
            | exact ⟨wCPB.heap.size, w1.drew.heap.size, wC.heap.size, wCP.heap.size, rfl, HFwFCPBS.out, HBwFCPBS.out⟩
            | exact ⟨wCP.heap.size, w1.drew.heap.size, wC.heap.size, wCPS.heap.size, rfl, HFwFCPSB.out, HBwFCPSB.out⟩
            | exact ⟨wCBP.heap.size, w1.drew.heap.size, wCB.heap.size, wC.heap.size, rfl, HFwFCBPS.out, HBwFCBPS.out⟩
            | exact ⟨wCB.heap.size, w1.drew.heap.size, wCBS.heap.size, wC.heap.size, rfl, HFwFCBSP.out, HBwFCBSP.out⟩
            | exact ⟨wC.heap.size, w1.drew.heap.size, wCS.heap.size, wCSP.heap.size, rfl, HFwFCSPB.out, HBwFCSPB.out⟩
            | exact ⟨wC.heap.size, w1.drew.heap.size, wCSB.heap.size, wCS.heap.size, rfl, HFwFCSBP.out, HBwFCSBP.out⟩
            | exact ⟨wPCB.heap.size, wP.heap.size, w1.drew.heap.size, wPC.heap.size, rfl, HFwFPCBS.out, HBwFPCBS.out⟩
            | exact ⟨wPC.heap.size, wP.heap.size, w1.drew.heap.size, wPCS.heap.size, rfl, HFwFPCSB.out, HBwFPCSB.out⟩
            | exact ⟨wPBC.heap.size, wPB.heap.size, w1.drew.heap.size, wP.heap.size, rfl, HFwFPBCS.out, HBwFPBCS.out⟩
            | exact ⟨wPB.heap.size, wPBS.heap.size, w1.drew.heap.size, wP.heap.size, rfl, HFwFPBSC.out, HBwFPBSC.out⟩
            | exact ⟨wP.heap.size, wPS.heap.size, w1.drew.heap.size, wPSC.heap.size, rfl, HFwFPSCB.out, HBwFPSCB.out⟩
            | exact ⟨wP.heap.size, wPSB.heap.size, w1.drew.heap.size, wPS.heap.size, rfl, HFwFPSBC.out, HBwFPSBC.out⟩
            | exact ⟨wBCP.heap.size, wB.heap.size, wBC.heap.size, w1.drew.heap.size, rfl, HFwFBCPS.out, HBwFBCPS.out⟩
            | exact ⟨wBC.heap.size, wB.heap.size, wBCS.heap.size, w1.drew.heap.size, rfl, HFwFBCSP.out, HBwFBCSP.out⟩
            | exact ⟨wBPC.heap.size, wBP.heap.size, wB.heap.size, w1.drew.heap.size, rfl, HFwFBPCS.out, HBwFBPCS.out⟩
            | exact ⟨wBP.heap.size, wBPS.heap.size, wB.heap.size, w1.drew.heap.size, rfl, HFwFBPSC.out, HBwFBPSC.out⟩
            | exact ⟨wB.heap.size, wBS.heap.size, wBSC.heap.size, w1.drew.heap.size, rfl, HFwFBSCP.out, HBwFBSCP.out⟩
            | exact ⟨wB.heap.size, wBSP.heap.size, wBS.heap.size, w1.drew.heap.size, rfl, HFwFBSPC.out, HBwFBSPC.out⟩
            | exact ⟨w1.drew.heap.size, wS.heap.size, wSC.heap.size, wSCP.heap.size, rfl, HFwFSCPB.out, HBwFSCPB.out⟩
            | exact ⟨w1.drew.heap.size, wS.heap.size, wSCB.heap.size, wSC.heap.size, rfl, HFwFSCBP.out, HBwFSCBP.out⟩
            | exact ⟨w1.drew.heap.size, wSP.heap.size, wS.heap.size, wSPC.heap.size, rfl, HFwFSPCB.out, HBwFSPCB.out⟩
            | exact ⟨w1.drew.heap.size, wSPB.heap.size, wS.heap.size, wSP.heap.size, rfl, HFwFSPBC.out, HBwFSPBC.out⟩
            | exact ⟨w1.drew.heap.size, wSB.heap.size, wSBC.heap.size, wS.heap.size, rfl, HFwFSBCP.out, HBwFSBCP.out⟩
            | exact ⟨w1.drew.heap.size, wSBP.heap.size, wSB.heap.size, wS.heap.size, rfl, HFwFSBPC.out, HBwFSBPC.out⟩
        · refine op_make 7 (some 21) 24 (.tmp 20) (.tmp 20) (by rfl) Try.underlying24 inf_shift n rfl rfl (by omega) ?_
          intro wSBP hx hb
          have HBwSBP := Lib.hid (HBwSB.out.trans (hb.mono HBwSB.out.size))
          have HX7wSBP := Lib.hid hx
          have HX12wSBP := Lib.hid (HX12wSB.out.below hb HX12wSB.out.lt)
          have hl12_7wSBP : w1.drew.heap.size < wSB.heap.size := HX12wSB.out.lt
          have HX10wSBP := Lib.hid (HX10wSB.out.below hb HX10wSB.out.lt)
          have hl10_7wSBP : wS.heap.size < wSB.heap.size := HX10wSB.out.lt
          clear hx hb
          refine ⟨trivial, ?_⟩
          try simp only [Act.put, List.setIfInBounds_toArray, List.set_cons_zero, List.set_cons_succ]
          refine held_one 4 (by kernel_rfl) ?_
          refine op_make 4 (some 18) 44 (.tmp 17) (.tmp 17) (by rfl) Try.underlying44 inf_bools n rfl rfl (by omega) ?_
          intro wSBPC hx hb
          have HBwSBPC := Lib.hid (HBwSBP.out.trans (hb.mono HBwSBP.out.size))
          have HX4wSBPC := Lib.hid hx
          have HX12wSBPC := Lib.hid (HX12wSBP.out.below hb HX12wSBP.out.lt)
          have hl12_4wSBPC : w1.drew.heap.size < wSBP.heap.size := HX12wSBP.out.lt
          have HX10wSBPC := Lib.hid (HX10wSBP.out.below hb HX10wSBP.out.lt)
          have hl10_4wSBPC : wS.heap.size < wSBP.heap.size := HX10wSBP.out.lt
          have HX7wSBPC := Lib.hid (HX7wSBP.out.below hb HX7wSBP.out.lt)
          have hl7_4wSBPC : wSB.heap.size < wSBP.heap.size := HX7wSBP.out.lt
          clear hx hb
          refine ⟨trivial, ?_⟩
          try simp only [Act.put, List.setIfInBounds_toArray, List.set_cons_zero, List.set_cons_succ]
          refine held_run 11 (some 25) (.build 46 #[(0, (.tmp 14)), (1, (.tmp 15)), (2, (.tmp 18)), (3, (.tmp 21)), (4, (.tmp 24)), (5, .const (.int .i64 1))]) ?v3_1_120 (by rfl) (by kernel_rfl) (by kernel_rfl) (by kernel_rfl) (fun _ _ _ h => h) (fun o ho w hS => ?y3_1_120) (by assumption) ?r3_1_120
          case y3_1_120 => (try dsimp only at hS); unfold execOp; simp only [ho]; go_simp; try with_reducible rfl
          try simp only [Act.put, List.setIfInBounds_toArray, List.set_cons_zero, List.set_cons_succ]
          refine held_one 13 (by kernel_rfl) ?_
          refine op_store_blk 13 46 (.tmp 5) (.tmp 25) (by rfl) (w1.drew.heap.size) #[.slice A n c, .slice B nw cw, .slice (some ⟨wSBP.heap.size, 0, none⟩) n n, .slice (some ⟨wSB.heap.size, 0, none⟩) n n, .slice (some ⟨wS.heap.size, 0, none⟩) n n, .int .i64 1] rfl rfl _ _ (HX12wSBPC.out) (by kernel_rfl) rfl (by simp [Value.oneCell']) ?_
          intro wFSBPC hx hon
          have HFwFSBPC : Hid (FrM wFSBPC lo (w1.drew.heap.size) (wSBP.heap.size) (wSB.heap.size) (wS.heap.size) A n c B nw cw) := hide ⟨hx, hon.blk HX4wSBPC.out (by omega), hon.blk HX7wSBPC.out (by omega), hon.blk HX10wSBPC.out (by omega), by have h := HBw1d.out.size; omega, by omega⟩
          have HBwFSBPC : Hid (Below w.heap.size w wFSBPC) := hide (hon.below HBwSBPC.out (by have h := HBw1d.out.size; omega))
          clear hx hon
          refine ⟨trivial, ?_⟩
          try simp only [Act.put]
          refine wpAnyH_done (by kernel_rfl) ?_ _
          go_wp2_with fail
          go_meet
          first
            | exact ⟨wCPB.heap.size, w1.drew.heap.size, wC.heap.size, wCP.heap.size, rfl, HFwFCPBS.out, HBwFCPBS.out⟩
            | exact ⟨wCP.heap.size, w1.drew.heap.size, wC.heap.size, wCPS.heap.size, rfl, HFwFCPSB.out, HBwFCPSB.out⟩
            | exact ⟨wCBP.heap.size, w1.drew.heap.size, wCB.heap.size, wC.heap.size, rfl, HFwFCBPS.out, HBwFCBPS.out⟩
            | exact ⟨wCB.heap.size, w1.drew.heap.size, wCBS.heap.size, wC.heap.size, rfl, HFwFCBSP.out, HBwFCBSP.out⟩
            | exact ⟨wC.heap.size, w1.drew.heap.size, wCS.heap.size, wCSP.heap.size, rfl, HFwFCSPB.out, HBwFCSPB.out⟩
            | exact ⟨wC.heap.size, w1.drew.heap.size, wCSB.heap.size, wCS.heap.size, rfl, HFwFCSBP.out, HBwFCSBP.out⟩
            | exact ⟨wPCB.heap.size, wP.heap.size, w1.drew.heap.size, wPC.heap.size, rfl, HFwFPCBS.out, HBwFPCBS.out⟩
            | exact ⟨wPC.heap.size, wP.heap.size, w1.drew.heap.size, wPCS.heap.size, rfl, HFwFPCSB.out, HBwFPCSB.out⟩
            | exact ⟨wPBC.heap.size, wPB.heap.size, w1.drew.heap.size, wP.heap.size, rfl, HFwFPBCS.out, HBwFPBCS.out⟩
            | exact ⟨wPB.heap.size, wPBS.heap.size, w1.drew.heap.size, wP.heap.size, rfl, HFwFPBSC.out, HBwFPBSC.out⟩
            | exact ⟨wP.heap.size, wPS.heap.size, w1.drew.heap.size, wPSC.heap.size, rfl, HFwFPSCB.out, HBwFPSCB.out⟩
            | exact ⟨wP.heap.size, wPSB.heap.size, w1.drew.heap.size, wPS.heap.size, rfl, HFwFPSBC.out, HBwFPSBC.out⟩
            | exact ⟨wBCP.heap.size, wB.heap.size, wBC.heap.size, w1.drew.heap.size, rfl, HFwFBCPS.out, HBwFBCPS.out⟩
            | exact ⟨wBC.heap.size, wB.heap.size, wBCS.heap.size, w1.drew.heap.size, rfl, HFwFBCSP.out, HBwFBCSP.out⟩
            | exact ⟨wBPC.heap.size, wBP.heap.size, wB.heap.size, w1.drew.heap.size, rfl, HFwFBPCS.out, HBwFBPCS.out⟩
            | exact ⟨wBP.heap.size, wBPS.heap.size, wB.heap.size, w1.drew.heap.size, rfl, HFwFBPSC.out, HBwFBPSC.out⟩
            | exact ⟨wB.heap.size, wBS.heap.size, wBSC.heap.size, w1.drew.heap.size, rfl, HFwFBSCP.out, HBwFBSCP.out⟩
            | exact ⟨wB.heap.size, wBSP.heap.size, wBS.heap.size, w1.drew.heap.size, rfl, HFwFBSPC.out, HBwFBSPC.out⟩
            | exact ⟨w1.drew.heap.size, wS.heap.size, wSC.heap.size, wSCP.heap.size, rfl, HFwFSCPB.out, HBwFSCPB.out⟩
            | exact ⟨w1.drew.heap.size, wS.heap.size, wSCB.heap.size, wSC.heap.size, rfl, HFwFSCBP.out, HBwFSCBP.out⟩
            | exact ⟨w1.drew.heap.size, wSP.heap.size, wS.heap.size, wSPC.heap.size, rfl, HFwFSPCB.out, HBwFSPCB.out⟩
            | exact ⟨w1.drew.heap.size, wSPB.heap.size, wS.heap.size, wSP.heap.size, rfl, HFwFSPBC.out, HBwFSPBC.out⟩
            | exact ⟨w1.drew.heap.size, wSB.heap.size, wSBC.heap.size, wS.heap.size, rfl, HFwFSBCP.out, HBwFSBCP.out⟩
            | exact ⟨w1.drew.heap.size, wSBP.heap.size, wSB.heap.size, wS.heap.size, rfl, HFwFSBPC.out, HBwFSBPC.out⟩
  obtain ⟨gS, gC, gP, gB, rfl, hF, hcut⟩ := hcut
  obtain ⟨w2, rfl⟩ : ∃ wk : World, wk = wc := ⟨_, rfl⟩
  have HBu : Hid (BuM w2 lo gS gC gP gB A n c B nw cw ts ws 0 (List.replicate n (.slice none 0 0)) (1 + SQ 0)) := hide (by
    have h := hF.bu (ts := ts) (ws := ws) hn6 (by rw [← hlo]; exact HR.out.below hcut) (by rw [← hlo]; exact HW.out.below hcut) (by rw [← hlo]; exact hcut.size)
    rw [HS0.out]
    exact h)
  have HB2 := Lib.hid hcut
  clear hF hcut HB1 HBw1d HR HW
  go_wp2_with fail
  go_loopg [28] n (fun gg q wr => ∃ (i : Nat) (vs : List Value), i ≤ n ∧ gg + i = n ∧ q = .int .i64 i ∧ BuM wr lo gS gC gP gB A n c B nw cw ts ws i vs (1 + SQ i) ∧ Below w.heap.size w wr)
  case atStart => exact ⟨0, _, by omega, rfl, rfl, HBu.out, HB2.out⟩
  case round =>
    clear HBu HB2
    obtain ⟨i, vs, hi, hgi, rfl, hM, hbr⟩ := hrel
    obtain ⟨wo, rfl⟩ : ∃ wo : World, wo = wr := ⟨_, rfl⟩
    have HM := Lib.hid hM
    have HB := Lib.hid hbr
    clear hM hbr
    by_cases hlt : i < n
    · obtain ⟨ad, z, rfl, hab, hcl, hz⟩ := HM.out.ts.at_ hlt
      have hsec := HSec.out i hlt
      have hcl6 := HCl6.out i hlt
      have hseq := HSeq.out i hi
      have HSn := Lib.hid (HSs.out i)
      have HAi : Hid (∀ j, clashT (ts.getD i tk0) (ts.getD j tk0) = clashT (ts.getD i tk0) (ts.getD j tk0)) := fun j => rfl
      obtain ⟨a, ha⟩ : ∃ a, ts.getD i tk0 = a := ⟨_, rfl⟩
      have HAe := Lib.hid ha
      rw [ha] at hcl hz hsec hcl6 HSn
      obtain ⟨run, sec, win, cl⟩ := a
      obtain ⟨Az, nz, cz, rfl, _, _, _, _⟩ := hz.nam
      have HCl2 : Hid (∀ i' u, ([.int .i64 run, .int .i64 sec, .bool win, .slice Az nz cz] : List Value)[i']? = some u → wo.cell? ((ad.add (i * 4)).add i') = some u) := hcl
      have HZ : Hid (RowV wo lo (.slice Az nz cz) cl) := hz
      simp only at hsec HSn hcl6
      obtain ⟨en, hen⟩ : ∃ x, 1 + SQ i = x := ⟨_, rfl⟩
      rw [hen] at HM
      have hen2 : 0 ≤ en ∧ en ≤ 700000 := by omega
      have HEn : Hid (en + sec = 1 + SQ (i + 1)) := hide (by rw [HSn.out, ← hen]; omega)
      clear hcl hz ha hen hseq HAi
      go_upto_region 7 with (refine wpList_load_at 34 (.tmp 31) rfl rfl (ad.add (i * 4)) rfl [.int .i64 run, .int .i64 sec, .bool win, .slice Az nz cz] HCl2.out _ Try.underlying34 rfl (by kernel_rfl) ?_)
      have HBw3 := (Blk.new wo 34 #[.int .i64 run, .int .i64 sec, .bool win, .slice Az nz cz])
      have HLw3 := (below_new wo (.cells #[.int .i64 run, .int .i64 sec, .bool win, .slice Az nz cz] 34))
      have hsw3 : (wo.alloc (.cells #[.int .i64 run, .int .i64 sec, .bool win, .slice Az nz cz] 34)).heap.size = wo.heap.size + 1 := by simp
      generalize wo.alloc (.cells #[.int .i64 run, .int .i64 sec, .bool win, .slice Az nz cz] 34) = w3 at HBw3 HLw3 hsw3 ⊢
      replace HBw3 := Lib.hid HBw3
      replace HLw3 := Lib.hid HLw3
      have hlw3 : wo.heap.size < w3.heap.size := by omega
      replace hsw3 := Lib.hid hsw3
      have HM3 := Lib.hid (HM.out.below HLw3.out)
      have HB3 := Lib.hid (HB.out.trans (HLw3.out.mono HB.out.size))
      have HA3 := HBw3
      have hgA3 : wo.heap.size < w3.heap.size := hlw3
      have hbk : gS < wo.heap.size ∧ gC < wo.heap.size ∧ gP < wo.heap.size ∧ gB < wo.heap.size := ⟨HM.out.st.lt, (World.ownsRow.lt HM.out.cl gC rfl).2, (World.ownsRow.lt HM.out.pl gP rfl).2, (World.ownsRow.lt HM.out.be gB rfl).2⟩
      have HZ3 : Hid (RowV w3 lo (.slice Az nz cz) cl) := hide (HZ.out.below (HLw3.out.mono HM.out.low.1))
      clear HBw3 HLw3 hsw3 hlw3 HCl2 HM HB HZ
      have y1 : w3.cell? ⟨wo.heap.size, 1, none⟩ = some (.int .i64 sec) := HA3.out.cell 1
      have s5 : w3.cell? ⟨gS, 5, none⟩ = some (.int .i64 en) := HM3.out.st.cell 5
      go_upto_region 8 with
        (refine wpList_store_field 3 (.tmp 38) (.tmp 37) rfl rfl gS 5 (.int .i64 (en + sec)) rfl rfl 46 _ HM3.out.st (by kernel_rfl) (by simp) rfl rfl ?_
         intro w4 hx4 hon4
         have HM4 : Hid (BuM w4 lo gS gC gP gB (some ad) n c B nw cw ts ws i vs (1 + SQ (i + 1))) := hide (HM3.out.setE hon4 (by rw [← HEn.out]; exact hx4))
         have HA4 := Lib.hid (hon4.blk HA3.out (by omega))
         have HB4 : Hid (Below w.heap.size w w4) := hide (hon4.below HB3.out (by rw [hlo]; exact HM3.out.low.2.1))
         have HZ4 : Hid (RowV w4 lo (.slice Az nz cz) cl) := hide (HZ3.out.keep fun p hp => hon4.cell (by have := HM3.out.low.2.1; omega))
         have hgA4 : wo.heap.size < w4.heap.size := by rw [hon4.size]; exact hgA3
         clear hx4 hon4)
      clear y1 s5 HM3 HA3 HB3 HZ3 hgA3
      obtain ⟨b0, hb0⟩ : ∃ x, w4.heap.size = x := ⟨_, rfl⟩
      have HB0 := Lib.hid hb0
      have hb0' : wo.heap.size < b0 := by omega
      have hvi := HM4.out.rest i (Nat.le_refl _) hlt
      have HCl0 := Lib.hid HM4.out.cl
      clear hb0
      go_wp2_with fail
      go_loopg [41] n (fun g2 q wr => ∃ (j : Nat) (v : Value) (xs : List Value), j ≤ n ∧ g2 + j = n ∧ q = .int .i64 j ∧ xs = (List.range j).map (fun q => Value.bool (clashT (ts.getD i tk0) (ts.getD q tk0))) ∧ wr.ownsRow b0 4 1 v j xs ∧ wr.ownsRow lo 23 1 (.slice (some ⟨gC, 0, none⟩) n n) n (vs.set i v) ∧ b0 ≤ wr.heap.size ∧ (∀ q, q < b0 → q ≠ gC → wr.heap[q]? = w4.heap[q]?) ∧ Below lo w4 wr)
      case atStart => exact ⟨0, .slice none 0 0, [], by omega, rfl, rfl, rfl, World.ownsRow_nil _ _ _ _, by rw [set_same hvi]; exact HCl0.out, by rw [HB0.out]; exact Nat.le_refl _, fun _ _ _ => rfl, Below.refl _ _⟩
      case round =>
        obtain ⟨j, v, xs, hj, hgj, rfl, hxs, hov, hoc, hbs, hkp, hbl⟩ := hrel
        obtain ⟨wi, rfl⟩ : ∃ wi : World, wi = wr := ⟨_, rfl⟩
        have HXs := Lib.hid hxs
        have HOv := Lib.hid hov
        have HOc := Lib.hid hoc
        have HKp : Hid (∀ q, q < b0 → q ≠ gC → wi.heap[q]? = w4.heap[q]?) := hide hkp
        have HBl := Lib.hid hbl
        clear hxs hov hoc hkp hbl
        have hXA : Blk wi wo.heap.size 34 #[.int .i64 run, .int .i64 sec, .bool win, .slice Az nz cz] := (HKp.out _ hb0' (by omega)).trans HA4.out
        have hXS : Blk wi gS 46 #[.slice (some ad) n c, .slice B nw cw, .slice (some ⟨gC, 0, none⟩) n n, .slice (some ⟨gP, 0, none⟩) n n, .slice (some ⟨gB, 0, none⟩) n n, .int .i64 (1 + SQ (i + 1))] := (HKp.out gS (by omega) HM4.out.ne.2.1).trans HM4.out.st
        by_cases hlt2 : j < n
        · obtain ⟨ad', z2, e', hab', hclj, hzj⟩ := (HM4.out.ts.below HBl.out).at_ hlt2
          injection e' with e'
          subst e'
          have hcj6 := HCl6.out j hlt2
          have HSn2 : Hid (((List.range (j + 1)).map (fun q => Value.bool (clashT (ts.getD i tk0) (ts.getD q tk0)))) = xs ++ [.bool (clashT ⟨run, sec, win, cl⟩ (ts.getD j tk0))]) := hide (by rw [List.range_succ, List.map_append, ← HXs.out, HAe.out]; rfl)
          generalize ts.getD j tk0 = bt at *
          obtain ⟨brun, bsec, bwin, bcl⟩ := bt
          obtain ⟨Ay, ny, cy, rfl, _, _, _, _⟩ := hzj.nam
          have HCj : Hid (∀ i' u, ([.int .i64 brun, .int .i64 bsec, .bool bwin, .slice Ay ny cy] : List Value)[i']? = some u → wi.cell? ((ad.add (j * 4)).add i') = some u) := hclj
          have HZj : Hid (RowV wi lo (.slice Ay ny cy) bcl) := hzj
          have HZi : Hid (RowV wi lo (.slice Az nz cz) cl) := hide (HZ4.out.below HBl.out)
          simp only at hcj6
          obtain ⟨cb, hcb⟩ : ∃ b, clashT ⟨run, sec, win, cl⟩ ⟨brun, bsec, bwin, bcl⟩ = b := ⟨_, rfl⟩
          have HCb := Lib.hid hcb
          rw [hcb] at HSn2
          have hgSb : gS < wi.heap.size := hXS.lt
          have hgAb : wo.heap.size < wi.heap.size := hXA.lt
          clear hclj hzj hcb
          go_upto_region 11 with (refine wpList_load_at 34 (.tmp 43) rfl rfl (ad.add (j * 4)) rfl [.int .i64 brun, .int .i64 bsec, .bool bwin, .slice Ay ny cy] HCj.out _ Try.underlying34 rfl (by kernel_rfl) ?_)
          have HBw5 := (Blk.new wi 34 #[.int .i64 brun, .int .i64 bsec, .bool bwin, .slice Ay ny cy])
          have HLw5 := (below_new wi (.cells #[.int .i64 brun, .int .i64 bsec, .bool bwin, .slice Ay ny cy] 34))
          have hsw5 : (wi.alloc (.cells #[.int .i64 brun, .int .i64 bsec, .bool bwin, .slice Ay ny cy] 34)).heap.size = wi.heap.size + 1 := by simp
          generalize wi.alloc (.cells #[.int .i64 brun, .int .i64 bsec, .bool bwin, .slice Ay ny cy] 34) = w5 at HBw5 HLw5 hsw5 ⊢
          replace HBw5 := Lib.hid HBw5
          replace HLw5 := Lib.hid HLw5
          have hlw5 : wi.heap.size < w5.heap.size := by omega
          replace hsw5 := Lib.hid hsw5
          have hb5 := HLw5.out
          have HB5 : Hid (Below wi.heap.size wi w5.drew) := hide hb5.drew
          have HXAd : Hid (Blk w5.drew wo.heap.size 34 #[.int .i64 run, .int .i64 sec, .bool win, .slice Az nz cz]) := hide (hXA.below HB5.out hgAb)
          have HXSd := Lib.hid (hXS.below HB5.out hgSb)
          have HXBd : Hid (Blk w5.drew wi.heap.size 34 #[.int .i64 brun, .int .i64 bsec, .bool bwin, .slice Ay ny cy]) := hide HBw5.out.drew
          have HOvd := Lib.hid (own_below HOv.out HB5.out (Nat.le_refl _))
          have HOcd := Lib.hid (own_below HOc.out HB5.out (Nat.le_refl _))
          have hgBd : wi.heap.size < w5.drew.heap.size := hlw5
          have hgCd : gC < w5.drew.heap.size := (World.ownsRow.lt HOcd.out gC rfl).2
          have hvsl : (vs.set i v).length = n := by have := HOc.out.1; simpa using this
          clear HBw5 HLw5 hsw5 hlw5 HCj hb5
          have hil : (i : Int) < (n : Int) := by omega
          have HSS : Hid (∀ W, Below w5.drew.heap.size w5.drew W → (fun W : World => W.cell? ⟨gS, 2, none⟩ = some (.slice (some ⟨gC, 0, none⟩) n n) ∧ Blk W wo.heap.size 34 #[.int .i64 run, .int .i64 sec, .bool win, .slice Az nz cz] ∧ Blk W wi.heap.size 34 #[.int .i64 brun, .int .i64 bsec, .bool bwin, .slice Ay ny cy]) W) := fun W hb => ⟨(HXSd.out.below hb HXSd.out.lt).cell 2, HXAd.out.below hb HXAd.out.lt, HXBd.out.below hb hgBd⟩
          have HCg : Hid (∀ (W : World) (u : Value), W.ownsRow lo 23 1 (.slice (some ⟨gC, 0, none⟩) n n) n (vs.set i u) → W.cell? ⟨gC, i, none⟩ = some u) := fun W u h => by
            have h1 := World.ownsRow.cells (g := gC) h rfl i u (by rw [List.getElem?_set_self (by rw [← hvsl, List.length_set] at hlt; exact hlt)])
            rwa [show (⟨gC, 0, none⟩ : Addr).add i = ⟨gC, i, none⟩ by unfold Addr.add; split <;> simp_all] at h1
          have h0 := HSS.out _ (Below.refl _ _)
          have cg : w5.drew.cell? ⟨gC, i, none⟩ = some v := HCg.out _ _ HOcd.out
          have hlob : lo ≤ b0 := by rw [← HB0.out]; exact HM4.out.low.1
          clear hXA hXS
          refine wp_region_held_drew (S := (fun W : World => W.cell? ⟨gS, 2, none⟩ = some (.slice (some ⟨gC, 0, none⟩) n n) ∧ Blk W wo.heap.size 34 #[.int .i64 run, .int .i64 sec, .bool win, .slice Az nz cz] ∧ Blk W wi.heap.size 34 #[.int .i64 brun, .int .i64 bsec, .bool bwin, .slice Ay ny cy])) (by kernel_rfl) (h0) (fun hHeld => ?_)
          refine held_run 0 (some 45) (.fieldAddr 46 (.tmp 5) 2) ?v11_122_123 (by rfl) (by kernel_rfl) (by kernel_rfl) (by kernel_rfl) (fun _ _ _ h => h) (fun o ho w hS => ?y11_122_123) (by assumption) ?r11_122_123
          case y11_122_123 => (try dsimp only at hS); unfold execOp; simp only [ho]; go_simp; try with_reducible rfl
          try simp only [Act.put, List.setIfInBounds_toArray, List.set_cons_zero, List.set_cons_succ]
          refine held_run 1 (some 46) (.load 44 (.tmp 45)) ?v11_122_124 (by rfl) (by kernel_rfl) (by kernel_rfl) (by kernel_rfl) (fun _ _ _ h => h) (fun o ho w hS => ?y11_122_124) (by assumption) ?r11_122_124
          case y11_122_124 => (try dsimp only at hS); unfold execOp; simp only [ho]; go_simp; try with_reducible rfl
          try simp only [Act.put, List.setIfInBounds_toArray, List.set_cons_zero, List.set_cons_succ]
          refine held_run 2 (some 47) (.move (.tmp 6)) ?v11_122_125 (by rfl) (by kernel_rfl) (by kernel_rfl) (by kernel_rfl) (fun _ _ _ h => h) (fun o ho w hS => ?y11_122_125) (by assumption) ?r11_122_125
          case y11_122_125 => (try dsimp only at hS); unfold execOp; simp only [ho]; go_simp; try with_reducible rfl
          try simp only [Act.put, List.setIfInBounds_toArray, List.set_cons_zero, List.set_cons_succ]
          refine held_run 3 (some 48) (.fieldAddr 46 (.tmp 5) 2) ?v11_122_126 (by rfl) (by kernel_rfl) (by kernel_rfl) (by kernel_rfl) (fun _ _ _ h => h) (fun o ho w hS => ?y11_122_126) (by assumption) ?r11_122_126
          case y11_122_126 => (try dsimp only at hS); unfold execOp; simp only [ho]; go_simp; try with_reducible rfl
          try simp only [Act.put, List.setIfInBounds_toArray, List.set_cons_zero, List.set_cons_succ]
          refine held_run 4 (some 49) (.load 44 (.tmp 48)) ?v11_122_127 (by rfl) (by kernel_rfl) (by kernel_rfl) (by kernel_rfl) (fun _ _ _ h => h) (fun o ho w hS => ?y11_122_127) (by assumption) ?r11_122_127
          case y11_122_127 => (try dsimp only at hS); unfold execOp; simp only [ho]; go_simp; try with_reducible rfl
          try simp only [Act.put, List.setIfInBounds_toArray, List.set_cons_zero, List.set_cons_succ]
          refine held_run 5 (some 50) (.move (.tmp 6)) ?v11_122_128 (by rfl) (by kernel_rfl) (by kernel_rfl) (by kernel_rfl) (fun _ _ _ h => h) (fun o ho w hS => ?y11_122_128) (by assumption) ?r11_122_128
          case y11_122_128 => (try dsimp only at hS); unfold execOp; simp only [ho]; go_simp; try with_reducible rfl
          try simp only [Act.put, List.setIfInBounds_toArray, List.set_cons_zero, List.set_cons_succ]
          refine held_run 6 (some 51) (.indexAddr 44 (.tmp 49) (.tmp 50)) ?v11_122_129 (by rfl) (by kernel_rfl) (by kernel_rfl) (by kernel_rfl) (fun _ _ _ h => h) (fun o ho w hS => ?y11_122_129) (by assumption) ?r11_122_129
          case y11_122_129 => (try dsimp only at hS); unfold execOp; simp only [ho]; go_simp; try with_reducible rfl
          try simp only [Act.put, List.setIfInBounds_toArray, List.set_cons_zero, List.set_cons_succ]
          refine held_load 8 (some 53) 34 (.tmp 7) (by rfl) (by kernel_rfl) (by kernel_rfl) (by kernel_rfl) (wo.heap.size) 34 #[.int .i64 run, .int .i64 sec, .bool win, .slice Az nz cz] (fun _ _ _ h => h) (by rfl) (fun _ h => h.2.1) _ Try.underlying34 rfl (by kernel_rfl) (by assumption) ?_
          try simp only [Act.put, List.setIfInBounds_toArray, List.set_cons_zero, List.set_cons_succ]
          refine held_load 9 (some 54) 34 (.tmp 9) (by rfl) (by kernel_rfl) (by kernel_rfl) (by kernel_rfl) (wi.heap.size) 34 #[.int .i64 brun, .int .i64 bsec, .bool bwin, .slice Ay ny cy] (fun _ _ _ h => h) (by rfl) (fun _ h => h.2.2) _ Try.underlying34 rfl (by kernel_rfl) (by assumption) ?_
          try simp only [Act.put, List.setIfInBounds_toArray, List.set_cons_zero, List.set_cons_succ]
          refine held_two 7 10 (by kernel_rfl) ?_ ?_
          · refine op_yield 7 (some 52) (.load 23 (.tmp 51)) ?v11_122_132 (by rfl) (fun o ho => ?y11_122_132) ?r11_122_132
            case y11_122_132 => unfold execOp; simp only [ho]; go_simp; try with_reducible rfl
            refine ⟨by assumption, ?_⟩
            try simp only [Act.put, List.setIfInBounds_toArray, List.set_cons_zero, List.set_cons_succ]
            refine held_call 10 (some 55) 13 [(.tmp 53), (.tmp 54)] #[34, 34] #[.agg #[.int .i64 run, .int .i64 sec, .bool win, .slice Az nz cz], .agg #[.int .i64 brun, .int .i64 bsec, .bool bwin, .slice Ay ny cy]] (by rfl) (by rfl) (by kernel_rfl) Try.func13 (by rfl) (by rfl) ?_
            refine (rclash_any ⟨run, sec, win, cl⟩ ⟨brun, bsec, bwin, bcl⟩ _ _ _ ⟨_, rfl, ((HZi.out.more (Nat.le_trans hlob hbs)).now HB5.out)⟩ ⟨_, rfl, ((HZj.out.more (Nat.le_trans hlob hbs)).now HB5.out)⟩ hcl6 hcj6).mono ?_
            rintro e we ⟨rfl, hb⟩
            rw [HCb.out]
            have HBe := Lib.hid hb
            clear hb h0 cg
            have h0 := HSS.out _ HBe.out
            have cg : we.cell? ⟨gC, i, none⟩ = some v := HCg.out _ _ (own_below HOcd.out HBe.out (Nat.le_refl _))
            refine ⟨_, rfl, h0, ?_⟩
            try simp only [Act.put, List.setIfInBounds_toArray, List.set_cons_zero, List.set_cons_succ]
            refine held_one 11 (by kernel_rfl) ?_
            refine op_lit 11 (some 56) 23 4 1 #[(0, .tmp 55)] #[.bool cb] (by rfl) (by simp only [List.map_toArray, List.map_cons, List.map_nil]; exact run_litB (P := Try.prog) we 23 4 cb Try.underlying23 (by kernel_rfl)) ?_
            intro wf hx hb he
            have HLf := Lib.hid hx
            have HBf := Lib.hid (HBe.out.trans (hb.mono HBe.out.size))
            clear hx hb he h0 cg
            have h0 := HSS.out _ HBf.out
            have cg : wf.cell? ⟨gC, i, none⟩ = some v := HCg.out _ _ (own_below HOcd.out HBf.out (Nat.le_refl _))
            refine ⟨h0, ?_⟩
            try simp only [Act.put, List.setIfInBounds_toArray, List.set_cons_zero, List.set_cons_succ]
            refine held_one 12 (by kernel_rfl) ?_
            refine op_app ei_bools 12 (some 57) (.tmp 52) (.tmp 56) (by rfl) b0 v j xs rfl (own_below HOvd.out HBf.out (Nat.le_refl _)) wf.heap.size (some ⟨we.heap.size, 0, none⟩) 1 1 [.bool cb] rfl (reads_blk HLf.out rfl) (by simp [Value.oneCell']) (by simp only [maxLen]; omega) (by omega) (Nat.le_trans hbs (Nat.le_trans HB5.out.size HBf.out.size)) ?_
            intro v2 wg hown hg2 hb _
            have HOg := Lib.hid hown
            have HBg := Lib.hid hb
            have hvne : v.ownBlock = none ∨ v.ownBlock ≠ some gC := by
              by_cases hn0 : v.ownBlock = none
              · exact .inl hn0
              · refine .inr fun e => ?_
                have := (World.ownsRow.lt HOv.out gC e).1
                omega
            have HKg : Hid (∀ q, q < b0 → wg.heap[q]? = wi.heap[q]?) := hide fun q hq => (hb.block q hq).trans ((HBf.out.block q (Nat.lt_of_lt_of_le hq (Nat.le_trans hbs HB5.out.size))).trans (HB5.out.block q (Nat.lt_of_lt_of_le hq hbs)))
            have HOcg : Hid (wg.ownsRow lo 23 1 (.slice (some ⟨gC, 0, none⟩) n n) n (vs.set i v)) := hide (World.ownsRow.kept (own_below HOcd.out HBf.out (Nat.le_refl _)) hg2 (.inr (fun e => hvne.elim (fun h => by rw [h] at e; cases e) fun h => h e.symm)))
            have HBlg : Hid (Below lo w4 wg) := hide (HBl.out.trans ((HB5.out.mono (Nat.le_trans hlob hbs)).trans ((HBf.out.mono (Nat.le_trans hlob (Nat.le_trans hbs HB5.out.size))).trans (hb.mono hlob))))
            have hbg : b0 ≤ wg.heap.size := Nat.le_trans hbs (Nat.le_trans HB5.out.size (Nat.le_trans HBf.out.size hg2.size))
            have HXSg : Hid (Blk wg gS 46 #[.slice (some ad) n c, .slice B nw cw, .slice (some ⟨gC, 0, none⟩) n n, .slice (some ⟨gP, 0, none⟩) n n, .slice (some ⟨gB, 0, none⟩) n n, .int .i64 (1 + SQ (i + 1))]) := hide ((HKg.out gS (by omega)).trans ((HKp.out gS (by omega) HM4.out.ne.2.1).trans HM4.out.st))
            have HXAg : Hid (Blk wg wo.heap.size 34 #[.int .i64 run, .int .i64 sec, .bool win, .slice Az nz cz]) := hide ((HKg.out _ hb0').trans ((HKp.out _ hb0' (by omega)).trans HA4.out))
            have HXBg : Hid (Blk wg wi.heap.size 34 #[.int .i64 brun, .int .i64 bsec, .bool bwin, .slice Ay ny cy]) := hide ((HXBd.out.below HBf.out hgBd).grown hg2 (Ne.symm (row_blk (own_below HOvd.out HBf.out (Nat.le_refl _)) (HXBd.out.below HBf.out hgBd) (by decide))))
            obtain ⟨A2, c2, rfl, _, _, _⟩ := own_open hown
            clear hown hg2 hb h0 cg
            have h0 : (fun W : World => W.cell? ⟨gS, 2, none⟩ = some (.slice (some ⟨gC, 0, none⟩) n n) ∧ Blk W wo.heap.size 34 #[.int .i64 run, .int .i64 sec, .bool win, .slice Az nz cz] ∧ Blk W wi.heap.size 34 #[.int .i64 brun, .int .i64 bsec, .bool bwin, .slice Ay ny cy]) wg := ⟨HXSg.out.cell 2, HXAg.out, HXBg.out⟩
            refine ⟨h0, ?_⟩
            try simp only [Act.put, List.setIfInBounds_toArray, List.set_cons_zero, List.set_cons_succ]
            refine held_run 13 (some 58) (.indexAddr 44 (.tmp 46) (.tmp 47)) ?v11_122_136 (by rfl) (by kernel_rfl) (by kernel_rfl) (by kernel_rfl) (fun _ _ _ h => h) (fun o ho w hS => ?y11_122_136) (by assumption) ?r11_122_136
            case y11_122_136 => (try dsimp only at hS); unfold execOp; simp only [ho]; go_simp; try with_reducible rfl
            try simp only [Act.put, List.setIfInBounds_toArray, List.set_cons_zero, List.set_cons_succ]
            refine held_one 14 (by kernel_rfl) ?_
            refine op_store_own 14 23 (.tmp 58) (.tmp 57) (by rfl) (HOcg.out) (i) (hlt) (.slice A2 (j + 1) c2) (by rfl) (by rfl) (by kernel_rfl) (rfl) (rfl) ?_
            intro wh hx hon
            have HOh : Hid (wh.ownsRow lo 23 1 (.slice (some ⟨gC, 0, none⟩) n n) n (vs.set i (.slice A2 (j + 1) c2))) := hide (by rw [List.set_set] at hx; exact hx)
            have HOvh : Hid (wh.ownsRow b0 4 1 (.slice A2 (j + 1) c2) (j + 1) (xs ++ [.bool cb])) := hide (hon.own HOg.out (fun e => by have := (World.ownsRow.lt HOg.out gC e).1; omega))
            have HKh : Hid (∀ q, q < b0 → q ≠ gC → wh.heap[q]? = w4.heap[q]?) := hide fun q hq hne => (hon.block q hne).trans ((HKg.out q hq).trans (HKp.out q hq hne))
            have HBlh : Hid (Below lo w4 wh) := hide (hon.below HBlg.out (by have := HM4.out.low; omega))
            have hbh : b0 ≤ wh.heap.size := by rw [hon.size]; exact hbg
            have h1 : (fun W : World => W.cell? ⟨gS, 2, none⟩ = some (.slice (some ⟨gC, 0, none⟩) n n) ∧ Blk W wo.heap.size 34 #[.int .i64 run, .int .i64 sec, .bool win, .slice Az nz cz] ∧ Blk W wi.heap.size 34 #[.int .i64 brun, .int .i64 bsec, .bool bwin, .slice Ay ny cy]) wh := ⟨(hon.blk HXSg.out HM4.out.ne.2.1).cell 2, hon.blk HXAg.out (by omega), hon.blk HXBg.out (by have h := HXBd.out.lt; omega)⟩
            clear hx hon h0
            have h0 := h1
            clear h1
            refine ⟨h0, ?_⟩
            try simp only [Act.put]
            refine wpAnyH_done (by kernel_rfl) ?_ _
            go_wp2_with fail
            go_roundg (n - (j + 1))
            case measure => omega
            case rel => exact ⟨j + 1, _, _, by omega, by omega, by go_num, HSn2.out.symm, HOvh.out, HOh.out, hbh, HKh.out, HBlh.out⟩
          · refine op_call 10 (some 55) 13 [(.tmp 53), (.tmp 54)] #[34, 34] #[.agg #[.int .i64 run, .int .i64 sec, .bool win, .slice Az nz cz], .agg #[.int .i64 brun, .int .i64 bsec, .bool bwin, .slice Ay ny cy]] (by rfl) (by rfl) Try.func13 (by rfl) (by rfl) ?_
            refine (rclash_any ⟨run, sec, win, cl⟩ ⟨brun, bsec, bwin, bcl⟩ _ _ _ ⟨_, rfl, ((HZi.out.more (Nat.le_trans hlob hbs)).now HB5.out)⟩ ⟨_, rfl, ((HZj.out.more (Nat.le_trans hlob hbs)).now HB5.out)⟩ hcl6 hcj6).mono ?_
            rintro e we ⟨rfl, hb⟩
            rw [HCb.out]
            have HBe := Lib.hid hb
            clear hb h0 cg
            have h0 := HSS.out _ HBe.out
            have cg : we.cell? ⟨gC, i, none⟩ = some v := HCg.out _ _ (own_below HOcd.out HBe.out (Nat.le_refl _))
            refine ⟨_, rfl, h0, ?_⟩
            try simp only [Act.put, List.setIfInBounds_toArray, List.set_cons_zero, List.set_cons_succ]
            refine held_two 7 11 (by kernel_rfl) ?_ ?_
            · refine op_yield 7 (some 52) (.load 23 (.tmp 51)) ?v11_122_139 (by rfl) (fun o ho => ?y11_122_139) ?r11_122_139
              case y11_122_139 => unfold execOp; simp only [ho]; go_simp; try with_reducible rfl
              refine ⟨by assumption, ?_⟩
              try simp only [Act.put, List.setIfInBounds_toArray, List.set_cons_zero, List.set_cons_succ]
              refine held_one 11 (by kernel_rfl) ?_
              refine op_lit 11 (some 56) 23 4 1 #[(0, .tmp 55)] #[.bool cb] (by rfl) (by simp only [List.map_toArray, List.map_cons, List.map_nil]; exact run_litB (P := Try.prog) we 23 4 cb Try.underlying23 (by kernel_rfl)) ?_
              intro wf hx hb he
              have HLf := Lib.hid hx
              have HBf := Lib.hid (HBe.out.trans (hb.mono HBe.out.size))
              clear hx hb he h0 cg
              have h0 := HSS.out _ HBf.out
              have cg : wf.cell? ⟨gC, i, none⟩ = some v := HCg.out _ _ (own_below HOcd.out HBf.out (Nat.le_refl _))
              refine ⟨h0, ?_⟩
              try simp only [Act.put, List.setIfInBounds_toArray, List.set_cons_zero, List.set_cons_succ]
              refine held_one 12 (by kernel_rfl) ?_
              refine op_app ei_bools 12 (some 57) (.tmp 52) (.tmp 56) (by rfl) b0 v j xs rfl (own_below HOvd.out HBf.out (Nat.le_refl _)) wf.heap.size (some ⟨we.heap.size, 0, none⟩) 1 1 [.bool cb] rfl (reads_blk HLf.out rfl) (by simp [Value.oneCell']) (by simp only [maxLen]; omega) (by omega) (Nat.le_trans hbs (Nat.le_trans HB5.out.size HBf.out.size)) ?_
              intro v2 wg hown hg2 hb _
              have HOg := Lib.hid hown
              have HBg := Lib.hid hb
              have hvne : v.ownBlock = none ∨ v.ownBlock ≠ some gC := by
                by_cases hn0 : v.ownBlock = none
                · exact .inl hn0
                · refine .inr fun e => ?_
                  have := (World.ownsRow.lt HOv.out gC e).1
                  omega
              have HKg : Hid (∀ q, q < b0 → wg.heap[q]? = wi.heap[q]?) := hide fun q hq => (hb.block q hq).trans ((HBf.out.block q (Nat.lt_of_lt_of_le hq (Nat.le_trans hbs HB5.out.size))).trans (HB5.out.block q (Nat.lt_of_lt_of_le hq hbs)))
              have HOcg : Hid (wg.ownsRow lo 23 1 (.slice (some ⟨gC, 0, none⟩) n n) n (vs.set i v)) := hide (World.ownsRow.kept (own_below HOcd.out HBf.out (Nat.le_refl _)) hg2 (.inr (fun e => hvne.elim (fun h => by rw [h] at e; cases e) fun h => h e.symm)))
              have HBlg : Hid (Below lo w4 wg) := hide (HBl.out.trans ((HB5.out.mono (Nat.le_trans hlob hbs)).trans ((HBf.out.mono (Nat.le_trans hlob (Nat.le_trans hbs HB5.out.size))).trans (hb.mono hlob))))
              have hbg : b0 ≤ wg.heap.size := Nat.le_trans hbs (Nat.le_trans HB5.out.size (Nat.le_trans HBf.out.size hg2.size))
              have HXSg : Hid (Blk wg gS 46 #[.slice (some ad) n c, .slice B nw cw, .slice (some ⟨gC, 0, none⟩) n n, .slice (some ⟨gP, 0, none⟩) n n, .slice (some ⟨gB, 0, none⟩) n n, .int .i64 (1 + SQ (i + 1))]) := hide ((HKg.out gS (by omega)).trans ((HKp.out gS (by omega) HM4.out.ne.2.1).trans HM4.out.st))
              have HXAg : Hid (Blk wg wo.heap.size 34 #[.int .i64 run, .int .i64 sec, .bool win, .slice Az nz cz]) := hide ((HKg.out _ hb0').trans ((HKp.out _ hb0' (by omega)).trans HA4.out))
              have HXBg : Hid (Blk wg wi.heap.size 34 #[.int .i64 brun, .int .i64 bsec, .bool bwin, .slice Ay ny cy]) := hide ((HXBd.out.below HBf.out hgBd).grown hg2 (Ne.symm (row_blk (own_below HOvd.out HBf.out (Nat.le_refl _)) (HXBd.out.below HBf.out hgBd) (by decide))))
              obtain ⟨A2, c2, rfl, _, _, _⟩ := own_open hown
              clear hown hg2 hb h0 cg
              have h0 : (fun W : World => W.cell? ⟨gS, 2, none⟩ = some (.slice (some ⟨gC, 0, none⟩) n n) ∧ Blk W wo.heap.size 34 #[.int .i64 run, .int .i64 sec, .bool win, .slice Az nz cz] ∧ Blk W wi.heap.size 34 #[.int .i64 brun, .int .i64 bsec, .bool bwin, .slice Ay ny cy]) wg := ⟨HXSg.out.cell 2, HXAg.out, HXBg.out⟩
              refine ⟨h0, ?_⟩
              try simp only [Act.put, List.setIfInBounds_toArray, List.set_cons_zero, List.set_cons_succ]
              refine held_run 13 (some 58) (.indexAddr 44 (.tmp 46) (.tmp 47)) ?v11_122_142 (by rfl) (by kernel_rfl) (by kernel_rfl) (by kernel_rfl) (fun _ _ _ h => h) (fun o ho w hS => ?y11_122_142) (by assumption) ?r11_122_142
              case y11_122_142 => (try dsimp only at hS); unfold execOp; simp only [ho]; go_simp; try with_reducible rfl
              try simp only [Act.put, List.setIfInBounds_toArray, List.set_cons_zero, List.set_cons_succ]
              refine held_one 14 (by kernel_rfl) ?_
              refine op_store_own 14 23 (.tmp 58) (.tmp 57) (by rfl) (HOcg.out) (i) (hlt) (.slice A2 (j + 1) c2) (by rfl) (by rfl) (by kernel_rfl) (rfl) (rfl) ?_
              intro wh hx hon
              have HOh : Hid (wh.ownsRow lo 23 1 (.slice (some ⟨gC, 0, none⟩) n n) n (vs.set i (.slice A2 (j + 1) c2))) := hide (by rw [List.set_set] at hx; exact hx)
              have HOvh : Hid (wh.ownsRow b0 4 1 (.slice A2 (j + 1) c2) (j + 1) (xs ++ [.bool cb])) := hide (hon.own HOg.out (fun e => by have := (World.ownsRow.lt HOg.out gC e).1; omega))
              have HKh : Hid (∀ q, q < b0 → q ≠ gC → wh.heap[q]? = w4.heap[q]?) := hide fun q hq hne => (hon.block q hne).trans ((HKg.out q hq).trans (HKp.out q hq hne))
              have HBlh : Hid (Below lo w4 wh) := hide (hon.below HBlg.out (by have := HM4.out.low; omega))
              have hbh : b0 ≤ wh.heap.size := by rw [hon.size]; exact hbg
              have h1 : (fun W : World => W.cell? ⟨gS, 2, none⟩ = some (.slice (some ⟨gC, 0, none⟩) n n) ∧ Blk W wo.heap.size 34 #[.int .i64 run, .int .i64 sec, .bool win, .slice Az nz cz] ∧ Blk W wi.heap.size 34 #[.int .i64 brun, .int .i64 bsec, .bool bwin, .slice Ay ny cy]) wh := ⟨(hon.blk HXSg.out HM4.out.ne.2.1).cell 2, hon.blk HXAg.out (by omega), hon.blk HXBg.out (by have h := HXBd.out.lt; omega)⟩
              clear hx hon h0
              have h0 := h1
              clear h1
              refine ⟨h0, ?_⟩
              try simp only [Act.put]
              refine wpAnyH_done (by kernel_rfl) ?_ _
              go_wp2_with fail
              go_roundg (n - (j + 1))
              case measure => omega
              case rel => exact ⟨j + 1, _, _, by omega, by omega, by go_num, HSn2.out.symm, HOvh.out, HOh.out, hbh, HKh.out, HBlh.out⟩
            · refine op_lit 11 (some 56) 23 4 1 #[(0, .tmp 55)] #[.bool cb] (by rfl) (by simp only [List.map_toArray, List.map_cons, List.map_nil]; exact run_litB (P := Try.prog) we 23 4 cb Try.underlying23 (by kernel_rfl)) ?_
              intro wf hx hb he
              have HLf := Lib.hid hx
              have HBf := Lib.hid (HBe.out.trans (hb.mono HBe.out.size))
              clear hx hb he h0 cg
              have h0 := HSS.out _ HBf.out
              have cg : wf.cell? ⟨gC, i, none⟩ = some v := HCg.out _ _ (own_below HOcd.out HBf.out (Nat.le_refl _))
              refine ⟨h0, ?_⟩
              try simp only [Act.put, List.setIfInBounds_toArray, List.set_cons_zero, List.set_cons_succ]
              refine held_one 7 (by kernel_rfl) ?_
              refine op_yield 7 (some 52) (.load 23 (.tmp 51)) ?v11_122_145 (by rfl) (fun o ho => ?y11_122_145) ?r11_122_145
              case y11_122_145 => unfold execOp; simp only [ho]; go_simp; try with_reducible rfl
              refine ⟨by assumption, ?_⟩
              try simp only [Act.put, List.setIfInBounds_toArray, List.set_cons_zero, List.set_cons_succ]
              refine held_one 12 (by kernel_rfl) ?_
              refine op_app ei_bools 12 (some 57) (.tmp 52) (.tmp 56) (by rfl) b0 v j xs rfl (own_below HOvd.out HBf.out (Nat.le_refl _)) wf.heap.size (some ⟨we.heap.size, 0, none⟩) 1 1 [.bool cb] rfl (reads_blk HLf.out rfl) (by simp [Value.oneCell']) (by simp only [maxLen]; omega) (by omega) (Nat.le_trans hbs (Nat.le_trans HB5.out.size HBf.out.size)) ?_
              intro v2 wg hown hg2 hb _
              have HOg := Lib.hid hown
              have HBg := Lib.hid hb
              have hvne : v.ownBlock = none ∨ v.ownBlock ≠ some gC := by
                by_cases hn0 : v.ownBlock = none
                · exact .inl hn0
                · refine .inr fun e => ?_
                  have := (World.ownsRow.lt HOv.out gC e).1
                  omega
              have HKg : Hid (∀ q, q < b0 → wg.heap[q]? = wi.heap[q]?) := hide fun q hq => (hb.block q hq).trans ((HBf.out.block q (Nat.lt_of_lt_of_le hq (Nat.le_trans hbs HB5.out.size))).trans (HB5.out.block q (Nat.lt_of_lt_of_le hq hbs)))
              have HOcg : Hid (wg.ownsRow lo 23 1 (.slice (some ⟨gC, 0, none⟩) n n) n (vs.set i v)) := hide (World.ownsRow.kept (own_below HOcd.out HBf.out (Nat.le_refl _)) hg2 (.inr (fun e => hvne.elim (fun h => by rw [h] at e; cases e) fun h => h e.symm)))
              have HBlg : Hid (Below lo w4 wg) := hide (HBl.out.trans ((HB5.out.mono (Nat.le_trans hlob hbs)).trans ((HBf.out.mono (Nat.le_trans hlob (Nat.le_trans hbs HB5.out.size))).trans (hb.mono hlob))))
              have hbg : b0 ≤ wg.heap.size := Nat.le_trans hbs (Nat.le_trans HB5.out.size (Nat.le_trans HBf.out.size hg2.size))
              have HXSg : Hid (Blk wg gS 46 #[.slice (some ad) n c, .slice B nw cw, .slice (some ⟨gC, 0, none⟩) n n, .slice (some ⟨gP, 0, none⟩) n n, .slice (some ⟨gB, 0, none⟩) n n, .int .i64 (1 + SQ (i + 1))]) := hide ((HKg.out gS (by omega)).trans ((HKp.out gS (by omega) HM4.out.ne.2.1).trans HM4.out.st))
              have HXAg : Hid (Blk wg wo.heap.size 34 #[.int .i64 run, .int .i64 sec, .bool win, .slice Az nz cz]) := hide ((HKg.out _ hb0').trans ((HKp.out _ hb0' (by omega)).trans HA4.out))
              have HXBg : Hid (Blk wg wi.heap.size 34 #[.int .i64 brun, .int .i64 bsec, .bool bwin, .slice Ay ny cy]) := hide ((HXBd.out.below HBf.out hgBd).grown hg2 (Ne.symm (row_blk (own_below HOvd.out HBf.out (Nat.le_refl _)) (HXBd.out.below HBf.out hgBd) (by decide))))
              obtain ⟨A2, c2, rfl, _, _, _⟩ := own_open hown
              clear hown hg2 hb h0 cg
              have h0 : (fun W : World => W.cell? ⟨gS, 2, none⟩ = some (.slice (some ⟨gC, 0, none⟩) n n) ∧ Blk W wo.heap.size 34 #[.int .i64 run, .int .i64 sec, .bool win, .slice Az nz cz] ∧ Blk W wi.heap.size 34 #[.int .i64 brun, .int .i64 bsec, .bool bwin, .slice Ay ny cy]) wg := ⟨HXSg.out.cell 2, HXAg.out, HXBg.out⟩
              refine ⟨h0, ?_⟩
              try simp only [Act.put, List.setIfInBounds_toArray, List.set_cons_zero, List.set_cons_succ]
              refine held_run 13 (some 58) (.indexAddr 44 (.tmp 46) (.tmp 47)) ?v11_122_147 (by rfl) (by kernel_rfl) (by kernel_rfl) (by kernel_rfl) (fun _ _ _ h => h) (fun o ho w hS => ?y11_122_147) (by assumption) ?r11_122_147
              case y11_122_147 => (try dsimp only at hS); unfold execOp; simp only [ho]; go_simp; try with_reducible rfl
              try simp only [Act.put, List.setIfInBounds_toArray, List.set_cons_zero, List.set_cons_succ]
              refine held_one 14 (by kernel_rfl) ?_
              refine op_store_own 14 23 (.tmp 58) (.tmp 57) (by rfl) (HOcg.out) (i) (hlt) (.slice A2 (j + 1) c2) (by rfl) (by rfl) (by kernel_rfl) (rfl) (rfl) ?_
              intro wh hx hon
              have HOh : Hid (wh.ownsRow lo 23 1 (.slice (some ⟨gC, 0, none⟩) n n) n (vs.set i (.slice A2 (j + 1) c2))) := hide (by rw [List.set_set] at hx; exact hx)
              have HOvh : Hid (wh.ownsRow b0 4 1 (.slice A2 (j + 1) c2) (j + 1) (xs ++ [.bool cb])) := hide (hon.own HOg.out (fun e => by have := (World.ownsRow.lt HOg.out gC e).1; omega))
              have HKh : Hid (∀ q, q < b0 → q ≠ gC → wh.heap[q]? = w4.heap[q]?) := hide fun q hq hne => (hon.block q hne).trans ((HKg.out q hq).trans (HKp.out q hq hne))
              have HBlh : Hid (Below lo w4 wh) := hide (hon.below HBlg.out (by have := HM4.out.low; omega))
              have hbh : b0 ≤ wh.heap.size := by rw [hon.size]; exact hbg
              have h1 : (fun W : World => W.cell? ⟨gS, 2, none⟩ = some (.slice (some ⟨gC, 0, none⟩) n n) ∧ Blk W wo.heap.size 34 #[.int .i64 run, .int .i64 sec, .bool win, .slice Az nz cz] ∧ Blk W wi.heap.size 34 #[.int .i64 brun, .int .i64 bsec, .bool bwin, .slice Ay ny cy]) wh := ⟨(hon.blk HXSg.out HM4.out.ne.2.1).cell 2, hon.blk HXAg.out (by omega), hon.blk HXBg.out (by have h := HXBd.out.lt; omega)⟩
              clear hx hon h0
              have h0 := h1
              clear h1
              refine ⟨h0, ?_⟩
              try simp only [Act.put]
              refine wpAnyH_done (by kernel_rfl) ?_ _
              go_wp2_with fail
              go_roundg (n - (j + 1))
              case measure => omega
              case rel => exact ⟨j + 1, _, _, by omega, by omega, by go_num, HSn2.out.symm, HOvh.out, HOh.out, hbh, HKh.out, HBlh.out⟩
        · obtain rfl : j = n := by omega
          have HNew : Hid (BuM wi lo gS gC gP gB (some ad) j c B nw cw ts ws (i + 1) (vs.set i v) (1 + SQ (i + 1))) := hide (by
            have hov := HOv.out
            refine HM4.out.row hlt (by rw [HB0.out]; exact hbs) (fun q hq hne => HKp.out q (by rw [← HB0.out]; exact hq) hne) HOc.out ?_
            rcases hov.2 with ⟨_, h0⟩ | ⟨g, cap, cur, hv, h1, h2, h3, _⟩
            · omega
            · subst hv
              refine ⟨g, cap, rfl, h3, (Array.getElem?_eq_some_iff.1 h2).1, by omega, fun q hq => ?_⟩
              have h4 := World.ownsRow.cells (g := g) hov rfl q (.bool (clashT (ts.getD i tk0) (ts.getD q tk0))) (by rw [HXs.out]; simp [hq])
              rwa [show (⟨g, 0, none⟩ : Addr).add q = ⟨g, q, none⟩ by unfold Addr.add; split <;> simp_all] at h4)
          have HBn : Hid (Below w.heap.size w wi) := hide (HB4.out.trans (by rw [hlo]; exact HBl.out))
          clear hXA hXS
          go_wp2_with fail
          go_roundg (j - (i + 1))
          case measure => omega
          case rel => exact ⟨i + 1, _, by omega, by omega, by go_num, HNew.out, HBn.out⟩
    · obtain rfl : i = n := by omega
      obtain ⟨rw_, rc, hK, hrc, hM⟩ := HM.out.done
      have HBd : Hid (BdP i i (List.replicate i sh0) 0 0) := hide ⟨Nat.le_refl _, fun j hj => by rw [show (List.replicate i sh0).getD j sh0 = sh0 by simp [List.getD_eq_getElem?_getD, List.getElem?_replicate, hj]]; simp [sh0], fun j hj _ => by simp [List.getD_eq_getElem?_getD, List.getElem?_replicate, hj], by simp, by simp⟩
      have HPl : Hid (Calls Try.prog 14 #[.pointer (some ⟨gS, 0, none⟩), .int .i64 (i : Int), .int .i64 0, .int .i64 0] wo (fun e w' => e = .returned (.tuple #[]) ∧ SeaM w' lo gS gC gP gB A i c B nw cw rw_ rc ts ws (List.replicate i sh0) R.1 R.2 ∧ K3 gS gP gB wo w')) := hide (by
        have h := place_any lo gS gC gP gB A i c B nw cw rw_ rc ts ws hK hrc hn6 hw3 HWl.out HL.out HSec.out i _ _ 0 0 _ wo hM HBd.out
        rw [HRb.out] at h
        exact h)
      have hlw := HM.out.low
      clear hK hrc hM HBd
      go_wp2_with fail
      with_reducible refine HPl.out.mono ?_
      rintro e w5 ⟨rfl, hm5, hk5⟩
      have HM5 := Lib.hid hm5
      have HB5 : Hid (Below w.heap.size w w5) := hide (HB.out.trans (by rw [hlo]; exact hk5.below ⟨hlw.2.1, hlw.2.2.2.1, hlw.2.2.2.2⟩ hlw.1))
      have s4 : w5.cell? ⟨gS, 4, none⟩ = some (.slice (some ⟨gB, 0, none⟩) i i) := HM5.out.st.cell 4
      clear hm5 hk5
      go_wp2_with fail
      try go_ret
      exact HFin.out _ _ HM5.out.be HB5.out
end Go.Proofs.Ytbegehooefhiiaa
