/-
  The last step of a law, over any program: what is known of its arguments when it is called, and that an answer 'true' in a world which has only grown is what a row of the law asks.
-/
import Derived.Test.YtedeggjefnpjgaaBase
import Derived.ProofKit
import Derived.OpenShut
import Derived.Carry
import Derived.WideKeyArgs
namespace Go.Proofs.Ytedeggjefnpjgaa
open Go.ChangeShapes Go.WideShapes Go.ChangeAt Go.RowKit

section
variable {H : Type} {enc : TypeId × Value → H} {P : Program}

theorem trodAll_below (hl : laidOutB P = true) {W W' : World} (hb : Below W.heap.size W W') :
    ∀ {ts : List TypeId} {vs : List Value} {ds : List (DataW H)} {ps : List MemPlace}, (ts.all fun t => P.readableRec t && decide (t < P.types.size)) = true →
      DataW.TrodAll enc P W 0 (fun _ => true) true ts vs ds ps → (∀ x ∈ ps, x.block < W.heap.size) → DataW.TrodAll enc P W' 0 (fun b => decide (b < W.heap.size)) true ts vs ds ps
  | [], [], [], _, _, h, _ => h
  | t :: ts, v :: vs, d :: ds, ps, hk, h, hlt => by
    obtain ⟨p, q, h1, h2, rfl⟩ := h
    simp only [List.all_cons, Bool.and_eq_true, decide_eq_true_eq] at hk
    exact ⟨p, q, Below.trod hl hk.1.1 hk.1.2 h1 hb (fun x hx => hlt x (by simp [hx])), trodAll_below hl hb hk.2 h2 (fun x hx => hlt x (by simp [hx])), rfl⟩
  | [], [], _ :: _, _, _, h, _ => h.elim
  | [], _ :: _, _, _, _, h, _ => by cases h
  | _ :: _, [], _, _, _, h, _ => by cases h
  | _ :: _, _ :: _, [], _, _, h, _ => by cases h

/-- the row's last step: true, and nothing that was there has changed -/
theorem law_post {f : Func} {s : ChangeSpec} {tb : TypeId} {W W' : World} {args : Array Value} {ds : List (DataW H)} {before : List MemPlace} (hl : laidOutB P = true)
    (hp : (f.params.toList.all fun t => P.readableRec t && decide (t < P.types.size)) = true) (hv : s.vars = []) (hrt : f.resultTypes = #[tb]) (htb : P.underlying tb = some .bool)
    (hW : DataW.Whole enc P f.params.toList s.vars false W args.toList ds [] before) (hspec : s.fn H (ds ++ []) = { results := [.lit (.bool true)], args := ds }) (hb : Below W.heap.size W W') :
    s.post enc P f false true false false W args (.bool true) W' := by
  have hlt := hW.lt
  have hW' := hW
  obtain ⟨p, q, hA, hV, rfl, hfz, hnd⟩ := hW
  rw [hv] at hV
  have hq : q = [] := hV
  subst hq
  refine ⟨ds, [], _, [], p, [], hW', ?_, ?_, ?_, World.keptBut_mono (fun x hx => ⟨hx, ?_⟩) (hb.frame (· ∈ p ++ [])), fun h => by cases h⟩
  · rw [hspec, hrt]
    have := shut_bool (enc := enc) (P := P) (w := W') (base := W.heap.size) (spare := fun _ => false) (held := false) htb true
    exact ⟨[], [], this, rfl, rfl⟩
  · rw [hspec]
    exact trodAll_below hl hb hp hA (fun x hx => hlt x (by simp [hx]))
  · rw [hspec, hv]
    exact rfl
  · simpa using hx
end

/-! ### what is known of an argument -/
section
variable {H : Type} {enc : TypeId × Value → H} {P : Program} {W : World} {base : Nat}

theorem u8_of (zs : List Int) (h : ∀ n ∈ zs, (Lit.int .u8 n).wf = true) : ∃ l : List UInt8, zs.map (Value.int .u8) = l.map B8 := by
  refine ⟨zs.map fun n => UInt8.ofNat n.toNat, ?_⟩
  rw [List.map_map]
  refine List.map_congr_left fun n hn => ?_
  have hn := bounds_u8 (h n hn)
  simp only [Function.comp, B8]
  rw [UInt8.toNat_ofNat_of_lt' (show n.toNat < 256 by omega)]
  rw [Int.toNat_of_nonneg hn.1]

/-- a slice of integers of one kind: what it reads as -/
theorem open_ints_any {t e : TypeId} {k : IntKind} {v : Value} {d : DataW H} {p : List MemPlace} (ht : P.underlying t = some (.slice e)) (he : P.underlying e = some (.int k)) (hC : P.cellsOf e = 1)
    (hv : Value.okWide P W .any base t v) (h : DataW.Trod enc P W 0 (fun _ => true) true t v d p) :
    ∃ (A : Option Addr) (n c : Nat) (zs : List Int), v = .slice A n c ∧ n ≤ c ∧ c ≤ maxLen ∧ Reads W W.heap.size 1 A n (zs.map (Value.int k)) ∧ ∀ z ∈ zs, (Lit.int k z).wf = true := by
  obtain ⟨a0, len, cap, rfl⟩ := okWide_slice ht hv
  obtain ⟨fuel, hf⟩ := h
  rcases open_ints ht he hC hf with ⟨hcs, hx⟩ | ⟨a, len', cap', zs, hcs, _, hl, hm, hz, hx, hcell, hwz⟩
  · simp [Value.cells] at hcs
    obtain ⟨rfl, rfl, rfl⟩ := hcs
    exact ⟨none, 0, 0, [], rfl, Nat.le_refl _, by simp [maxLen], Reads.empty, by simp⟩
  · simp [Value.cells] at hcs
    obtain ⟨rfl, rfl, rfl⟩ := hcs
    simp at hz
    refine ⟨some a, len, cap, zs.take len, rfl, hl, hm, ⟨by simp; omega, fun hn => ⟨a, rfl, ?_, ?_⟩⟩, fun z hz' => hwz z (List.mem_of_mem_take hz')⟩
    · have h0 := hcell 0 (by omega)
      have := World.block_lt_of_cell? W _ h0
      rwa [block_of_add] at this
    · intro j u hu
      have hj : j < len := by
        have := (List.getElem?_eq_some_iff.1 hu).1
        simp at this
        omega
      rw [List.getElem?_map, List.getElem?_take, if_pos hj, List.getElem?_eq_getElem (by omega)] at hu
      rw [hcell j (by omega), ← hu]
      simp [List.getElem?_eq_getElem (show j < zs.length by omega)]

/-- a slice of bytes -/
theorem open_bytes {t e : TypeId} {v : Value} {d : DataW H} {p : List MemPlace} (ht : P.underlying t = some (.slice e)) (he : P.underlying e = some (.int .u8)) (hC : P.cellsOf e = 1)
    (hv : Value.okWide P W .any base t v) (h : DataW.Trod enc P W 0 (fun _ => true) true t v d p) :
    ∃ (A : Option Addr) (n c : Nat) (l : List UInt8), v = .slice A n c ∧ n ≤ c ∧ c ≤ maxLen ∧ Bytes W W.heap.size A n l := by
  obtain ⟨A, n, c, zs, rfl, h1, h2, h3, h4⟩ := open_ints_any ht he hC hv h
  obtain ⟨l, hl⟩ := u8_of zs h4
  exact ⟨A, n, c, l, rfl, h1, h2, by rwa [hl] at h3⟩

theorem open_u64 {t : TypeId} {v : Value} {d : DataW H} {p : List MemPlace} (ht : P.underlying t = some (.int .u64)) (hv : Value.okWide P W .any base t v) (h : DataW.Trod enc P W 0 (fun _ => true) true t v d p) :
    ∃ x : Int, v = .int .u64 x ∧ 0 ≤ x ∧ x < 18446744073709551616 := by
  obtain ⟨x, rfl, _, _, w⟩ := open_int ht hv h
  have := bounds_u64 w
  exact ⟨x, rfl, this.1, by omega⟩
theorem open_i64 {t : TypeId} {v : Value} {d : DataW H} {p : List MemPlace} (ht : P.underlying t = some (.int .i64)) (hv : Value.okWide P W .any base t v) (h : DataW.Trod enc P W 0 (fun _ => true) true t v d p) :
    ∃ x : Int, v = .int .i64 x ∧ -9223372036854775808 ≤ x ∧ x ≤ 9223372036854775807 := by
  obtain ⟨x, rfl, _, _, w⟩ := open_int ht hv h
  exact ⟨x, rfl, bounds_i64 w⟩

/-- an array of integers of one kind -/
theorem open_arr {t e : TypeId} {k : IntKind} {m : Nat} {v : Value} {d : DataW H} {p : List MemPlace} (ht : P.underlying t = some (.array m e)) (he : P.underlying e = some (.int k)) (hC : P.cellsOf e = 1) (hCt : P.cellsOf t = m)
    (hv : Value.okWide P W .any base t v) (h : DataW.Trod enc P W 0 (fun _ => true) true t v d p) :
    ∃ zs : List Int, v = .agg (zs.map (Value.int k)).toArray ∧ zs.length = m ∧ ∀ z ∈ zs, (Lit.int k z).wf = true := by
  simp only [Value.okWide, ht] at hv
  obtain ⟨cs, rfl, hsz, _⟩ := hv
  obtain ⟨l⟩ := cs
  obtain ⟨fuel, hf⟩ := h
  obtain ⟨xs, m', _, _, hlen, hxl, hel⟩ := DataW.trod_array ht hf
  simp only [hCt, List.size_toArray] at hsz
  have each : ∀ i, i < m → ∃ z : Int, l[i]? = some (.int k z) ∧ (Lit.int k z).wf = true := by
    intro i hi
    have hi' := hel i hi
    rw [hC, Nat.mul_one] at hi'
    have hli : i < l.length := by omega
    have e1 : ((Value.agg l.toArray).cells.toList.drop i).take 1 = [l[i]] := by
      show (l.drop i).take 1 = _
      rw [List.drop_eq_getElem_cons hli]
      rfl
    rw [e1, List.getElem?_eq_getElem (by omega)] at hi'
    obtain ⟨z, e0, _, wz⟩ := DataW.trod_int he hi'
    refine ⟨z, ?_, wz⟩
    rw [List.getElem?_eq_getElem hli]
    simpa using e0
  refine ⟨l.map fun v => match v with | .int _ z => z | _ => 0, ?_, by simpa using hsz, ?_⟩
  · congr 2
    rw [List.map_map]
    apply List.ext_getElem?
    intro i
    rw [List.getElem?_map]
    rcases Nat.lt_or_ge i m with hi | hi
    · obtain ⟨z, hz, _⟩ := each i hi
      rw [hz]
      rfl
    · rw [List.getElem?_eq_none (by omega)]
      rfl
  · intro z hz
    obtain ⟨v, hv', rfl⟩ := List.mem_map.1 hz
    obtain ⟨i, hi, rfl⟩ := List.getElem_of_mem hv'
    obtain ⟨z, hz', wz⟩ := each i (by omega)
    rw [List.getElem?_eq_getElem hi] at hz'
    injection hz' with hz'
    rw [hz']
    exact wz
theorem open_arr2 {t e : TypeId} {k : IntKind} {v : Value} {d : DataW H} {p : List MemPlace} (ht : P.underlying t = some (.array 2 e)) (he : P.underlying e = some (.int k)) (hC : P.cellsOf e = 1) (hCt : P.cellsOf t = 2)
    (hv : Value.okWide P W .any base t v) (h : DataW.Trod enc P W 0 (fun _ => true) true t v d p) :
    ∃ i j : Int, v = .agg #[.int k i, .int k j] ∧ (Lit.int k i).wf = true ∧ (Lit.int k j).wf = true := by
  obtain ⟨zs, rfl, hl, hw⟩ := open_arr ht he hC hCt hv h
  match zs, hl with
  | [i, j], _ => exact ⟨i, j, rfl, hw i (by simp), hw j (by simp)⟩
end
end Go.Proofs.Ytedeggjefnpjgaa
