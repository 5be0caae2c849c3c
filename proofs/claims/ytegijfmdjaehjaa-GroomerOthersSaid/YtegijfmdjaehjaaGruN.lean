/-
  The plain law of chapter 45: vehicles. No program is in sight.
-/
import Derived.Test.YtegijfmdjaehjaaGroN
namespace Go.Proofs.Ytegijfmdjaehjaa

structure Gr where
  id : Int
  nod : Int
  fuel : Int
  st : Int
  tg : Int
  run : Int
  til : Int
  win : Bool
def gr0 : Gr := ⟨0, 0, 0, 0, 0, 0, 0, false⟩
def inG (x : Gr) : Bool := decide (1 ≤ x.id ∧ x.id ≤ 9999 ∧ 1 ≤ x.nod ∧ x.nod ≤ 9999 ∧ 0 ≤ x.fuel ∧ x.fuel ≤ 1000000 ∧ 0 ≤ x.st ∧ x.st ≤ 2 ∧ 0 ≤ x.til ∧ x.til ≤ 20000000 ∧ 0 ≤ x.tg ∧ x.tg ≤ 9999 ∧ 0 ≤ x.run ∧ x.run ≤ 9999)
def okG (x : Gr) : Bool := decide ((x.tg ≠ 0 ↔ x.st = 1) ∧ (x.run ≠ 0 ↔ x.st = 2))
def chkG (seen : List Int) : List Gr → Nat
  | [] => 0
  | x :: l => if inG x = false then 2 else if seen.contains x.id = true then 7 else if okG x = false then 10 else chkG (seen ++ [x.id]) l
def rightG (l : List Gr) : Nat := if 16 < l.length then 4 else chkG [] l
theorem gr_mem {l : List Gr} {k : Nat} (h : k < l.length) : l.getD k gr0 ∈ l := by simp [List.getElem?_eq_getElem h]
theorem chkG_at {seen : List Int} {l : List Gr} {k : Nat} (h : k < l.length) : chkG seen (l.drop k) = if inG (l.getD k gr0) = false then 2 else if seen.contains (l.getD k gr0).id = true then 7 else if okG (l.getD k gr0) = false then 10 else chkG (seen ++ [(l.getD k gr0).id]) (l.drop (k + 1)) := by
  rw [List.drop_eq_getElem_cons h, chkG]
  simp [List.getElem?_eq_getElem h]
theorem id_snoc {l : List Gr} {k : Nat} (h : k < l.length) : (l.take (k + 1)).map Gr.id = (l.take k).map Gr.id ++ [(l.getD k gr0).id] := by
  rw [List.take_succ_eq_append_getElem h, List.map_append]
  congr 1
  simp [List.getElem?_eq_getElem h]
theorem chkG_ok : ∀ {l : List Gr} {seen : List Int}, chkG seen l = 0 ↔ (∀ x ∈ l, inG x = true ∧ okG x = true ∧ x.id ∉ seen) ∧ (l.map Gr.id).Nodup
  | [], seen => by simp [chkG]
  | x :: l, seen => by
    rw [chkG]
    constructor
    · intro h
      cases h1 : inG x with
      | false => rw [h1, if_pos rfl] at h; cases h
      | true =>
        rw [h1, if_neg (by decide)] at h
        cases h2 : seen.contains x.id with
        | true => rw [h2, if_pos rfl] at h; cases h
        | false =>
          rw [h2, if_neg (by decide)] at h
          cases h3 : okG x with
          | false => rw [h3, if_pos rfl] at h; cases h
          | true =>
            rw [h3, if_neg (by decide)] at h
            obtain ⟨g1, g2⟩ := chkG_ok.1 h
            have h2' : x.id ∉ seen := by simpa using h2
            refine ⟨fun y hy => ?_, ?_⟩
            · rcases List.mem_cons.1 hy with rfl | hy
              · exact ⟨h1, h3, h2'⟩
              · obtain ⟨a, b, c⟩ := g1 y hy
                exact ⟨a, b, fun hc => c (by simp [hc])⟩
            · rw [List.map_cons, List.nodup_cons]
              refine ⟨fun hc => ?_, g2⟩
              obtain ⟨y, hy, e⟩ := List.mem_map.1 hc
              exact (g1 y hy).2.2 (by simp [e])
    · rintro ⟨h1, h2⟩
      obtain ⟨a, b, c⟩ := h1 x (by simp)
      rw [List.map_cons, List.nodup_cons] at h2
      rw [a, if_neg (by decide), show seen.contains x.id = false by simpa using c, if_neg (by decide), b, if_neg (by decide)]
      refine chkG_ok.2 ⟨fun y hy => ?_, h2.2⟩
      obtain ⟨a, b, c⟩ := h1 y (by simp [hy])
      refine ⟨a, b, fun hc => ?_⟩
      rcases List.mem_append.1 hc with hc | hc
      · exact c hc
      · exact h2.1 (List.mem_map.2 ⟨y, hy, List.mem_singleton.1 hc⟩)
structure OkG (l : List Gr) : Prop where
  len : l.length ≤ 16
  each : ∀ x ∈ l, inG x = true ∧ okG x = true
  nodup : (l.map Gr.id).Nodup
theorem right_okG {l : List Gr} : rightG l = 0 ↔ OkG l := by
  unfold rightG
  constructor
  · intro h
    by_cases h1 : 16 < l.length
    · rw [if_pos h1] at h; cases h
    · rw [if_neg h1] at h
      obtain ⟨g1, g2⟩ := chkG_ok.1 h
      exact ⟨by omega, fun x hx => ⟨(g1 x hx).1, (g1 x hx).2.1⟩, g2⟩
  · intro h
    rw [if_neg (by have := h.len; omega)]
    exact chkG_ok.2 ⟨fun x hx => ⟨(h.each x hx).1, (h.each x hx).2, by simp⟩, h.nodup⟩
theorem inG_iff {x : Gr} (h : inG x = true) : 1 ≤ x.id ∧ x.id ≤ 9999 ∧ 1 ≤ x.nod ∧ x.nod ≤ 9999 ∧ 0 ≤ x.fuel ∧ x.fuel ≤ 1000000 ∧ 0 ≤ x.st ∧ x.st ≤ 2 ∧ 0 ≤ x.til ∧ x.til ≤ 20000000 ∧ 0 ≤ x.tg ∧ x.tg ≤ 9999 ∧ 0 ≤ x.run ∧ x.run ≤ 9999 := of_decide_eq_true h
/-- the index of the first vehicle that a test takes, or -1 -/
def idxG (p : Gr → Bool) : List Gr → Nat → Int
  | [], _ => -1
  | x :: l, k => if p x = true then (k : Int) else idxG p l (k + 1)
theorem idxG_at (p : Gr → Bool) {l : List Gr} {k : Nat} (h : k < l.length) : idxG p (l.drop k) k = if p (l.getD k gr0) = true then (k : Int) else idxG p (l.drop (k + 1)) (k + 1) := by
  rw [List.drop_eq_getElem_cons h, idxG]
  simp [List.getElem?_eq_getElem h]
theorem idxG_is (p : Gr → Bool) : ∀ (l : List Gr) (k : Nat), (idxG p l k = -1 ∧ ∀ x ∈ l, p x = false) ∨ ∃ i, idxG p l k = ((k + i : Nat) : Int) ∧ i < l.length ∧ p (l.getD i gr0) = true ∧ ∀ j, j < i → p (l.getD j gr0) = false
  | [], k => .inl ⟨rfl, by simp⟩
  | x :: l, k => by
    rw [idxG]
    cases hx : p x with
    | true => exact .inr ⟨0, by rw [if_pos rfl]; rfl, by simp, by simpa using hx, fun j hj => by omega⟩
    | false =>
      rw [if_neg (by decide)]
      rcases idxG_is p l (k + 1) with ⟨h1, h2⟩ | ⟨i, h1, h2, h3, h4⟩
      · refine .inl ⟨h1, fun y hy => ?_⟩
        rcases List.mem_cons.1 hy with rfl | hy
        · exact hx
        · exact h2 y hy
      · refine .inr ⟨i + 1, by rw [h1]; congr 1; omega, by simp; omega, by simpa using h3, fun j hj => ?_⟩
        cases j with
        | zero => simpa using hx
        | succ j => simpa using h4 j (by omega)
def findG (l : List Gr) (i : Int) : Int := idxG (fun x => x.id == i) l 0
def onG (l : List Gr) (run : Int) : Bool := l.any fun x => decide (x.st = 2) && decide (x.run = run)
theorem onG_idx (l : List Gr) (run : Int) (k : Nat) : onG l run = decide (0 ≤ idxG (fun x => decide (x.st = 2) && decide (x.run = run)) l k) := by
  unfold onG
  rcases idxG_is (fun x => decide (x.st = 2) && decide (x.run = run)) l k with ⟨h1, h2⟩ | ⟨i, h1, h2, h3, _⟩
  · rw [h1]
    rw [show decide ((0 : Int) ≤ -1) = false by decide, List.any_eq_false]
    intro x hx
    rw [h2 x hx]
    decide
  · rw [h1, decide_eq_true (by omega), List.any_eq_true]
    exact ⟨_, gr_mem h2, h3⟩
/-! ### what is sent, groomed, ended -/
def sentG (x : Gr) (n tg t : Int) : Gr := ⟨x.id, x.nod, x.fuel - 2 * n, 1, tg, x.run, t + (n + 2) / 3, x.win⟩
def sendV (o : Option Int) (l : List Gr) (i : Nat) (tg t : Int) : List Gr × Int :=
  if (l.getD i gr0).st ≠ 0 then ([], 10) else match o with
  | none => ([], 8)
  | some n => if (l.getD i gr0).fuel < 2 * n then ([], 5) else if t < 0 ∨ 20000000 - (n + 2) / 3 < t then ([], 2) else (l.set i (sentG (l.getD i gr0) n tg t), 0)
/-- Send: o is the way from a node to the target -/
def sendG (o : Int → Option Int) (l : List Gr) (id tg t : Int) : List Gr × Int := if findG l id < 0 then ([], 8) else sendV (o (l.getD (findG l id).toNat gr0).nod) l (findG l id).toNat tg t
def begunG (x : Gr) (run s t : Int) : Gr := ⟨x.id, x.nod, x.fuel - 5 * s, 2, x.tg, run, t + s, x.win⟩
def groomV (on : Bool) (l : List Gr) (i : Nat) (r : Rn) (run s t : Int) : List Gr × Int :=
  if (l.getD i gr0).st ≠ 0 then ([], 10) else if ((l.getD i gr0).nod ≠ r.fr ∧ (l.getD i gr0).nod ≠ r.tt) ∨ on = true then ([], 15)
  else if (l.getD i gr0).fuel / 5 < s then ([], 5) else if s < 1 ∨ 86400 < s ∨ t < 0 ∨ 20000000 - s < t then ([], 2) else (l.set i (begunG (l.getD i gr0) run s t), 0)
def groomG (rs : List Rn) (l : List Gr) (id run s t : Int) : List Gr × Int := if findG l id < 0 ∨ hasR rs run = false then ([], 8) else groomV (onG l run) l (findG l id).toNat (rnOf rs run) run s t
def endedG (rs : List Rn) (x : Gr) : Gr := ⟨x.id, if x.st = 1 then x.tg else if x.st = 2 ∧ hasR rs x.run = true then (rnOf rs x.run).tt else x.nod, x.fuel, 0, 0, 0, x.til, x.win⟩
def tickX (rs : List Rn) (t : Int) (x : Gr) : Gr := if t < x.til then x else endedG rs x
def tickG (rs : List Rn) (t : Int) (l : List Gr) : List Gr := l.map (tickX rs t)
def doneG (t : Int) (l : List Gr) : List Int := (l.filter fun x => decide (x.til ≤ t) && decide (x.st = 2)).map Gr.run
end Go.Proofs.Ytegijfmdjaehjaa
