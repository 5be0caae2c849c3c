/-
  The plain law of flows: a flow beside a set that it cannot leave is the greatest one, and is as great as what leads out of the set. No program is in sight.
-/
import Derived.Test.YtihmboibpjfohaaGraN
namespace Go.Proofs.Ytihmboibpjfohaa

/-- what flows away from a node, less what flows to it -/
def netN : List Ed → List Int → Int → Int
  | e :: es, f :: fs, v => (if e.fr = v then f else 0) - (if e.tt = v then f else 0) + netN es fs v
  | _, _, _ => 0
/-- what crosses the border of a set, outwards -/
def crossN (R : Int → Bool) : List Ed → List Int → Int
  | e :: es, f :: fs => (if R e.fr then f else 0) - (if R e.tt then f else 0) + crossN R es fs
  | _, _ => 0
/-- what leads out of a set -/
def capN (R : Int → Bool) (es : List Ed) : Int := (es.map fun e => if R e.fr = true ∧ R e.tt = false then e.cst else 0).sum
def sumOver (ns : List Int) (g : Int → Int) : Int := (ns.map g).sum
theorem sumOver_add (ns : List Int) (g h : Int → Int) : sumOver ns (fun v => g v + h v) = sumOver ns g + sumOver ns h := by
  induction ns with
  | nil => simp [sumOver]
  | cons v ns ih => simp only [sumOver, List.map_cons, List.sum_cons] at ih ⊢; omega
theorem sumOver_sub (ns : List Int) (g h : Int → Int) : sumOver ns (fun v => g v - h v) = sumOver ns g - sumOver ns h := by
  induction ns with
  | nil => simp [sumOver]
  | cons v ns ih => simp only [sumOver, List.map_cons, List.sum_cons] at ih ⊢; omega
theorem sumOver_zero (ns : List Int) (g : Int → Int) (h : ∀ v ∈ ns, g v = 0) : sumOver ns g = 0 := by
  induction ns with
  | nil => simp [sumOver]
  | cons v ns ih =>
    have h1 := h v (by simp)
    have h2 := ih fun x hx => h x (by simp [hx])
    simp only [sumOver, List.map_cons, List.sum_cons] at h2 ⊢
    omega
theorem sumOver_one (R : Int → Bool) (u : Int) (f : Int) : ∀ (ns : List Int), ns.Nodup → u ∈ ns → sumOver ns (fun v => if R v = true then (if u = v then f else 0) else 0) = if R u = true then f else 0
  | v :: ns, hd, hu => by
    obtain ⟨h1, h2⟩ := List.nodup_cons.1 hd
    simp only [sumOver, List.map_cons, List.sum_cons]
    by_cases e : u = v
    · subst e
      have hz : sumOver ns (fun v => if R v = true then (if u = v then f else 0) else 0) = 0 := sumOver_zero _ _ fun x hx => by
        have : u ≠ x := fun e => h1 (e ▸ hx)
        simp [this]
      simp only [sumOver] at hz
      rw [hz, if_pos rfl]
      omega
    · have hu' : u ∈ ns := by
        rcases List.mem_cons.1 hu with h | h
        · exact absurd h e
        · exact h
      have ih := sumOver_one R u f ns h2 hu'
      simp only [sumOver] at ih
      rw [ih, if_neg e]
      split <;> omega
  | [], _, hu => by cases hu
theorem cross_net (R : Int → Bool) (ns : List Int) (hd : ns.Nodup) : ∀ (es : List Ed) (fs : List Int), (∀ e ∈ es, e.fr ∈ ns ∧ e.tt ∈ ns) → sumOver ns (fun v => if R v = true then netN es fs v else 0) = crossN R es fs
  | [], fs, _ => by
    rw [crossN]
    exact sumOver_zero _ _ fun v _ => by simp [netN]
    all_goals simp
  | e :: es, [], _ => by
    rw [crossN]
    exact sumOver_zero _ _ fun v _ => by simp [netN]
    all_goals simp
  | e :: es, f :: fs, h => by
    have ih := cross_net R ns hd es fs fun x hx => h x (by simp [hx])
    have h1 := sumOver_one R e.fr f ns hd (h e (by simp)).1
    have h2 := sumOver_one R e.tt f ns hd (h e (by simp)).2
    have e1 : (fun v => if R v = true then netN (e :: es) (f :: fs) v else 0) = fun v => ((if R v = true then (if e.fr = v then f else 0) else 0) - (if R v = true then (if e.tt = v then f else 0) else 0)) + (if R v = true then netN es fs v else 0) := by
      funext v
      cases R v <;> simp [netN]
    rw [e1, sumOver_add, sumOver_sub, h1, h2, ih, crossN]
structure IsFlow (es : List Ed) (f : List Int) (s t : Int) : Prop where
  len : f.length = es.length
  bound : ∀ (i : Nat) (e : Ed) (x : Int), es[i]? = some e → f[i]? = some x → 0 ≤ x ∧ x ≤ e.cst
  kept : ∀ v, v ≠ s → v ≠ t → netN es f v = 0
theorem IsFlow.tail {e : Ed} {es : List Ed} {x : Int} {f : List Int} (hb : ∀ (i : Nat) (a : Ed) (y : Int), (e :: es)[i]? = some a → (x :: f)[i]? = some y → 0 ≤ y ∧ y ≤ a.cst) : (0 ≤ x ∧ x ≤ e.cst) ∧ ∀ (i : Nat) (a : Ed) (y : Int), es[i]? = some a → f[i]? = some y → 0 ≤ y ∧ y ≤ a.cst :=
  ⟨hb 0 e x rfl rfl, fun i a y h1 h2 => hb (i + 1) a y (by simpa using h1) (by simpa using h2)⟩
/-- the nodes of edges, each once -/
theorem cover (es : List Ed) (s : Int) : ∃ ns : List Int, ns.Nodup ∧ s ∈ ns ∧ ∀ e ∈ es, e.fr ∈ ns ∧ e.tt ∈ ns := by
  have key : ∀ l : List Int, ∃ ns : List Int, ns.Nodup ∧ ∀ x ∈ l, x ∈ ns := by
    intro l
    induction l with
    | nil => exact ⟨[], by simp, by simp⟩
    | cons x l ih =>
      obtain ⟨ns, h1, h2⟩ := ih
      by_cases hx : x ∈ ns
      · exact ⟨ns, h1, fun y hy => by rcases List.mem_cons.1 hy with rfl | hy; exact hx; exact h2 y hy⟩
      · exact ⟨x :: ns, List.nodup_cons.2 ⟨hx, h1⟩, fun y hy => by
          rcases List.mem_cons.1 hy with rfl | hy
          · simp
          · simp [h2 y hy]⟩
  obtain ⟨ns, h1, h2⟩ := key (s :: (es.map Ed.fr ++ es.map Ed.tt))
  exact ⟨ns, h1, h2 s (by simp), fun e he => ⟨h2 _ (by simp; exact .inr (.inl ⟨e, he, rfl⟩)), h2 _ (by simp; exact .inr (.inr ⟨e, he, rfl⟩))⟩⟩
/-- the value of a flow is what crosses any separating set -/
theorem IsFlow.cross {es : List Ed} {f : List Int} {s t : Int} (h : IsFlow es f s t) {R : Int → Bool} (hs : R s = true) (ht : R t = false) : netN es f s = crossN R es f := by
  obtain ⟨ns, hd, hsn, hns⟩ := cover es s
  rw [← cross_net R ns hd es f hns]
  have e : (fun v => if R v = true then netN es f v else 0) = fun v => if R v = true then (if s = v then netN es f s else 0) else 0 := by
    funext v
    cases hv : R v with
    | false => simp
    | true =>
      by_cases e : s = v
      · subst e; simp
      · have hvt : v ≠ t := fun e2 => by rw [e2, ht] at hv; cases hv
        simp [e, h.kept v (fun e2 => e e2.symm) hvt]
  rw [e, sumOver_one R s (netN es f s) ns hd hsn, if_pos hs]
theorem cross_le (R : Int → Bool) : ∀ (es : List Ed) (f : List Int), f.length = es.length → (∀ (i : Nat) (e : Ed) (x : Int), es[i]? = some e → f[i]? = some x → 0 ≤ x ∧ x ≤ e.cst) → crossN R es f ≤ capN R es
  | [], [], _, _ => by simp [crossN, capN]
  | e :: es, x :: f, hl, hb => by
    obtain ⟨h1, h2⟩ := IsFlow.tail hb
    have ih := cross_le R es f (by simpa using hl) h2
    have e2 : capN R (e :: es) = (if R e.fr = true ∧ R e.tt = false then e.cst else 0) + capN R es := by simp [capN]
    rw [crossN, e2]
    cases R e.fr <;> cases R e.tt <;> simp <;> omega
  | [], _ :: _, hl, _ => by simp at hl
  | _ :: _, [], hl, _ => by simp at hl
theorem cross_eq (R : Int → Bool) : ∀ (es : List Ed) (f : List Int), f.length = es.length → (∀ (i : Nat) (e : Ed) (x : Int), es[i]? = some e → f[i]? = some x → (R e.fr = true → R e.tt = false → x = e.cst) ∧ (R e.tt = true → R e.fr = false → x = 0)) → crossN R es f = capN R es
  | [], [], _, _ => by simp [crossN, capN]
  | e :: es, x :: f, hl, hb => by
    have h0 := hb 0 e x rfl rfl
    have ih := cross_eq R es f (by simpa using hl) fun i a y h1 h2 => hb (i + 1) a y (by simpa using h1) (by simpa using h2)
    have e2 : capN R (e :: es) = (if R e.fr = true ∧ R e.tt = false then e.cst else 0) + capN R es := by simp [capN]
    rw [crossN, e2, ih]
    obtain ⟨h1, h2⟩ := h0
    cases ha : R e.fr <;> cases hb : R e.tt <;> simp
    · have := h2 hb ha; omega
    · have := h1 ha hb; omega
  | [], _ :: _, hl, _ => by simp at hl
  | _ :: _, [], hl, _ => by simp at hl
/-- a flow that can carry no more, and the set that it cannot leave -/
structure MaxF (es : List Ed) (s t M : Int) (f : List Int) (R : Int → Bool) : Prop where
  flow : IsFlow es f s t
  val : netN es f s = M
  src : R s = true
  snk : R t = false
  full : ∀ (i : Nat) (e : Ed) (x : Int), es[i]? = some e → f[i]? = some x → (R e.fr = true → R e.tt = false → x = e.cst) ∧ (R e.tt = true → R e.fr = false → x = 0)
def MaxV (es : List Ed) (s t M : Int) : Prop := ∃ f R, MaxF es s t M f R
theorem MaxF.cap {es : List Ed} {s t M : Int} {f : List Int} {R : Int → Bool} (h : MaxF es s t M f R) : M = capN R es := by
  rw [← h.val, h.flow.cross h.src h.snk, cross_eq R es f h.flow.len h.full]
theorem MaxF.most {es : List Ed} {s t M : Int} {f : List Int} {R : Int → Bool} (h : MaxF es s t M f R) {g : List Int} (hg : IsFlow es g s t) : netN es g s ≤ M := by
  rw [h.cap, hg.cross h.src h.snk]
  exact cross_le R es g hg.len hg.bound
theorem MaxV.unique {es : List Ed} {s t M N : Int} (h : MaxV es s t M) (k : MaxV es s t N) : M = N := by
  obtain ⟨f, R, h⟩ := h
  obtain ⟨g, S, k⟩ := k
  have h1 := h.most k.flow
  have h2 := k.most h.flow
  rw [k.val] at h1
  rw [h.val] at h2
  omega
/-- no cut leads less out -/
theorem MaxV.le_cap {es : List Ed} {s t M : Int} (h : MaxV es s t M) {R : Int → Bool} (hs : R s = true) (ht : R t = false) : M ≤ capN R es := by
  obtain ⟨f, S, h⟩ := h
  rw [← h.val, h.flow.cross hs ht]
  exact cross_le R es f h.flow.len h.flow.bound
theorem capN_nonneg (R : Int → Bool) : ∀ (es : List Ed), (∀ e ∈ es, 0 ≤ e.cst) → 0 ≤ capN R es
  | [], _ => by simp [capN]
  | e :: es, h => by
    have h1 := h e (by simp)
    have ih := capN_nonneg R es fun x hx => h x (by simp [hx])
    have e2 : capN R (e :: es) = (if R e.fr = true ∧ R e.tt = false then e.cst else 0) + capN R es := by simp [capN]
    rw [e2]
    split <;> omega
theorem capN_mem (R : Int → Bool) : ∀ (es : List Ed), (∀ e ∈ es, 0 ≤ e.cst) → ∀ e ∈ es, R e.fr = true → R e.tt = false → e.cst ≤ capN R es
  | [], _, _, he, _, _ => by cases he
  | a :: es, h, e, he, h1, h2 => by
    have h3 := h a (by simp)
    have h4 := capN_nonneg R es fun x hx => h x (by simp [hx])
    have e2 : capN R (a :: es) = (if R a.fr = true ∧ R a.tt = false then a.cst else 0) + capN R es := by simp [capN]
    rw [e2]
    rcases List.mem_cons.1 he with rfl | he
    · rw [if_pos ⟨h1, h2⟩]; omega
    · have ih := capN_mem R es (fun x hx => h x (by simp [hx])) e he h1 h2
      split <;> omega
theorem capN_sub (R : Int → Bool) {es ds : List Ed} (h : (es.map fun e => (e.fr, e.tt, e.cst)).Sublist (ds.map fun e => (e.fr, e.tt, e.cst))) (hc : ∀ e ∈ ds, 0 ≤ e.cst) : capN R es ≤ capN R ds := by
  have key : ∀ {a b : List (Int × Int × Int)}, a.Sublist b → (∀ x ∈ b, 0 ≤ x.2.2) → (a.map fun x => if R x.1 = true ∧ R x.2.1 = false then x.2.2 else 0).sum ≤ (b.map fun x => if R x.1 = true ∧ R x.2.1 = false then x.2.2 else 0).sum := by
    intro a b hs
    induction hs with
    | slnil => intro _; exact Int.le_refl _
    | cons x hs ih =>
      intro hb
      have h1 := ih fun y hy => hb y (by simp [hy])
      have h2 := hb x (by simp)
      rw [List.map_cons, List.sum_cons]
      split <;> omega
    | cons_cons x hs ih =>
      intro hb
      have h1 := ih fun y hy => hb y (by simp [hy])
      rw [List.map_cons, List.map_cons, List.sum_cons, List.sum_cons]
      omega
  have := key h fun x hx => by
    obtain ⟨e, he, rfl⟩ := List.mem_map.1 hx
    exact hc e he
  rw [List.map_map, List.map_map] at this
  exact this
/-- more edges carry no less -/
theorem MaxV.mono {es ds : List Ed} {s t M N : Int} (h : MaxV es s t M) (k : MaxV ds s t N) (hsub : (es.map fun e => (e.fr, e.tt, e.cst)).Sublist (ds.map fun e => (e.fr, e.tt, e.cst))) (hc : ∀ e ∈ ds, 0 ≤ e.cst) : M ≤ N := by
  obtain ⟨g, S, k⟩ := k
  rw [k.cap]
  exact Int.le_trans (h.le_cap k.src k.snk) (capN_sub S hsub hc)
theorem MaxV.nonneg {es : List Ed} {s t M : Int} (h : MaxV es s t M) (hc : ∀ e ∈ es, 0 ≤ e.cst) : 0 ≤ M := by
  obtain ⟨f, S, h⟩ := h
  rw [h.cap]
  exact capN_nonneg S es hc
/-- an edge from the source to the sink -/
theorem MaxV.ge_edge {es : List Ed} {s t M : Int} (h : MaxV es s t M) (hc : ∀ e ∈ es, 0 ≤ e.cst) {e : Ed} (he : e ∈ es) (h1 : e.fr = s) (h2 : e.tt = t) : e.cst ≤ M := by
  obtain ⟨f, S, h⟩ := h
  rw [h.cap]
  exact capN_mem S es hc e he (by rw [h1]; exact h.src) (by rw [h2]; exact h.snk)
/-- at most what the edges at the source take -/
theorem MaxV.le_out {es : List Ed} {s t M : Int} (h : MaxV es s t M) (hst : s ≠ t) (hc : ∀ e ∈ es, 0 ≤ e.cst) : M ≤ (es.map fun e => if e.fr = s then e.cst else 0).sum := by
  refine Int.le_trans (h.le_cap (R := fun v => decide (v = s)) (by simp) (by simp; exact fun e => hst e.symm)) ?_
  unfold capN
  clear h
  induction es with
  | nil => simp
  | cons e es ih =>
    have h1 := hc e (by simp)
    have h2 := ih fun x hx => hc x (by simp [hx])
    rw [List.map_cons, List.map_cons, List.sum_cons, List.sum_cons]
    by_cases h3 : e.fr = s
    · rw [if_pos h3]; split <;> omega
    · rw [if_neg h3, if_neg (by simp [h3])]; omega
/-- something can flow just if a walk leads from the source to the sink -/
theorem MaxV.pos {es : List Ed} {s t M : Int} (h : MaxV es s t M) (hc : ∀ e ∈ es, 0 < e.cst) : 0 < M ↔ ∃ p, IsW es s p t := by
  have hc' : ∀ e ∈ es, 0 ≤ e.cst := fun e he => by have := hc e he; omega
  constructor
  · intro hM
    refine Classical.byContradiction fun hno => ?_
    have hR : ∃ R : Int → Bool, ∀ v, R v = true ↔ ∃ p, IsW es s p v := ⟨fun v => @decide (∃ p, IsW es s p v) (Classical.propDecidable _), fun v => by simp⟩
    obtain ⟨R, hR⟩ := hR
    have h1 : R s = true := (hR s).2 ⟨[], rfl⟩
    have h2 : R t = false := by
      cases hx : R t with
      | false => rfl
      | true => exact absurd ((hR t).1 hx) hno
    have h3 := h.le_cap h1 h2
    have h4 : capN R es = 0 := by
      unfold capN
      have : (es.map fun e => if R e.fr = true ∧ R e.tt = false then e.cst else 0) = es.map fun _ => (0 : Int) := by
        refine List.map_congr_left fun e he => ?_
        rw [if_neg]
        rintro ⟨g1, g2⟩
        obtain ⟨p, hp⟩ := (hR _).1 g1
        have : R e.tt = true := (hR _).2 ⟨p ++ [e], hp.app ⟨he, rfl, rfl⟩⟩
        rw [g2] at this
        cases this
      rw [this]
      clear this h h3 hc hc' hR h1 h2 hno
      induction es with
      | nil => rfl
      | cons e es ih => simpa using ih
    omega
  · rintro ⟨p, hp⟩
    obtain ⟨f, R, h⟩ := h
    rw [h.cap]
    have key : ∀ (p : List Ed) (u : Int), IsW es u p t → R u = true → ∃ e ∈ es, R e.fr = true ∧ R e.tt = false := by
      intro p
      induction p with
      | nil =>
        intro u hu h1
        have e : u = t := hu
        rw [e, h.snk] at h1
        cases h1
      | cons e p ih =>
        intro u hu h1
        cases hx : R e.tt with
        | false => exact ⟨e, hu.1, by rw [hu.2.1]; exact h1, hx⟩
        | true => exact ih e.tt hu.2.2 hx
    obtain ⟨e, he, h1, h2⟩ := key p s hp h.src
    have := capN_mem R es hc' e he h1 h2
    have := hc e he
    omega
/-! ### carrying more along a way -/
/-- a move: the edge's index, and whether it goes along it -/
structure Mv where
  edge : Nat
  fwd : Bool
def roomN (es : List Ed) (f : List Int) (m : Mv) : Int := if m.fwd = true then (es.getD m.edge ⟨0, 0, 0, 0⟩).cst - f.getD m.edge 0 else f.getD m.edge 0
def mvFrom (es : List Ed) (m : Mv) : Int := if m.fwd = true then (es.getD m.edge ⟨0, 0, 0, 0⟩).fr else (es.getD m.edge ⟨0, 0, 0, 0⟩).tt
def mvTo (es : List Ed) (m : Mv) : Int := if m.fwd = true then (es.getD m.edge ⟨0, 0, 0, 0⟩).tt else (es.getD m.edge ⟨0, 0, 0, 0⟩).fr
def pushM (f : List Int) (x : Int) (m : Mv) : List Int := f.set m.edge (f.getD m.edge 0 + if m.fwd = true then x else -x)
theorem net_set : ∀ (es : List Ed) (f : List Int) (i : Nat) (x v : Int), f.length = es.length → i < es.length → netN es (f.set i (f.getD i 0 + x)) v = netN es f v + (if (es.getD i ⟨0, 0, 0, 0⟩).fr = v then x else 0) - (if (es.getD i ⟨0, 0, 0, 0⟩).tt = v then x else 0)
  | e :: es, y :: f, 0, x, v, _, _ => by
    simp only [List.set_cons_zero, netN, List.getD_cons_zero]
    split <;> split <;> omega
  | e :: es, y :: f, i + 1, x, v, hl, hi => by
    have ih := net_set es f i x v (by simpa using hl) (by simpa using hi)
    simp only [List.set_cons_succ, netN, List.getD_cons_succ]
    rw [ih]
    omega
  | [], _, _, _, _, _, hi => by simp at hi
  | _ :: _, [], _, _, _, hl, _ => by simp at hl
theorem net_push (es : List Ed) (f : List Int) (x : Int) (m : Mv) (v : Int) (hl : f.length = es.length) (hm : m.edge < es.length) : netN es (pushM f x m) v = netN es f v + (if mvFrom es m = v then x else 0) - (if mvTo es m = v then x else 0) := by
  unfold pushM mvFrom mvTo
  rw [net_set es f m.edge _ v hl hm]
  cases m.fwd <;> simp
  split <;> split <;> omega
theorem net_zero (v : Int) : ∀ (es : List Ed) (n : Nat), netN es (List.replicate n 0) v = 0
  | [], _ => by simp [netN]
  | e :: es, 0 => by simp [netN]
  | e :: es, n + 1 => by
    rw [List.replicate_succ, netN, net_zero v es n]
    split <;> split <;> omega
theorem flow_zero (es : List Ed) (s t : Int) (hc : ∀ e ∈ es, 0 ≤ e.cst) : IsFlow es (List.replicate es.length 0) s t :=
  ⟨by simp, fun i e x h1 h2 => by
    have := List.mem_of_getElem? h2
    obtain rfl := (List.mem_replicate.1 this).2
    have := hc e (List.mem_of_getElem? h1)
    omega, fun v _ _ => net_zero v es _⟩
end Go.Proofs.Ytihmboibpjfohaa
