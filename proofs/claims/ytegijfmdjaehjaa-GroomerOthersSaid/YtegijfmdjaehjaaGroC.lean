/-
  graph.Shortest, walked: whether there is a way, and its length.
-/
import Derived.Test.YtegijfmdjaehjaaGroB
import Derived.Test.YtegijfmdjaehjaaOwnI
namespace Go.Proofs.Ytegijfmdjaehjaa
open Go.RowKit

def idxE (p : Ed → Bool) : List Ed → Nat → Int
  | [], _ => -1
  | x :: l, k => if p x = true then (k : Int) else idxE p l (k + 1)
theorem idxE_at (p : Ed → Bool) {l : List Ed} {k : Nat} (h : k < l.length) : idxE p (l.drop k) k = if p (l.getD k edZ) = true then (k : Int) else idxE p (l.drop (k + 1)) (k + 1) := by
  rw [List.drop_eq_getElem_cons h, idxE]
  simp [List.getElem?_eq_getElem h]
theorem idxE_ok {p : Ed → Bool} : ∀ {l : List Ed} {k : Nat}, (∃ e ∈ l, p e = true) → ∃ i, idxE p l k = ((k + i : Nat) : Int) ∧ i < l.length ∧ p (l.getD i edZ) = true
  | [], _, h => by obtain ⟨e, he, _⟩ := h; cases he
  | x :: l, k, h => by
    rw [idxE]
    by_cases hx : p x = true
    · exact ⟨0, by rw [if_pos hx]; rfl, by simp, by simpa using hx⟩
    · obtain ⟨e, he, hp⟩ := h
      rcases List.mem_cons.1 he with rfl | he
      · exact absurd hp hx
      · obtain ⟨i, h1, h2, h3⟩ := idxE_ok (p := p) (l := l) (k := k + 1) ⟨e, he, hp⟩
        exact ⟨i + 1, by rw [if_neg hx, h1]; congr 1; omega, by simp; omega, by simpa using h3⟩
theorem ret_ig {k : IntKind} {a b : Int} (h : a = b) : Ending.returned (.int k a) = .returned (.int k b) := by rw [h]

set_option maxRecDepth 100000 in
set_option maxHeartbeats 4000000 in
theorem idx_any (A : Option Addr) (n c b nm g9 g13 : Nat) (es : List Ed) (f : DM) (M : Int) (nv : Int) (w : World) (hr : Strs Ed.cells 4 w w.heap.size A n es) (hl : es.length = n) (hc : n ≤ c) (hc2 : c ≤ maxLen) (hm : MapV Try.prog 3 enL w b nm f) (h9 : Blk w g9 89 #[.map (some b)]) (h13 : Blk w g13 3 #[.int .i64 nv])
    (hD : BndD f M) (hM : 0 ≤ M ∧ M ≤ 1000000) (hnv : 0 ≤ nv ∧ nv ≤ 1000000) (he : ∀ e ∈ es, (0 ≤ e.fr ∧ e.fr ≤ 1000000) ∧ (0 ≤ e.tt ∧ e.tt ≤ 1000000) ∧ 0 ≤ e.cst ∧ e.cst ≤ 1000000) :
    Calls Try.prog 57 #[.slice A n c, .func (.func 58) #[] #[.pointer (some ⟨g9, 0, none⟩), .pointer (some ⟨g13, 0, none⟩)]] w fun e w' => e = .returned (.int .i64 (idxE (hitE f nv) es 0)) ∧ Below w.heap.size w w' := by
  have HR := Lib.hid hr
  have HL := Lib.hid hl
  have HE := Lib.hid he
  have HC : Hid (∀ (W : World) (ei fr tt cst : Int), Below w.heap.size w W → (0 ≤ fr ∧ fr ≤ 1000000) → (0 ≤ tt ∧ tt ≤ 1000000) → (0 ≤ cst ∧ cst ≤ 1000000) → Calls Try.prog 58 #[.agg #[.int .i64 ei, .int .i64 fr, .int .i64 tt, .int .i64 cst], .pointer (some ⟨g9, 0, none⟩), .pointer (some ⟨g13, 0, none⟩)] W fun e w' => e = .returned (.bool (hitE f nv ⟨ei, fr, tt, cst⟩)) ∧ Below W.heap.size W w') := fun W ei fr tt cst hb h1 h2 h3 =>
    shc_any b nm g9 g13 f M nv ei fr tt cst W (hm.below hb hm.lt) (h9.below hb h9.lt) (h13.below hb h13.lt) hD hM h3 h1 h2 hnv
  obtain ⟨R, hR⟩ : ∃ R, idxE (hitE f nv) es 0 = R := ⟨_, rfl⟩
  have HF0 : Hid (idxE (hitE f nv) (es.drop 0) 0 = R) := hide (by rw [List.drop_zero]; exact hR)
  have HEnd : Hid (idxE (hitE f nv) (es.drop n) n = -1) := hide (by rw [List.drop_of_length_le (by omega)]; rfl)
  rw [hR]
  unfold maxLen at hc2
  clear hr hl he hm h9 h13 hD hnv hR
  go_enter Try.func57, Try.ntmps57
  go_wp2_with fail
  go_loopw [8] (fun i wr => ∃ k : Nat, k ≤ n ∧ i = .int .i64 k ∧ idxE (hitE f nv) (es.drop k) k = R ∧ Below w.heap.size w wr) (fun i _ => n - (intOf i).toNat)
  case atStart => exact ⟨0, by omega, rfl, HF0.out, Below.refl _ _⟩
  case round =>
    obtain ⟨k, hk, rfl, hF, hbr⟩ := hrel
    obtain ⟨wo, rfl⟩ : ∃ wo : World, wo = wr := ⟨_, rfl⟩
    have HF := Lib.hid hF
    have HB := Lib.hid hbr
    clear hF hbr
    by_cases hlt : k < n
    · obtain ⟨ad, rfl, hab, hcl⟩ := strs_at (HR.out.below HB.out) (fun _ => rfl) HL.out hlt ed0
      have hem := HE.out _ (ed_mem (es := es) (k := k) (by rw [HL.out]; exact hlt))
      have HF1 := Lib.hid (HF.out.symm.trans (idxE_at (hitE f nv) (l := es) (by rw [HL.out]; exact hlt))).symm
      obtain ⟨⟨ei, fr, tt, cst⟩, hq⟩ : ∃ q, es.getD k ed0 = q := ⟨_, rfl⟩
      have hq' : es.getD k edZ = ⟨ei, fr, tt, cst⟩ := hq
      rw [hq] at hcl
      rw [hq'] at hem HF1
      simp only at hem
      have HC1 := Lib.hid (HC.out wo ei fr tt cst HB.out hem.1 hem.2.1 hem.2.2)
      have HCl : Hid (∀ i u, ([.int .i64 ei, .int .i64 fr, .int .i64 tt, .int .i64 cst] : List Value)[i]? = some u → wo.cell? ((ad.add (k * 4)).add i) = some u) := hcl
      generalize hitE f nv ⟨ei, fr, tt, cst⟩ = hit at *
      clear hcl hq hq' hem
      go_wp2_with (refine wpList_load_at 96 (.tmp 14) rfl rfl (ad.add (k * 4)) rfl [.int .i64 ei, .int .i64 fr, .int .i64 tt, .int .i64 cst] HCl.out _ Try.underlying96 rfl (by kernel_rfl) ?_)
      with_reducible refine HC1.out.mono ?_
      rintro e w1 ⟨rfl, hb1⟩
      have HB1 := Lib.hid (HB.out.trans (hb1.mono HB.out.size))
      clear hb1
      cases hit with
      | true =>
        have HR2 : Hid ((k : Int) = R) := by have h := HF1.out; rw [if_pos rfl] at h; exact h
        go_wp2_with fail
        go_ret
        exact ⟨ret_ig HR2.out, HB1.out⟩
      | false =>
        have HR2 : Hid (idxE (hitE f nv) (es.drop (k + 1)) (k + 1) = R) := by have h := HF1.out; rw [if_neg (by decide)] at h; exact h
        go_wp2_with fail
        go_roundw
        case rel => exact ⟨k + 1, by omega, by go_num, HR2.out, HB1.out⟩
        case measure => simp [intOf]; omega
    · obtain rfl : k = n := by omega
      have HR2 : Hid ((-1 : Int) = R) := hide (HEnd.out.symm.trans HF.out)
      go_wp2_with fail
      go_ret
      exact ⟨ret_ig HR2.out, HB.out⟩

/-- an edge that leads on is there -/
theorem hit_there {es : List Ed} {t : Int} (hc : ∀ e ∈ es, 0 ≤ e.cst) {v : Int} {a : Int × Int} (ha : lengthsD es t v = some a) (hv : v ≠ t) : ∃ e ∈ es, hitE (lengthsD es t) v e = true := by
  obtain ⟨e, he, h1, b, hb, h2⟩ := (lengths_is hc t).next ha hv
  refine ⟨e, he, ?_⟩
  rw [hit_some hb, ha]
  simp [h1, h2]
theorem hit_next {f : DM} {v : Int} {e : Ed} (h : hitE f v e = true) {a : Int × Int} (ha : f v = some a) : ∃ b, f e.tt = some b ∧ a.2 = b.2 + 1 := by
  cases hb : f e.tt with
  | none => rw [hit_none hb] at h; cases h
  | some b =>
    rw [hit_some hb, ha] at h
    simp at h
    exact ⟨b, rfl, h.2.2⟩
theorem lengths_bnd {es : List Ed} (t : Int) (hc : ∀ e ∈ es, 0 ≤ e.cst ∧ e.cst ≤ 1000000) (n : Nat) (hn : es.length = n) : ∃ M : Int, 0 ≤ M ∧ M ≤ 1000 * (n : Int) + 1000 * (n : Int) * 0 + (n : Int) * (n : Int) ∧ BndD (lengthsD es t) M := by
  have hfold : ∀ (l : List Ed) (s : DM × Bool) (M : Int), (∀ e ∈ l, e ∈ es) → 0 ≤ M → BndD s.1 M → BndD (l.foldl relax s).1 (M + (l.length : Int)) := by
    intro l
    induction l with
    | nil => intro s M _ _ h; simpa using h
    | cons e l ih =>
      intro s M hl hM h
      have h1 : BndD (relax s e).1 (M + 1) := by
        cases ha : s.1 e.tt with
        | none => rw [relax_none ha]; exact h.mono (by omega)
        | some a =>
          cases hb : s.1 e.fr with
          | none => rw [relax_new ha hb]; exact h.upd ha (hc e (hl e (by simp)))
          | some o =>
            cases hls : lessL (a.1 + e.cst, a.2 + 1) o with
            | true => rw [relax_less' ha hb hls]; exact h.upd ha (hc e (hl e (by simp)))
            | false => rw [relax_not ha hb hls]; exact h.mono (by omega)
      have h2 := ih (relax s e) (M + 1) (fun x hx => hl x (by simp [hx])) (by omega) h1
      rw [List.foldl_cons]
      exact h2.mono (by simp; omega)
  have hlen : ∀ (m : Nat) (f : DM) (M : Int), 0 ≤ M → BndD f M → BndD (lenF es m f) (M + (m : Int) * (n : Int)) := by
    intro m
    induction m with
    | zero => intro f M _ h; rw [lenF]; exact h.mono (by simp)
    | succ m ih =>
      intro f M hM h
      have h1 : BndD (roundD es f).1 (M + (n : Int)) := by
        have := hfold es (f, false) M (fun _ h => h) hM h
        rw [hn] at this
        exact this
      have e1 : M + ((m + 1 : Nat) : Int) * (n : Int) = M + (n : Int) + (m : Int) * (n : Int) := by
        rw [Int.natCast_add, Int.add_mul]
        simp
        omega
      have hmn : (0 : Int) ≤ (m : Int) * (n : Int) := Int.mul_nonneg (by omega) (by omega)
      rw [lenF]
      split
      · rw [e1]; exact ih _ _ (by omega) h1
      · rw [e1]; exact h1.mono (by omega)
  refine ⟨0 + (n : Int) * (n : Int), ?_, ?_, ?_⟩
  · have hmn : (0 : Int) ≤ (n : Int) * (n : Int) := Int.mul_nonneg (by omega) (by omega)
    omega
  · omega
  · have h := hlen es.length (startD t) 0 (by omega) (BndD.start t)
    rw [hn] at h
    unfold lengthsD
    rw [hn]
    exact h
end Go.Proofs.Ytegijfmdjaehjaa
