/-
  net and Value of the reference of flow, walked.
  search of the reference of flow, walked.
  way of the reference of flow, walked.
  Find and Max of the reference of flow, walked.
  Max of the reference of flow, Egress and Empty of that of census, walked.
  small of the law of chapter 55, walked; what is known of arguments that are maps.
-/
import Derived.Test.YtihmboibpjfohaaCenO
import Derived.Test.YtihmboibpjfohaaFlrN
import Derived.Test.YtihmboibpjfohaaHasA
import Derived.Test.YtihmboibpjfohaaTwoI
import Derived.StillTailTactics
import Derived.Test.YtihmboibpjfohaaCenQ
import Derived.IntWalk
import Derived.Test.YtihmboibpjfohaaTerV
import Derived.Test.YtihmboibpjfohaaCenR
namespace Go.Proofs.Ytihmboibpjfohaa

section
open Go.RowKit

set_option maxRecDepth 100000 in
set_option maxHeartbeats 4000000 in
theorem rnet_any (A F : Option Addr) (n c c2 : Nat) (es : List Ed) (f : List Int) (s : Int) (w : World) (hr : Strs Ed.cells 4 w w.heap.size A n es) (hl : es.length = n) (hc : n ≤ c) (hc2 : c ≤ maxLen) (hf : Ints w w.heap.size F n f) (hd : n ≤ c2) (hd2 : c2 ≤ maxLen) (hn : n ≤ 1000)
    (hb : ∀ i, i < es.length → 0 ≤ f.getD i 0 ∧ f.getD i 0 ≤ 1000000) :
    Calls Try.prog 61 #[.slice A n c, .slice F n c2, .int .i64 s] w fun e w' => e = .returned (.int .i64 (netN es f s)) ∧ w = w' := by
  have HR := Lib.hid hr
  have HF := Lib.hid hf
  have HL := Lib.hid hl
  have hfl := hf.ilen
  have HSn : Hid (∀ k, k < n → netN (es.take (k + 1)) (f.take (k + 1)) s = netN (es.take k) (f.take k) s + (if (es.getD k ed0).fr = s then f.getD k 0 else 0) - (if (es.getD k ed0).tt = s then f.getD k 0 else 0)) := fun k hk => net_snoc (by omega) (by omega) s
  have HLe : Hid (∀ k, k ≤ n → -(1000000 * (k : Int)) ≤ netN (es.take k) (f.take k) s ∧ netN (es.take k) (f.take k) s ≤ 1000000 * (k : Int)) := fun k hk => net_take_le (by omega) hb k (by omega) s
  have HBd : Hid (∀ k, k < n → 0 ≤ f.getD k 0 ∧ f.getD k 0 ≤ 1000000) := fun k hk => hb k (by omega)
  have HEnd : Hid (netN (es.take n) (f.take n) s = netN es f s) := hide (by rw [List.take_of_length_le (by omega), List.take_of_length_le (by omega)])
  have H0 : Hid (netN (es.take 0) (f.take 0) s = 0) := hide (by simp [netN])
  clear hr hf hl hb hfl
  go_enter Try.func61, Try.ntmps61
  go_wp2_with fail
  go_loop [7, 8] (fun v i => ∃ k : Nat, k ≤ n ∧ i = .int .i64 k ∧ v = .int .i64 (netN (es.take k) (f.take k) s)) (fun _ i => n - (intOf i).toNat)
  case atStart => exact ⟨0, by omega, rfl, by rw [H0.out]⟩
  case round =>
    obtain ⟨k, hk, rfl, rfl⟩ := hrel
    by_cases hlt : k < n
    · obtain ⟨ad, rfl, hab, hcl⟩ := strs_at HR.out (fun _ => rfl) HL.out hlt ed0
      obtain ⟨af, rfl, hafb, hfc⟩ := HF.out.int hlt
      have HS1 := Lib.hid (HSn.out k hlt)
      have hle := HLe.out k hk
      have hbd := HBd.out k hlt
      obtain ⟨⟨ei, fr, tt, cst⟩, hq⟩ : ∃ q, es.getD k ed0 = q := ⟨_, rfl⟩
      rw [hq] at hcl HS1
      simp only at HS1
      generalize f.getD k 0 = x at *
      obtain ⟨T1, hT1⟩ : ∃ x, netN (es.take (k + 1)) (f.take (k + 1)) s = x := ⟨_, rfl⟩
      rw [hT1] at HS1
      have HN1 := Lib.hid hT1
      clear hT1
      generalize netN (es.take k) (f.take k) s = T at *
      have p1 : w.cell? ⟨(ad.add (k * 4)).block, (ad.add (k * 4)).off + 1, none⟩ = some (.int .i64 fr) := hcl 1 _ rfl
      have p2 : w.cell? ⟨(ad.add (k * 4)).block, (ad.add (k * 4)).off + 2, none⟩ = some (.int .i64 tt) := hcl 2 _ rfl
      clear hcl hq
      by_cases h1 : fr = s
      · have d1 : (fr == s) = true := beq_iff_eq.2 h1
        have H1 := Lib.hid h1
        clear h1
        by_cases h2 : tt = s
        · have d2 : (tt == s) = true := beq_iff_eq.2 h2
          have HT : Hid (T1 = T) := by show _ = _; rw [HS1.out, if_pos H1.out, if_pos h2]; omega
          clear h2
          go_wp2_with fail
          go_round
          case rel => exact ⟨k + 1, by omega, by go_num, by rw [HN1.out, HT.out]⟩
          case measure => simp [intOf]; omega
        · have d2 : (tt == s) = false := beq_eq_false_iff_ne.2 h2
          have HT : Hid (T1 = T + x) := by show _ = _; rw [HS1.out, if_pos H1.out, if_neg h2, Int.sub_zero]
          clear h2
          go_wp2_with fail
          go_round
          case rel => exact ⟨k + 1, by omega, by go_num, by rw [HN1.out, HT.out]⟩
          case measure => simp [intOf]; omega
      · have d1 : (fr == s) = false := beq_eq_false_iff_ne.2 h1
        by_cases h2 : tt = s
        · have d2 : (tt == s) = true := beq_iff_eq.2 h2
          have HT : Hid (T1 = T - x) := by show _ = _; rw [HS1.out, if_neg h1, if_pos h2, Int.add_zero]
          clear h2
          go_wp2_with fail
          go_round
          case rel => exact ⟨k + 1, by omega, by go_num, by rw [HN1.out, HT.out]⟩
          case measure => simp [intOf]; omega
        · have d2 : (tt == s) = false := beq_eq_false_iff_ne.2 h2
          have HT : Hid (T1 = T) := by show _ = _; rw [HS1.out, if_neg h1, if_neg h2, Int.add_zero, Int.sub_zero]
          clear h1 h2
          go_wp2_with fail
          go_round
          case rel => exact ⟨k + 1, by omega, by go_num, by rw [HN1.out, HT.out]⟩
          case measure => simp [intOf]; omega
    · obtain rfl : k = n := by omega
      go_wp2_with fail
      go_ret
      exact ⟨ret_int HEnd.out, rfl⟩

set_option maxRecDepth 100000 in
theorem rvalue_any (A F : Option Addr) (n c c2 : Nat) (es : List Ed) (f : List Int) (s : Int) (w : World) (hr : Strs Ed.cells 4 w w.heap.size A n es) (hl : es.length = n) (hc : n ≤ c) (hc2 : c ≤ maxLen) (hf : Ints w w.heap.size F n f) (hd : n ≤ c2) (hd2 : c2 ≤ maxLen) (hn : n ≤ 1000)
    (hb : ∀ i, i < es.length → 0 ≤ f.getD i 0 ∧ f.getD i 0 ≤ 1000000) :
    Calls Try.prog 48 #[.slice A n c, .slice F n c2, .int .i64 s] w fun e w' => e = .returned (.int .i64 (netN es f s)) ∧ w = w' := by
  have HC := Lib.hid (rnet_any A F n c c2 es f s w hr hl hc hc2 hf (by assumption) (by assumption) (by assumption) hb)
  obtain ⟨T, hT⟩ : ∃ x, netN es f s = x := ⟨_, rfl⟩
  rw [hT] at HC ⊢
  clear hT hr hl hf hb
  go_enter Try.func48, Try.ntmps48
  go_wp2_with fail
  with_reducible refine HC.out.mono ?_
  rintro e w' ⟨rfl, rfl⟩
  go_wp2_with fail
  go_ret
  exact ⟨rfl, rfl⟩
end

section
open Go.RowKit

/-- at the head of the outer loop: the nodes ahead of index p are handled -/
structure SoI (es : List Ed) (f : List Int) (s : Int) (p : Nat) (g : Int → Option Mv) (seen via : List Int) : Prop where
  sr : SrI es f s g seen
  vi : ViaI g seen via
  le : p ≤ seen.length
  cl : ∀ j, j < p → ClosedTo es f g (seen.getD j 0) es.length
theorem SoI.start (es : List Ed) (f : List Int) (s : Int) : SoI es f s 0 (putF (fun _ => none) s ⟨0, false⟩) [s] [0] :=
  ⟨SrI.start es f s, ViaI.start s _, by simp, fun j hj => by omega⟩
theorem SoI.in_ {es : List Ed} {f : List Int} {s : Int} {p : Nat} {g : Int → Option Mv} {seen via : List Int} (h : SoI es f s p g seen via) (hp : p < seen.length) : SeI es f s p 0 g seen via := ⟨h.sr, h.vi, hp, h.cl, fun k hk => by omega⟩
theorem SeI.out {es : List Ed} {f : List Int} {s : Int} {p : Nat} {g : Int → Option Mv} {seen via : List Int} (h : SeI es f s p es.length g seen via) : SoI es f s (p + 1) g seen via :=
  ⟨h.sr, h.vi, h.lt, fun j hj => by
    rcases Nat.lt_or_ge j p with h1 | h1
    · exact h.cl j h1
    · obtain rfl : j = p := by omega
      exact h.now⟩
/-- between the two tests of an edge: the first one is done with -/
structure SmI (es : List Ed) (f : List Int) (s : Int) (p k : Nat) (g : Int → Option Mv) (seen via : List Int) : Prop where
  se : SeI es f s p k g seen via
  one : (es.getD k edZ).fr = seen.getD p 0 → 0 < roomN es f ⟨k, true⟩ → (es.getD k edZ).tt ∈ seen
section
variable {es : List Ed} {f : List Int} {s : Int} {p k : Nat} {g : Int → Option Mv} {seen via : List Int} {ei fr tt cst x y : Int}
theorem SeI.no1 (h : SeI es f s p k g seen via) (he : es.getD k edZ = ⟨ei, fr, tt, cst⟩) (hx : f.getD k 0 = x) (hy : seen.getD p 0 = y) {b1 b2 b3 : Bool} (h1 : (fr == y) = b1) (h2 : decide (x < cst) = b2) (h3 : seen.contains tt = b3) (hno : (b1 && (b2 && !b3)) = false) : SmI es f s p k g seen via := by
  refine ⟨h, fun a b => ?_⟩
  rw [he] at a ⊢
  rw [hy] at a
  have e1 : b1 = true := by rw [← h1]; exact beq_iff_eq.2 a
  have e2 : b2 = true := by
    rw [← h2]
    unfold roomN at b
    have he' : es.getD k ⟨0, 0, 0, 0⟩ = ⟨ei, fr, tt, cst⟩ := he
    rw [if_pos rfl, he', hx] at b
    exact decide_eq_true (by simp only at b; omega)
  rw [e1, e2] at hno
  have e3 : b3 = true := by simpa using hno
  rw [e3] at h3
  simpa using h3
theorem SeI.yes1 (h : SeI es f s p k g seen via) (hk : k < es.length) (he : es.getD k edZ = ⟨ei, fr, tt, cst⟩) (hx : f.getD k 0 = x) (hy : seen.getD p 0 = y) {b1 b2 b3 : Bool} (h1 : (fr == y) = b1) (h2 : decide (x < cst) = b2) (h3 : seen.contains tt = b3) (hno : (b1 && (b2 && !b3)) = true) :
    SmI es f s p k (putF g tt ⟨k, true⟩) (seen ++ [tt]) (via ++ [(k : Int) + 1]) := by
  simp only [Bool.and_eq_true, Bool.not_eq_true'] at hno
  obtain ⟨n1, n2, n3⟩ := hno
  rw [n1] at h1
  rw [n2] at h2
  rw [n3] at h3
  have he' : es.getD k ⟨0, 0, 0, 0⟩ = ⟨ei, fr, tt, cst⟩ := he
  have ht : mvTo es ⟨k, true⟩ = tt := by unfold mvTo; rw [if_pos rfl, he']
  have h5 := h.put (m := ⟨k, true⟩) hk (by unfold mvFrom; rw [if_pos rfl, he', hy]; exact beq_iff_eq.1 h1) (by rw [ht]; simpa using h3) (by unfold roomN; rw [if_pos rfl, he', hx]; have := of_decide_eq_true h2; simp only; omega)
  rw [ht] at h5
  exact ⟨h5, fun _ _ => by rw [he]; simp⟩
theorem SmI.no2 (h : SmI es f s p k g seen via) (he : es.getD k edZ = ⟨ei, fr, tt, cst⟩) (hx : f.getD k 0 = x) (hy : seen.getD p 0 = y) {b1 b2 b3 : Bool} (h1 : (tt == y) = b1) (h2 : decide (x > 0) = b2) (h3 : seen.contains fr = b3) (hno : (b1 && (b2 && !b3)) = false) : SeI es f s p (k + 1) g seen via := by
  refine h.se.adv h.one fun a b => ?_
  rw [he] at a ⊢
  rw [hy] at a
  have e1 : b1 = true := by rw [← h1]; exact beq_iff_eq.2 a
  have e2 : b2 = true := by
    rw [← h2]
    unfold roomN at b
    rw [if_neg Bool.false_ne_true, hx] at b
    exact decide_eq_true b
  rw [e1, e2] at hno
  have e3 : b3 = true := by simpa using hno
  rw [e3] at h3
  simpa using h3
theorem SmI.yes2 (h : SmI es f s p k g seen via) (hk : k < es.length) (he : es.getD k edZ = ⟨ei, fr, tt, cst⟩) (hx : f.getD k 0 = x) (hy : seen.getD p 0 = y) {b1 b2 b3 : Bool} (h1 : (tt == y) = b1) (h2 : decide (x > 0) = b2) (h3 : seen.contains fr = b3) (hno : (b1 && (b2 && !b3)) = true) :
    SeI es f s p (k + 1) (putF g fr ⟨k, false⟩) (seen ++ [fr]) (via ++ [-(k : Int) - 1]) := by
  simp only [Bool.and_eq_true, Bool.not_eq_true'] at hno
  obtain ⟨n1, n2, n3⟩ := hno
  rw [n1] at h1
  rw [n2] at h2
  rw [n3] at h3
  have he' : es.getD k ⟨0, 0, 0, 0⟩ = ⟨ei, fr, tt, cst⟩ := he
  have ht : mvTo es ⟨k, false⟩ = fr := by unfold mvTo; rw [if_neg Bool.false_ne_true, he']
  have hc : codeM ⟨k, false⟩ = -(k : Int) - 1 := by rw [codeM_bwd rfl]; simp only; omega
  have h5 := h.se.put (m := ⟨k, false⟩) hk (by unfold mvFrom; rw [if_neg Bool.false_ne_true, he', hy]; exact beq_iff_eq.1 h1) (by rw [ht]; simpa using h3) (by unfold roomN; rw [if_neg Bool.false_ne_true, hx]; exact of_decide_eq_true h2)
  rw [ht, hc] at h5
  refine h5.adv (fun a b => ?_) fun _ _ => by rw [he]; simp
  rw [getD_app h.se.lt] at a
  exact List.mem_append_left _ (h.one a b)
end
def RSeR (es : List Ed) (f : List Int) (s : Int) (w : World) (e : Ending) (w' : World) : Prop :=
  ∃ (vs vv : Value) (seen via : List Int) (g : Int → Option Mv), e = .returned (.tuple #[vs, vv]) ∧ TwoI w' w.heap.size vs vv seen via ∧ Below w.heap.size w w' ∧ SoI es f s seen.length g seen via
theorem rSeR_of {es : List Ed} {f : List Int} {s : Int} {w w' : World} {vs vv : Value} {seen via : List Int} {g : Int → Option Mv} {p : Nat} (h1 : TwoI w' w.heap.size vs vv seen via) (h2 : Below w.heap.size w w') (h3 : SoI es f s p g seen via) (hp : ¬ p < seen.length) : RSeR es f s w (.returned (.tuple #[vs, vv])) w' := by
  obtain rfl : p = seen.length := by have := h3.le; omega
  exact ⟨vs, vv, seen, via, g, rfl, h1, h2, h3⟩

set_option maxRecDepth 100000 in
set_option maxHeartbeats 4000000 in
theorem rsearch_any (A F : Option Addr) (n c c2 : Nat) (es : List Ed) (f : List Int) (s : Int) (w : World) (hr : Strs Ed.cells 4 w w.heap.size A n es) (hl : es.length = n) (hc : n ≤ c) (hc2 : c ≤ maxLen) (hf : Ints w w.heap.size F n f) (hd : n ≤ c2) (hd2 : c2 ≤ maxLen) (hn : n ≤ 1000) :
    Calls Try.prog 62 #[.slice A n c, .slice F n c2, .int .i64 s] w (RSeR es f s w) := by
  have HR := Lib.hid hr
  have HF := Lib.hid hf
  have HL := Lib.hid hl
  have HFin : Hid (∀ (w' : World) (vs vv : Value) (seen via : List Int) (g : Int → Option Mv) (p : Nat), TwoI w' w.heap.size vs vv seen via → Below w.heap.size w w' → SoI es f s p g seen via → ¬ p < seen.length → RSeR es f s w (.returned (.tuple #[vs, vv])) w') := fun w' vs vv seen via g p h1 h2 h3 h4 => rSeR_of h1 h2 h3 h4
  generalize RSeR es f s w = RR at *
  have HHas : Hid (∀ (A : Option Addr) (n c : Nat) (l : List Int) (x : Int) (b : Bool) (W : World), Ints W W.heap.size A n l → n ≤ 10000 → l.contains x = b → Calls Try.prog 66 #[.slice A n c, .int .i64 x] W fun e w' => e = .returned (.bool b) ∧ W = w') := fun A n c l x b W h1 h2 h3 => r6has_any A n c W.heap.size l x b W h1 (by simp only [maxLen]; omega) h3
  clear hr hf hl
  go_enter Try.func62, Try.ntmps62
  go_upto_region 3 with (fail)
  have HBw0 := (Blk.new w 3 #[.int .i64 s])
  have HLw0 := (below_new w (.cells #[.int .i64 s] 3))
  have hsw0 : (w.alloc (.cells #[.int .i64 s] 3)).heap.size = w.heap.size + 1 := by simp
  generalize w.alloc (.cells #[.int .i64 s] 3) = w0 at HBw0 HLw0 hsw0 ⊢
  replace HBw0 := Lib.hid HBw0
  replace HLw0 := Lib.hid HLw0
  have hlw0 : w.heap.size < w0.heap.size := by omega
  replace hsw0 := Lib.hid hsw0
  have HBw1 := (Blk.new w0 3 #[.int .i64 0])
  have HLw1 := (below_new w0 (.cells #[.int .i64 0] 3))
  have hsw1 : (w0.alloc (.cells #[.int .i64 0] 3)).heap.size = w0.heap.size + 1 := by simp
  generalize w0.alloc (.cells #[.int .i64 0] 3) = w1 at HBw1 HLw1 hsw1 ⊢
  replace HBw1 := Lib.hid HBw1
  replace HLw1 := Lib.hid HLw1
  have hlw1 : w0.heap.size < w1.heap.size := by omega
  replace hsw1 := Lib.hid hsw1
  have HB1 := Lib.hid (HLw0.out.trans (HLw1.out.mono HLw0.out.size))
  have HT1 : Hid (TwoI w1 w.heap.size (.slice (some ⟨w.heap.size, 0, none⟩) 1 1) (.slice (some ⟨w.heap.size + 1, 0, none⟩) 1 1) [s] [0]) :=
    hide ⟨OwnI.of_blk (HBw0.out.below HLw1.out hlw0) (Nat.le_refl _), OwnI.of_blk (by have h := HBw1.out; rw [hsw0.out] at h; exact h) (Nat.le_succ _), .inr (.inr (by simp only [Value.ownBlock]; intro e; injection e with e; omega))⟩
  clear HBw0 HLw0 hsw0 hlw0 HBw1 HLw1 hsw1 hlw1
  go_wp2_with fail
  go_loopw [8, 9, 10] (fun vs vv i wr => ∃ (p : Nat) (seen via : List Int) (g : Int → Option Mv), i = .int .i64 p ∧ SoI es f s p g seen via ∧ TwoI wr w.heap.size vs vv seen via ∧ Below w.heap.size w wr) (fun _ _ i _ => 2 * n + 1 - (intOf i).toNat)
  case atStart => exact ⟨0, [s], [0], _, rfl, SoI.start es f s, HT1.out, HB1.out⟩
  case round =>
    clear HT1 HB1
    obtain ⟨p, seen, via, g, rfl, hS, hT, hbr⟩ := hrel
    obtain ⟨wo, rfl⟩ : ∃ wo : World, wo = wr := ⟨_, rfl⟩
    have hsh := hS.sr.short
    rw [HL.out] at hsh
    have hple := hS.le
    have HS := Lib.hid hS
    have HT := Lib.hid hT
    have HB := Lib.hid hbr
    obtain ⟨As, ns, cs, rfl, HLs, hs1, hs2, hsr⟩ := hT.a.nam
    obtain ⟨Av, nv, cv, rfl, HLv, hv1, hv2, hvr⟩ := hT.b.nam
    rw [HLs.out] at hsh hple
    clear hS hT hbr hsr hvr
    by_cases hlt : p < ns
    · have HSe : Hid (SeI es f s p 0 g seen via) := hide (HS.out.in_ (by rw [HLs.out]; exact hlt))
      clear HS
      go_upto_region 7 with (fail)
      go_loopw [8, 9, 11] (fun vs vv i wr => ∃ (k : Nat) (seen via : List Int) (g : Int → Option Mv), k ≤ n ∧ i = .int .i64 k ∧ SeI es f s p k g seen via ∧ TwoI wr w.heap.size vs vv seen via ∧ Below w.heap.size w wr) (fun _ _ i _ => n - (intOf i).toNat)
      case atStart => exact ⟨0, seen, via, g, by omega, rfl, HSe.out, HT.out, HB.out⟩
      case round =>
        clear HSe HT HB HLs HLv hs1 hs2 hv1 hv2 hsh hple hlt
        obtain ⟨k, seen, via, g, hk, rfl, hS, hT, hbr⟩ := hrel
        obtain ⟨wo, rfl⟩ : ∃ wo : World, wo = wr := ⟨_, rfl⟩
        have hsh := hS.sr.short
        rw [HL.out] at hsh
        have hplt := hS.lt
        have HS := Lib.hid hS
        have HT := Lib.hid hT
        have HB := Lib.hid hbr
        obtain ⟨As, ns, cs, rfl, HLs, hs1, hs2, hsr⟩ := hT.a.nam
        obtain ⟨Av, nv, cv, rfl, HLv, hv1, hv2, hvr⟩ := hT.b.nam
        have hvl := hS.vi.len
        rw [HLs.out] at hsh hplt hvl
        rw [HLv.out] at hvl
        subst hvl
        have HRs := Lib.hid hsr
        clear hS hT hbr hsr hvr
        by_cases hlt : k < n
        · obtain ⟨ad, rfl, hab, hcl⟩ := strs_at HR.out (fun _ => rfl) HL.out hlt ed0
          obtain ⟨af, rfl, hafb, hfc⟩ := HF.out.int hlt
          obtain ⟨aq, rfl, haqb, hsc⟩ := HRs.out.int hplt
          have HMo : Hid (∀ W : World, Below w.heap.size w W → W.cell? ⟨(ad.add (k * 4)).block, (ad.add (k * 4)).off + 1, none⟩ = some (.int .i64 (es.getD k ed0).fr) ∧ W.cell? ⟨(ad.add (k * 4)).block, (ad.add (k * 4)).off + 2, none⟩ = some (.int .i64 (es.getD k ed0).tt) ∧ W.cell? ⟨(ad.add (k * 4)).block, (ad.add (k * 4)).off + 3, none⟩ = some (.int .i64 (es.getD k ed0).cst) ∧ W.cell? (af.add k) = some (.int .i64 (f.getD k 0))) := fun W hW => ⟨(hW.cell (by show (ad.add (k * 4)).block < _; rw [block_of_add]; exact hab)).trans (hcl 1 _ rfl), (hW.cell (by show (ad.add (k * 4)).block < _; rw [block_of_add]; exact hab)).trans (hcl 2 _ rfl), (hW.cell (by show (ad.add (k * 4)).block < _; rw [block_of_add]; exact hab)).trans (hcl 3 _ rfl), (hW.cell (by rw [block_of_add]; exact hafb)).trans hfc⟩
          obtain ⟨⟨ei, fr, tt, cst⟩, hq⟩ : ∃ q, es.getD k edZ = q := ⟨_, rfl⟩
          have hq' : es.getD k ed0 = ⟨ei, fr, tt, cst⟩ := hq
          obtain ⟨x, hx⟩ : ∃ x, f.getD k 0 = x := ⟨_, rfl⟩
          obtain ⟨y, hy⟩ : ∃ y, seen.getD p 0 = y := ⟨_, rfl⟩
          rw [hq', hx] at HMo
          simp only at HMo
          rw [hy] at hsc
          obtain ⟨p1, p2, p3, pf⟩ := HMo.out wo HB.out
          have HQ := Lib.hid hq
          have HX := Lib.hid hx
          have HY := Lib.hid hy
          clear hcl hfc hq hq' hx hy
          obtain ⟨b1, hb1⟩ : ∃ b, (fr == y) = b := ⟨_, rfl⟩
          obtain ⟨b2, hb2⟩ : ∃ b, decide (x < cst) = b := ⟨_, rfl⟩
          obtain ⟨b3, hb3⟩ : ∃ b, seen.contains tt = b := ⟨_, rfl⟩
          have HB1 := Lib.hid hb1
          have HB2 := Lib.hid hb2
          have HHs : Hid (∀ m, Calls Try.prog 66 #[.slice (some aq) nv cs, .int .i64 tt] (wo.drewN m) fun e w' => e = .returned (.bool b3) ∧ wo.drewN m = w') := fun m => HHas.out _ nv cs seen tt b3 _ (HRs.out.drewN m) (by omega) hb3
          have HB3 := Lib.hid hb3
          clear hb3
          go_upto_region 9 with (fail)
          go_cut [58] (fun s wx => s = .bool (b1 && (b2 && !b3)) ∧ Below wo.heap.size wo wx)
          case first =>
            cases b1 with
            | false =>
              go_quiet ((go_at_call 66; first | (with_reducible exact quiet_left (HHs.out _))))
              go_wp2_with fail
              go_meet
              exact ⟨rfl, below_drewN (Below.refl _ _) _⟩
            | true =>
              cases b2 with
              | false =>
                go_quiet ((go_at_call 66; first | (with_reducible exact quiet_left (HHs.out _))))
                go_wp2_with fail
                go_meet
                exact ⟨rfl, below_drewN (Below.refl _ _) _⟩
              | true =>
                go_quiet ((go_at_call 66; first | (with_reducible exact quiet_left (HHs.out _))))
                go_wp2_with fail
                go_meet
                exact ⟨rfl, below_drewN (Below.refl _ _) _⟩
          obtain ⟨rfl, hcut⟩ := hcut
          obtain ⟨wk, rfl⟩ : ∃ wk : World, wk = wc := ⟨_, rfl⟩
          have HTk := Lib.hid (HT.out.below hcut)
          have HBk := Lib.hid (HB.out.trans (hcut.mono HB.out.size))
          have HSz : Hid (w.heap.size ≤ wk.heap.size) := hide HBk.out.size
          clear hcut HHs hsc pf p1 p2 p3 haqb HRs
          have hszk := HSz.out
          obtain ⟨p1, p2, p3, pf⟩ := HMo.out wk HBk.out
          go_upto_if 58 with (fail)
          go_cut [8, 9] (fun vs vv wx => ∃ (seen via : List Int) (g : Int → Option Mv), SmI es f s p k g seen via ∧ TwoI wx w.heap.size vs vv seen via ∧ Below w.heap.size w wx ∧ seen.getD p 0 = y)
          case first =>
            obtain ⟨b, hb⟩ : ∃ b, (b1 && (b2 && !b3)) = b := ⟨_, rfl⟩
            have HBb := Lib.hid hb
            rw [hb]
            clear hb
            cases b with
            | false =>
              have HSm : Hid (SmI es f s p k g seen via) := hide (HS.out.no1 HQ.out HX.out HY.out HB1.out HB2.out HB3.out HBb.out)
              go_wp2_with fail
              go_meet
              exact ⟨seen, via, g, HSm.out, HTk.out, HBk.out, HY.out⟩
            | true =>
              have HSm : Hid (SmI es f s p k (putF g tt ⟨k, true⟩) (seen ++ [tt]) (via ++ [(k : Int) + 1])) := hide (HS.out.yes1 (by rw [HL.out]; exact hlt) HQ.out HX.out HY.out HB1.out HB2.out HB3.out HBb.out)
              have HYn : Hid ((seen ++ [tt]).getD p 0 = y) := hide (by rw [getD_app (by rw [HLs.out]; exact hplt)]; exact HY.out)
              clear hb1 hb2
              go_upto_region 11 with (first
                | (at_builtin
                   refine wpList_app_lit ei_ints rfl (.tmp 59) (.tmp 65) rfl w.heap.size (.slice (some aq) nv cs) nv (seen.map (Value.int .i64)) rfl (HTk.out.a.row HLs.out) 1 rfl rfl (by simp [Value.oneCell']) (by simp only [maxLen]; omega) (by omega) hszk ?_
                   intro v3 w3 hown3 hbx3 hgx3 hat3
                   have HT3 : Hid (TwoI w3 w.heap.size v3 (.slice Av nv cv) (seen ++ [tt]) via) := hide (HTk.out.app HLs.out hgx3 hown3 hat3)
                   have HB3 := Lib.hid (HBk.out.trans hbx3)
                   obtain ⟨A3, n3, c3, rfl, HL3, h31, h32, _⟩ := HT3.out.a.nam
                   clear hown3 hbx3 hgx3 hat3))
              have hsz3 : w.heap.size ≤ w3.heap.size := HB3.out.size
              go_wp2_with (first
                | (at_builtin
                   refine wpList_app_lit ei_ints rfl (.tmp 67) (.tmp 70) rfl w.heap.size (.slice Av nv cv) nv (via.map (Value.int .i64)) rfl (HT3.out.b.row HLv.out) 1 rfl rfl (by simp [Value.oneCell']) (by simp only [maxLen]; omega) (by omega) hsz3 ?_
                   intro v4 w4 hown4 hbx4 hgx4 hat4
                   have HT4 : Hid (TwoI w4 w.heap.size (.slice A3 n3 c3) v4 (seen ++ [tt]) (via ++ [(k : Int) + 1])) := hide (HT3.out.symm.app HLv.out hgx4 hown4 hat4).symm
                   have HB4 := Lib.hid (HB3.out.trans hbx4)
                   clear hown4 hbx4 hgx4 hat4))
              go_meet
              exact ⟨_, _, _, HSm.out, HT4.out, HB4.out, HYn.out⟩
          obtain ⟨seen2, via2, g2, hSm, hT, hB, hy⟩ := hcut
          obtain ⟨wo, rfl⟩ : ∃ wo : World, wo = wc := ⟨_, rfl⟩
          have hsh := hSm.se.sr.short
          rw [HL.out] at hsh
          have hplt := hSm.se.lt
          have HSm := Lib.hid hSm
          have HT2 := Lib.hid hT
          have HB2' := Lib.hid hB
          obtain ⟨As, ns2, cs, rfl, HLs, hs1, hs2, hsr⟩ := hT.a.nam
          obtain ⟨Av, nv, cv, rfl, HLv, hv1, hv2, hvr⟩ := hT.b.nam
          have hvl := hSm.se.vi.len
          rw [HLs.out] at hsh hplt hvl
          rw [HLv.out] at hvl
          subst hvl
          obtain ⟨aq, rfl, haqb, hsc⟩ := hsr.int hplt
          rw [hy] at hsc
          have HRs := Lib.hid hsr
          have HY := Lib.hid hy
          clear hSm hT hB hsr hvr hy
          have hb1 := hsc
          clear hb1
          obtain ⟨d1, hd1⟩ : ∃ b, (tt == y) = b := ⟨_, rfl⟩
          obtain ⟨d2, hd2'⟩ : ∃ b, decide (x > 0) = b := ⟨_, rfl⟩
          obtain ⟨d3, hd3⟩ : ∃ b, seen2.contains fr = b := ⟨_, rfl⟩
          have HD1 := Lib.hid hd1
          have HD2 := Lib.hid hd2'
          have HHs : Hid (∀ m, Calls Try.prog 66 #[.slice (some aq) nv cs, .int .i64 fr] (wo.drewN m) fun e w' => e = .returned (.bool d3) ∧ wo.drewN m = w') := fun m => HHas.out _ nv cs seen2 fr d3 _ (HRs.out.drewN m) (by omega) hd3
          have HD3 := Lib.hid hd3
          clear hd3
          obtain ⟨p1, p2, p3, pf⟩ := HMo.out wo HB2'.out
          go_upto_region 12 with (fail)
          go_cut [98] (fun s wx => s = .bool (d1 && (d2 && !d3)) ∧ Below wo.heap.size wo wx)
          case first =>
            cases d1 with
            | false =>
              go_quiet ((go_at_call 66; first | (with_reducible exact quiet_left (HHs.out _))))
              go_wp2_with fail
              go_meet
              exact ⟨rfl, below_drewN (Below.refl _ _) _⟩
            | true =>
              cases d2 with
              | false =>
                go_quiet ((go_at_call 66; first | (with_reducible exact quiet_left (HHs.out _))))
                go_wp2_with fail
                go_meet
                exact ⟨rfl, below_drewN (Below.refl _ _) _⟩
              | true =>
                go_quiet ((go_at_call 66; first | (with_reducible exact quiet_left (HHs.out _))))
                go_wp2_with fail
                go_meet
                exact ⟨rfl, below_drewN (Below.refl _ _) _⟩
          obtain ⟨rfl, hcut⟩ := hcut
          obtain ⟨wk, rfl⟩ : ∃ wk : World, wk = wc := ⟨_, rfl⟩
          have HTk := Lib.hid (HT2.out.below hcut)
          have HBk := Lib.hid (HB2'.out.trans (hcut.mono HB2'.out.size))
          have HSz : Hid (w.heap.size ≤ wk.heap.size) := hide HBk.out.size
          clear hcut HHs hsc pf p1 p2 p3 haqb HRs hd1 hd2'
          have hszk := HSz.out
          obtain ⟨p1, p2, p3, pf⟩ := HMo.out wk HBk.out
          obtain ⟨b, hb⟩ : ∃ b, (d1 && (d2 && !d3)) = b := ⟨_, rfl⟩
          have HBb := Lib.hid hb
          rw [hb]
          clear hb
          cases b with
          | false =>
            have HS1 : Hid (SeI es f s p (k + 1) g2 seen2 via2) := hide (HSm.out.no2 HQ.out HX.out HY.out HD1.out HD2.out HD3.out HBb.out)
            go_wp2_with fail
            go_roundw
            case rel => exact ⟨k + 1, _, _, _, by omega, by go_num, HS1.out, HTk.out, HBk.out⟩
            case measure => simp [intOf]; omega
          | true =>
            have HS1 : Hid (SeI es f s p (k + 1) (putF g2 fr ⟨k, false⟩) (seen2 ++ [fr]) (via2 ++ [-(k : Int) - 1])) := hide (HSm.out.yes2 (by rw [HL.out]; exact hlt) HQ.out HX.out HY.out HD1.out HD2.out HD3.out HBb.out)
            go_upto_region 14 with (first
              | (at_builtin
                 refine wpList_app_lit ei_ints rfl (.tmp 99) (.tmp 105) rfl w.heap.size (.slice (some aq) nv cs) nv (seen2.map (Value.int .i64)) rfl (HTk.out.a.row HLs.out) 1 rfl rfl (by simp [Value.oneCell']) (by simp only [maxLen]; omega) (by omega) hszk ?_
                 intro v3 w3 hown3 hbx3 hgx3 hat3
                 have HT3 : Hid (TwoI w3 w.heap.size v3 (.slice Av nv cv) (seen2 ++ [fr]) via2) := hide (HTk.out.app HLs.out hgx3 hown3 hat3)
                 have HB3 := Lib.hid (HBk.out.trans hbx3)
                 obtain ⟨A3, n3, c3, rfl, HL3, h31, h32, _⟩ := HT3.out.a.nam
                 clear hown3 hbx3 hgx3 hat3))
            have hsz3 : w.heap.size ≤ w3.heap.size := HB3.out.size
            go_wp2_with (first
              | (at_builtin
                 refine wpList_app_lit ei_ints rfl (.tmp 107) (.tmp 111) rfl w.heap.size (.slice Av nv cv) nv (via2.map (Value.int .i64)) rfl (HT3.out.b.row HLv.out) 1 rfl rfl (by simp [Value.oneCell']) (by simp only [maxLen]; omega) (by omega) hsz3 ?_
                 intro v4 w4 hown4 hbx4 hgx4 hat4
                 have HT4 : Hid (TwoI w4 w.heap.size (.slice A3 n3 c3) v4 (seen2 ++ [fr]) (via2 ++ [-(k : Int) - 1])) := hide (HT3.out.symm.app HLv.out hgx4 hown4 hat4).symm
                 have HB4 := Lib.hid (HB3.out.trans hbx4)
                 clear hown4 hbx4 hgx4 hat4))
            go_roundw
            case rel => exact ⟨k + 1, _, _, _, by omega, by go_num, HS1.out, HT4.out, HB4.out⟩
            case measure => simp [intOf]; omega
        · obtain rfl : k = n := by omega
          have HS1 : Hid (SoI es f s (p + 1) g seen via) := hide (by have h := HS.out; rw [← HL.out] at h; exact h.out)
          go_wp2_with fail
          go_roundw
          case rel => exact ⟨p + 1, seen, via, g, by go_num, HS1.out, HT.out, HB.out⟩
          case measure => simp [intOf]; omega
    · go_wp2_with fail
      try go_ret2
      exact HFin.out _ _ _ _ _ _ _ HT.out HB.out HS.out (by rw [HLs.out]; exact hlt)
end

section
open Go.RowKit

/-- each code tells a move, but for that of the start -/
def CodesI (n : Nat) (via : List Int) : Prop := ∀ i, i < via.length → via.getD i 0 = 0 ∨ ∃ m : Mv, m.edge < n ∧ via.getD i 0 = codeM m
theorem codes_of {es : List Ed} {f : List Int} {s : Int} {g : Int → Option Mv} {seen via : List Int} (h : SrI es f s g seen) (hv : ViaI g seen via) : CodesI es.length via := fun i hi => by
  rw [hv.len] at hi
  rcases Nat.eq_zero_or_pos i with rfl | h0
  · exact .inl hv.head
  · obtain ⟨m, h1, h2⟩ := hv.code i h0 hi
    obtain ⟨m', k, a1, a2, a3, _⟩ := h.mv i h0 hi
    rw [h1] at a2
    obtain rfl := Option.some.inj a2
    exact .inr ⟨m, a3, h2⟩
theorem wayC_no {es : List Ed} {seen via : List Int} {j : Nat} {t : Int} (h : seen.getD j 0 ≠ t ∨ via.getD j 0 = 0) : wayC es seen via (j + 1) t = wayC es seen via j t := by rw [wayC, if_pos h]
theorem wayC_yes {es : List Ed} {seen via : List Int} {j : Nat} {t : Int} (h1 : seen.getD j 0 = t) (h2 : via.getD j 0 ≠ 0) : wayC es seen via (j + 1) t = via.getD j 0 :: wayC es seen via j (backC es (via.getD j 0)) := by rw [wayC, if_neg (by intro h; exact h.elim (fun h => h h1) h2)]
def WayR (es : List Ed) (seen via : List Int) (t : Int) (w : World) (e : Ending) (w' : World) : Prop :=
  ∃ (v : Value), e = .returned v ∧ OwnI w' w.heap.size v (wayC es seen via seen.length t) ∧ Below w.heap.size w w'

set_option maxRecDepth 100000 in
set_option maxHeartbeats 4000000 in
theorem fway_any (A S V : Option Addr) (n c ns cs cv : Nat) (es : List Ed) (seen via : List Int) (t : Int) (w : World) (hr : Strs Ed.cells 4 w w.heap.size A n es) (hl : es.length = n) (hc : n ≤ c) (hc2 : c ≤ maxLen) (hsr : Ints w w.heap.size S ns seen) (hvr : Ints w w.heap.size V ns via)
    (hs1 : ns ≤ cs) (hs2 : cs ≤ maxLen) (hv1 : ns ≤ cv) (hv2 : cv ≤ maxLen) (hn : n ≤ 1000) (hns : ns ≤ 10000) (hco : CodesI n via) :
    Calls Try.prog 63 #[.slice A n c, .slice S ns cs, .slice V ns cv, .int .i64 t] w (WayR es seen via t w) := by
  have HR := Lib.hid hr
  have HL := Lib.hid hl
  have HSr := Lib.hid hsr
  have HVr := Lib.hid hvr
  have HSl := Lib.hid hsr.ilen
  have HVl := Lib.hid hvr.ilen
  have HCo := Lib.hid hco
  have HFin : Hid (∀ (v : Value) (w' : World) (l : List Int), OwnI w' w.heap.size v l → Below w.heap.size w w' → l = wayC es seen via seen.length t → WayR es seen via t w (.returned v) w') := fun v w' l h1 h2 h3 => ⟨v, rfl, h3 ▸ h1, h2⟩
  generalize WayR es seen via t w = RR at *
  have H0 : Hid (wayC es seen via ns t = wayC es seen via seen.length t) := hide (by rw [HSl.out])
  obtain ⟨L, hL⟩ : ∃ x, wayC es seen via seen.length t = x := ⟨_, rfl⟩
  rw [hL] at H0 HFin
  clear hr hl hsr hvr hco hL
  go_enter Try.func63, Try.ntmps63
  go_wp2_with fail
  go_loopw [3, 9, 10] (fun tv v i wr => ∃ (j : Nat) (acc : List Int) (t' x : Int), j ≤ ns ∧ i = .int .i64 x ∧ Hid (x = (j : Int) - 1) ∧ tv = .int .i64 t' ∧ OwnI wr w.heap.size v acc ∧ Hid (acc ++ wayC es seen via j t' = L) ∧ acc.length + j ≤ ns ∧ Below w.heap.size w wr) (fun _ _ i _ => (intOf i + 1).toNat)
  case atStart => exact ⟨ns, [], t, _, Nat.le_refl _, rfl, hide rfl, rfl, OwnI.nil _ _, hide H0.out, by simp, Below.refl _ _⟩
  case round =>
    obtain ⟨j, acc, t', x, hj, rfl, HXj, rfl, hO, HA, hal, hbr⟩ := hrel
    obtain ⟨wo, rfl⟩ : ∃ wo : World, wo = wr := ⟨_, rfl⟩
    obtain ⟨Av, nv, av, rfl, HLv, hv3, hv4, hvs⟩ := hO.nam
    rw [HLv.out] at hal
    have HO := Lib.hid hO
    have HB := Lib.hid hbr
    clear hO hbr hvs
    cases j with
    | zero =>
      obtain rfl : x = -1 := by have := HXj.out; omega
      have HE : Hid (acc = L) := hide (by have h := HA.out; rw [wayC, List.append_nil] at h; exact h)
      go_wp2_with fail
      try go_ret
      exact HFin.out _ _ _ HO.out HB.out HE.out
    | succ j =>
      obtain rfl : x = (j : Int) := by have := HXj.out; omega
      have hjl : j < ns := by omega
      obtain ⟨aq, rfl, haqb, hsc⟩ := HSr.out.int hjl
      obtain ⟨av', rfl, havb, hvc⟩ := HVr.out.int hjl
      obtain ⟨y, hy⟩ : ∃ y, seen.getD j 0 = y := ⟨_, rfl⟩
      obtain ⟨z, hz⟩ : ∃ z, via.getD j 0 = z := ⟨_, rfl⟩
      rw [hy] at hsc
      rw [hz] at hvc
      have HCs : Hid (∀ W, Below w.heap.size w W → W.cell? (aq.add j) = some (.int .i64 y) ∧ W.cell? (av'.add j) = some (.int .i64 z)) := fun W hW => ⟨(hW.cell (by rw [block_of_add]; exact haqb)).trans hsc, (hW.cell (by rw [block_of_add]; exact havb)).trans hvc⟩
      obtain ⟨c1, c2⟩ := HCs.out wo HB.out
      have HY := Lib.hid hy
      have HZ := Lib.hid hz
      have hzc := HCo.out j (by rw [HVl.out]; exact hjl)
      rw [hz] at hzc
      have HZc := Lib.hid hzc
      clear hsc hvc hy hz hzc
      have d0 : decide ((j : Int) ≥ 0) = true := decide_eq_true (by omega)
      have hwj : (j : Int) - 1 + 1 = (j : Int) := by omega
      by_cases h1 : y = t'
      · have d1 : (y != t') = false := by rw [h1]; exact bne_self_eq_false _
        by_cases h2 : z = 0
        · have d2 : (z == 0) = true := beq_iff_eq.2 h2
          have HN : Hid (acc ++ wayC es seen via j t' = L) := hide (by rw [← HA.out, wayC_no (.inr (HZ.out.trans h2))])
          clear h1 h2 hwj
          go_wp2_with fail
          go_roundw
          case rel => exact ⟨j, acc, t', _, by omega, rfl, hide rfl, rfl, HO.out, hide HN.out, by rw [HLv.out]; omega, HB.out⟩
          case measure => simp [intOf]
        · have d2 : (z == 0) = false := beq_eq_false_iff_ne.2 h2
          have HN : Hid ((acc ++ [z]) ++ wayC es seen via j (backC es z) = L) := hide (by rw [← HA.out, wayC_yes (HY.out.trans h1) (by rw [HZ.out]; exact h2), HZ.out]; simp)
          have hm : ∃ m : Mv, m.edge < n ∧ z = codeM m := HZc.out.resolve_left h2
          clear h1 h2 hwj HA
          obtain ⟨⟨k, fw⟩, hk, hzm⟩ := hm
          simp only at hk
          obtain ⟨ad, rfl, hab, hcl⟩ := strs_at HR.out (fun _ => rfl) HL.out hk ed0
          obtain ⟨⟨ei, fr, tt, cst⟩, hq⟩ : ∃ q, es.getD k ed0 = q := ⟨_, rfl⟩
          rw [hq] at hcl
          have HMo : Hid (∀ W : World, Below w.heap.size w W → W.cell? ⟨(ad.add (k * 4)).block, (ad.add (k * 4)).off + 1, none⟩ = some (.int .i64 fr) ∧ W.cell? ⟨(ad.add (k * 4)).block, (ad.add (k * 4)).off + 2, none⟩ = some (.int .i64 tt)) := fun W hW => ⟨(hW.cell (by show (ad.add (k * 4)).block < _; rw [block_of_add]; exact hab)).trans (hcl 1 _ rfl), (hW.cell (by show (ad.add (k * 4)).block < _; rw [block_of_add]; exact hab)).trans (hcl 2 _ rfl)⟩
          have hbk : backC es z = if fw = true then fr else tt := by
            rw [hzm, backC_code]
            have hq' : es.getD k ⟨0, 0, 0, 0⟩ = ⟨ei, fr, tt, cst⟩ := hq
            unfold mvFrom
            simp only [hq']
          rw [hbk] at HN
          clear hbk hcl
          have hszo : w.heap.size ≤ wo.heap.size := HB.out.size
          cases fw with
          | true =>
            obtain rfl : z = (k : Int) + 1 := by rw [hzm, codeM_fwd rfl]
            have d3 : decide ((k : Int) + 1 > 0) = true := decide_eq_true (by omega)
            have e4 : (k : Int) + 1 - 1 = (k : Int) := by omega
            clear hzm
            go_upto_region 7 with (first
              | (at_builtin
                 refine wpList_app_lit ei_ints rfl (.tmp 31) (.tmp 36) rfl w.heap.size (.slice Av nv av) nv (acc.map (Value.int .i64)) rfl (HO.out.row HLv.out) 1 rfl rfl (by simp [Value.oneCell']) (by simp only [maxLen]; omega) (by omega) hszo ?_
                 intro v3 w3 hown3 hbx3 _ _
                 have HO3 : Hid (OwnI w3 w.heap.size v3 (acc ++ [(k : Int) + 1])) := hide (OwnI.push (w := wo) hown3 HLv.out)
                 have HB3 := Lib.hid (HB.out.trans hbx3)
                 clear hown3 hbx3))
            clear c1 c2
            obtain ⟨c1, c2⟩ := HCs.out w3 HB3.out
            obtain ⟨p1, p2⟩ := HMo.out w3 HB3.out
            go_wp2_with fail
            go_roundw
            case rel => exact ⟨j, _, _, _, by omega, rfl, hide rfl, rfl, HO3.out, hide (by rw [if_pos rfl] at HN; exact HN.out), by simp [HLv.out]; omega, HB3.out⟩
            case measure => simp [intOf]
          | false =>
            obtain rfl : z = -((k : Int) + 1) := by rw [hzm, codeM_bwd rfl]
            have d3 : decide (-((k : Int) + 1) > 0) = false := decide_eq_false (by omega)
            have e4 : -(-((k : Int) + 1)) - 1 = (k : Int) := by omega
            clear hzm
            go_upto_region 7 with (first
              | (at_builtin
                 refine wpList_app_lit ei_ints rfl (.tmp 31) (.tmp 36) rfl w.heap.size (.slice Av nv av) nv (acc.map (Value.int .i64)) rfl (HO.out.row HLv.out) 1 rfl rfl (by simp [Value.oneCell']) (by simp only [maxLen]; omega) (by omega) hszo ?_
                 intro v3 w3 hown3 hbx3 _ _
                 have HO3 : Hid (OwnI w3 w.heap.size v3 (acc ++ [-((k : Int) + 1)])) := hide (OwnI.push (w := wo) hown3 HLv.out)
                 have HB3 := Lib.hid (HB.out.trans hbx3)
                 clear hown3 hbx3))
            clear c1 c2
            obtain ⟨c1, c2⟩ := HCs.out w3 HB3.out
            obtain ⟨p1, p2⟩ := HMo.out w3 HB3.out
            go_wp2_with fail
            go_roundw
            case rel => exact ⟨j, _, _, _, by omega, rfl, hide rfl, rfl, HO3.out, hide (by rw [if_neg Bool.false_ne_true] at HN; exact HN.out), by simp [HLv.out]; omega, HB3.out⟩
            case measure => simp [intOf]
      · have d1 : (y != t') = true := bne_iff_ne.2 h1
        have HN : Hid (acc ++ wayC es seen via j t' = L) := hide (by rw [← HA.out, wayC_no (.inl (by rw [HY.out]; exact h1))])
        clear h1 hwj
        go_wp2_with fail
        go_roundw
        case rel => exact ⟨j, acc, t', _, by omega, rfl, hide rfl, rfl, HO.out, hide HN.out, by rw [HLv.out]; omega, HB.out⟩
        case measure => simp [intOf]
end

section
open Go.RowKit

abbrev mv0 : Mv := ⟨0, true⟩
theorem code_at {ms : List Mv} {i : Nat} (h : i < ms.length) : (ms.map codeM).getD i 0 = codeM (ms.getD i mv0) := by
  simp [List.getElem?_eq_getElem h]
theorem mv_mem {ms : List Mv} {i : Nat} (h : i < ms.length) : ms.getD i mv0 ∈ ms := by simp [List.getElem?_eq_getElem h]
theorem mv_at {ms : List Mv} {i : Nat} (h : i < ms.length) : ms[i] = ms.getD i mv0 := by simp [List.getElem?_eq_getElem h]
theorem found_none {es : List Ed} {f : List Int} {s t : Int} {g : Int → Option Mv} {seen via : List Int} (hS : SoI es f s seen.length g seen via) (hf : IsFlow es f s t) (ht : t ∉ seen) : MaxF es s t (netN es f s) f (fun v => (g v).isSome) := by
  refine hS.sr.done hf (fun y hy => ?_) (Classical.byContradiction fun hn => ht ((hS.sr.dom t).1 hn))
  obtain ⟨j, hj, rfl⟩ := mem_getD hy
  exact hS.cl j hj
theorem wayC_out {es : List Ed} {seen via : List Int} {t : Int} (ht : t ∉ seen) : wayC es seen via seen.length t = [] :=
  wayC_none fun j hj e => ht (by rw [← e]; exact getD_mem hj)
theorem wayC_in {es : List Ed} {f : List Int} {s t : Int} {g : Int → Option Mv} {seen via : List Int} {p : Nat} (hS : SoI es f s p g seen via) (hst : s ≠ t) (ht : t ∈ seen) : ∃ ms j, WayI es f seen j ms ∧ seen.getD j 0 = t ∧ wayC es seen via seen.length t = ms.map codeM ∧ 0 < ms.length := by
  obtain ⟨j, hj, rfl⟩ := mem_getD ht
  obtain ⟨ms, h1, h2⟩ := way_moves hS.sr hS.vi j seen.length hj (Nat.le_refl _)
  refine ⟨ms, j, h1, rfl, h2, List.length_pos_iff.2 (h1.ne ?_)⟩
  rcases Nat.eq_zero_or_pos j with rfl | h
  · exact absurd hS.sr.head.symm (fun e => hst e)
  · exact h
theorem pass_val {es : List Ed} {f seen : List Int} {t x : Int} {ms : List Mv} {i : Nat} {f' : List Int} (h : PassI es f seen t x ms i f') (hc : ∀ i, i < es.length → (es.getD i edZ).cst ≤ 1000000) {k : Nat} (hk : k < es.length) : 0 ≤ f'.getD k 0 ∧ f'.getD k 0 ≤ 1000000 := by
  have h1 := h.bnd.2 k hk
  have h2 := hc k hk
  omega

set_option maxRecDepth 100000 in
set_option maxHeartbeats 8000000 in
theorem rfind_any (A : Option Addr) (n c : Nat) (es : List Ed) (s t : Int) (w : World) (hr : Strs Ed.cells 4 w w.heap.size A n es) (hl : es.length = n) (hc : n ≤ c) (hc2 : c ≤ maxLen)
    (hn : n ≤ 1000) (hst : s ≠ t) (he : ∀ e ∈ es, 0 ≤ e.cst ∧ e.cst ≤ 1000000) :
    Calls Try.prog 49 #[.slice A n c, .int .i64 s, .int .i64 t] w (FindR es s t n w) := by
  have HR := Lib.hid hr
  have HL := Lib.hid hl
  have HSt := Lib.hid hst
  have HCo : Hid (∀ i, i < es.length → (es.getD i edZ).cst ≤ 1000000) := fun i hi => (he _ (ed_mem hi)).2
  have HC0 : Hid (∀ e ∈ es, 0 ≤ e.cst) := fun e h => (he e h).1
  have HFin : Hid (∀ (g : Nat) (f : List Int) (w' : World), Ints w' w'.heap.size (some ⟨g, 0, none⟩) n f → Below w.heap.size w w' → (∃ R, MaxF es s t (netN es f s) f R) → FindR es s t n w (.returned (.slice (some ⟨g, 0, none⟩) n n)) w') := fun g f w' h1 h2 ⟨R, h3⟩ => ⟨_, _, f, R, rfl, Nat.le_refl _, by simp only [maxLen]; omega, h1, h2, h3⟩
  generalize FindR es s t n w = RR at *
  obtain ⟨i0, hi0, hz0, hz1, hz2⟩ := info_parts (show (Try.prog.info? 3).map (fun i => (i.zero, i.size, i.bytes)) = some (some (.int .i64 0), 1, 8) by kernel_rfl)
  have HI := Lib.hid (And.intro hi0 (And.intro hz0 (And.intro hz1 hz2)))
  clear hr hl he hi0 hz0 hz1 hz2
  have d1 : (s == t) = false := beq_eq_false_iff_ne.2 hst
  clear hst
  go_enter Try.func49, Try.ntmps49
  go_upto_region 2 with
    (at_make
     refine wpList_make_full _ rfl (.tmp 15) (.tmp 15) _ rfl w.heap.size 3 i0 (.int .i64 0) 1 Try.underlying42 HI.out.1 HI.out.2.1 HI.out.2.2.1 .i64 .i64 _ _ n rfl rfl rfl rfl (by rw [HI.out.2.2.2]; omega) (by simp only [maxLen]; omega) (Nat.le_refl _) ?_
     intro w1 hown1 hg1
     have hb1 : Below w.heap.size w w1 := (Below.refl _ _).grown hg1 (Nat.le_refl _) (fun k hk => by cases hk)
     have HO1 := Lib.hid (zero_own (w := w) hown1)
     have HB1 := Lib.hid hb1
     clear hown1 hg1 hb1)
  have HFl : Hid (IsFlow es (List.replicate n 0) s t) := by have := flow_zero es s t HC0.out; rw [HL.out] at this; exact hide this
  obtain ⟨lo, hlo⟩ : ∃ x, w.heap.size = x := ⟨_, rfl⟩
  have HLo := Lib.hid hlo
  rw [hlo] at HO1 HB1 HFin ⊢
  clear hlo
  go_wp2_with fail
  go_loopg [8] (1000000 * n) (fun q v wr => ∃ f, netN es f s + (q : Int) = 1000000 * (n : Int) ∧ IsFlow es f s t ∧ OwnG 3 wr lo lo n n f ∧ Below lo w wr)
  case atStart => exact ⟨_, by have := net_zero s es n; rw [this]; simp, HFl.out, HO1.out, HB1.out⟩
  case round =>
    clear HO1 HB1 HFl
    obtain ⟨f, hq, hfl, hof, hbr⟩ := hrel
    obtain ⟨wo, rfl⟩ : ∃ wo : World, wo = wr := ⟨_, rfl⟩
    have HFl := Lib.hid hfl
    have HOf := Lib.hid hof
    have HB := Lib.hid hbr
    have HQ := Lib.hid hq
    have HBnd := Lib.hid (flow_bnd hfl HCo.out)
    have HRo : Hid (Strs Ed.cells 4 wo wo.heap.size A n es) := hide (HR.out.now (by rw [HLo.out]; exact hbr))
    clear hfl hof hbr hq
    go_wp2_with fail
    with_reducible refine (rsearch_any A (some ⟨lo, 0, none⟩) n c n es f s wo HRo.out HL.out hc hc2 (Reads.of_own HOf.out) (Nat.le_refl _) (by simp only [maxLen]; omega) hn).mono ?_
    rintro e w3 ⟨vs, vv, seen, via, g, rfl, hT, hb3, hS⟩
    obtain ⟨As, ns, cs, rfl, HLs, hs1, hs2, hsr⟩ := hT.a.nam
    obtain ⟨Av, nv, cv, rfl, HLv, hv1, hv2, hvr⟩ := hT.b.nam
    have hvl := hS.vi.len
    have hsh := hS.sr.short
    rw [HLs.out] at hsh hvl
    rw [HLv.out] at hvl
    rw [HL.out] at hsh
    subst hvl
    have HSr := Lib.hid hsr
    have HVr := Lib.hid hvr
    have HS := Lib.hid hS
    have HR3 := Lib.hid (HRo.out.now hb3)
    have HOf3 := Lib.hid (own_below HOf.out hb3 (Nat.le_refl _))
    have HB3 : Hid (Below lo w w3) := hide (HB.out.trans (hb3.mono (by rw [← HLo.out]; exact HB.out.size)))
    clear hT hb3 hS hsr hvr HRo HOf HB
    go_wp2_with fail
    with_reducible refine (fway_any A As Av n c nv cs cv es seen via t w3 HR3.out HL.out hc hc2 HSr.out HVr.out hs1 hs2 hv1 hv2 hn (by omega) (by have h := codes_of HS.out.sr HS.out.vi; rw [HL.out] at h; exact h)).mono ?_
    rintro e w4 ⟨vw, rfl, hOw, hb4⟩
    have HOf4 := Lib.hid (own_below HOf3.out hb4 (Nat.le_refl _))
    have HB4 : Hid (Below lo w w4) := hide (HB3.out.trans (hb4.mono (by rw [← HLo.out]; exact HB3.out.size)))
    have hlo3 : lo < w3.heap.size := (World.ownsRow.lt HOf3.out lo rfl).2
    have hsz4 := hb4.size
    clear hb4 HSr HVr HR3 HOf3 HB3
    by_cases ht : t ∈ seen
    · obtain ⟨ms, j0, hw, hj0, hwc, hpos⟩ := wayC_in HS.out HSt.out ht
      rw [hwc] at hOw
      obtain ⟨Aw, nw, cw, rfl, HLw, hw1, hw2, hwr⟩ := hOw.nam
      have hmsl : ms.length = nw := by have h := HLw.out; rw [List.length_map] at h; exact h
      have HMl := Lib.hid hmsl
      have hsho := hw.short
      rw [hmsl] at hpos hsho
      have hj0l : j0 < seen.length := by
        rcases Nat.lt_or_ge j0 seen.length with h | h
        · exact h
        · rw [List.getD_eq_getElem?_getD, List.getElem?_eq_none (by omega)] at hj0
          cases hw with
          | nil => simp at hmsl; omega
          | cons _ h2 => omega
      rw [HLs.out] at hj0l
      have HPI : Hid (∀ x, PassI es f seen t x ms 0 f) := fun x => PassI.start HFl.out hw hj0
      have HEd : Hid (∀ m ∈ ms, m.edge < es.length ∧ 0 < roomN es f m ∧ roomN es f m ≤ 1000000) := fun m hm => ⟨(hw.edge m hm).1, (hw.edge m hm).2, room_le HFl.out HBnd.out (hw.edge m hm).1⟩
      have HOw := Lib.hid hOw
      have HRw : Hid (∀ k, k < nw → ∃ m : Mv, ms.getD k mv0 = m ∧ m.edge < n ∧ 0 < roomN es f m ∧ roomN es f m ≤ 1000000) := fun k hk => by
        have h := HEd.out _ (mv_mem (show k < ms.length by rw [HMl.out]; exact hk))
        rw [HL.out] at h
        exact ⟨_, rfl, h⟩
      clear ht hw hj0 hwc hmsl hOw hwr HLs HLv HEd
      have d2 : ((nw : Int) == 0) = false := beq_eq_false_iff_ne.2 (by omega)
      have d3 : decide (0 < nw) = true := decide_eq_true hpos
      go_wp2_with fail
      clear d2 d3
      go_loopw [11, 12] (fun m i wr => ∃ (k : Nat) (x : Int), k ≤ nw ∧ i = .int .i64 k ∧ m = .int .i64 x ∧ 1 ≤ x ∧ x ≤ 1000001 ∧ (∀ k', k' < k → x ≤ roomN es f (ms.getD k' mv0)) ∧ Below w4.heap.size w4 wr) (fun _ i _ => nw - (intOf i).toNat)
      case atStart => exact ⟨0, 1000001, by omega, rfl, rfl, by omega, by omega, fun k' hk' => by omega, Below.refl _ _⟩
      case round =>
        obtain ⟨k, x, hk, rfl, rfl, hx0, hx1, hxa, hbr⟩ := hrel
        obtain ⟨wk, rfl⟩ : ∃ wk : World, wk = wr := ⟨_, rfl⟩
        have HXa := Lib.hid hxa
        have HB5 := Lib.hid hbr
        have HBk : Hid (Below lo w wk) := hide (HB4.out.trans (hbr.mono (by omega)))
        clear hxa hbr
        by_cases hlt : k < nw
        · obtain ⟨m, hm, hme, hm0, hm1⟩ := HRw.out k hlt
          have HOwk := Lib.hid (HOw.out.below HB5.out (Nat.le_refl _))
          obtain ⟨aw, rfl, hawb, hac⟩ := (Reads.of_own (HOwk.out.row HLw.out)).int hlt
          obtain ⟨z, hz⟩ : ∃ z, (ms.map codeM).getD k 0 = z := ⟨_, rfl⟩
          rw [hz] at hac
          have hzm : z = codeM m := by rw [← hz, code_at (by rw [HMl.out]; exact hlt), hm]
          have HM := Lib.hid hm
          clear hz hm
          obtain ⟨ke, fw⟩ := m
          simp only at hme
          obtain ⟨ad, rfl, hab, hcl⟩ := strs_at HR.out (fun _ => rfl) HL.out hme ed0
          have HOfk := Lib.hid (own_below HOf4.out HB5.out (Nat.le_refl _))
          obtain ⟨⟨ei, fr, tt, cst⟩, hq⟩ : ∃ q, es.getD ke ed0 = q := ⟨_, rfl⟩
          rw [hq] at hcl
          have hq' : es.getD ke ⟨0, 0, 0, 0⟩ = ⟨ei, fr, tt, cst⟩ := hq
          obtain ⟨xf, hxf⟩ : ∃ x, f.getD ke 0 = x := ⟨_, rfl⟩
          have hfb := HBnd.out.bnd ke (by rw [HL.out]; exact hme)
          rw [hq, hxf] at hfb
          simp only at hfb
          have cf : wk.cell? ⟨lo, ke, none⟩ = some (.int .i64 xf) := by rw [← hxf]; exact OwnG.cell HOfk.out hme
          have cc : wk.cell? ⟨(ad.add (ke * 4)).block, (ad.add (ke * 4)).off + 3, none⟩ = some (.int .i64 cst) := (HBk.out.cell (by show (ad.add (ke * 4)).block < _; rw [block_of_add, ← HLo.out]; exact hab)).trans (hcl 3 _ rfl)
          obtain ⟨rm, hrm⟩ : ∃ r, roomN es f ⟨ke, fw⟩ = r := ⟨_, rfl⟩
          rw [hrm] at hm0 hm1
          obtain ⟨mn, hmn⟩ : ∃ l, (if rm < x then rm else x) = l := ⟨_, rfl⟩
          have HMn : Hid (mn ≤ rm ∧ mn ≤ x ∧ 1 ≤ mn) := hide (by rw [← hmn]; split <;> omega)
          have HXn : Hid (∀ k', k' < k + 1 → mn ≤ roomN es f (ms.getD k' mv0)) := fun k' hk' => by
            have h1 := HMn.out
            rcases Nat.lt_or_ge k' k with h | h
            · have := HXa.out k' h
              omega
            · obtain rfl : k' = k := by omega
              rw [HM.out, hrm]
              exact h1.1
          have HRm := Lib.hid hrm
          have HXf := Lib.hid hxf
          clear hcl hq hxf hrm
          cases fw with
          | true =>
            obtain rfl : z = (ke : Int) + 1 := by rw [hzm, codeM_fwd rfl]
            have d3 : decide ((ke : Int) + 1 > 0) = true := decide_eq_true (by omega)
            have hwz : IntKind.i64.wrap ((ke : Int) + 1 - 1) = (ke : Int) := by rw [show (ke : Int) + 1 - 1 = (ke : Int) by omega]; exact IntWalk.i64_in _ (by omega)
            have hkl : (ke : Int) < (n : Int) := by omega
            have hrx : cst - xf = rm := by rw [← HRm.out]; unfold roomN; rw [if_pos rfl, hq', HXf.out]
            have hwr2 : IntKind.i64.wrap (cst - xf) = rm := by rw [hrx]; exact IntWalk.i64_in _ (by omega)
            clear hzm hq'
            go_upto_region 13 with (fail)
            go_quiet (fail)
            clear hwz hwr2
            go_wp2_with fail
            go_roundw
            case rel => exact ⟨k + 1, mn, by omega, by go_num, rfl, HMn.out.2.2, by have := HMn.out; omega, HXn.out, below_drewN HB5.out _⟩
            case measure => simp [intOf]; omega
          | false =>
            obtain rfl : z = -((ke : Int) + 1) := by rw [hzm, codeM_bwd rfl]
            have d3 : decide (-((ke : Int) + 1) > 0) = false := decide_eq_false (by omega)
            have e4 : -(-((ke : Int) + 1)) - 1 = (ke : Int) := by omega
            have hrx : xf = rm := by rw [← HRm.out]; unfold roomN; rw [if_neg Bool.false_ne_true, HXf.out]
            subst hrx
            clear hzm hq'
            go_wp2_with fail
            go_roundw
            case rel => exact ⟨k + 1, mn, by omega, by go_num, rfl, HMn.out.2.2, by have := HMn.out; omega, HXn.out, HB5.out⟩
            case measure => simp [intOf]; omega
        · obtain rfl : k = nw := by omega
          have hx2 : x ≤ 1000000 := by
            obtain ⟨m, hm, _, _, h3⟩ := HRw.out 0 hpos
            have h4 := HXa.out 0 hpos
            rw [hm] at h4
            omega
          have HOfk := Lib.hid (own_below HOf4.out HB5.out (Nat.le_refl _))
          have HOwk := Lib.hid (HOw.out.below HB5.out (Nat.le_refl _))
          clear HOf4 HOw HB4
          go_wp2_with fail
          go_loopw [13] (fun i wr => ∃ (q : Nat) (f' : List Int), q ≤ k ∧ i = .int .i64 q ∧ PassI es f seen t x ms q f' ∧ OwnG 3 wr lo lo n n f' ∧ wk.grownBy wr (some lo)) (fun i _ => k - (intOf i).toNat)
          case atStart => exact ⟨0, f, by omega, rfl, HPI.out x, HOfk.out, World.grownBy.refl _ _⟩
          case round =>
            clear HOfk
            obtain ⟨q, f', hq, rfl, hP, hof, hgr⟩ := hrel
            obtain ⟨wp, rfl⟩ : ∃ wp : World, wp = wr := ⟨_, rfl⟩
            have HP := Lib.hid hP
            have HOp := Lib.hid hof
            have HG := Lib.hid hgr
            have hlok : lo ≤ wk.heap.size := Nat.le_trans (Nat.le_of_lt hlo3) (Nat.le_trans hsz4 HB5.out.size)
            have HBp : Hid (Below lo w wp) := hide (HBk.out.trans (below_grown hgr hlok (Nat.le_refl _)))
            have HOwp : Hid (OwnI wp w3.heap.size (.slice Aw k cw) (ms.map codeM)) := hide (World.ownsRow.kept HOwk.out hgr (by
              by_cases hn0 : (Value.slice Aw k cw).ownBlock = none
              · exact .inl hn0
              · refine .inr fun e => ?_
                have := (World.ownsRow.lt HOwk.out lo e).1
                omega))
            clear hP hof hgr
            by_cases hlt2 : q < k
            · obtain ⟨m, hm, hme, hm0, hm1⟩ := HRw.out q hlt2
              obtain ⟨aw, rfl, hawb, hac⟩ := (Reads.of_own (HOwp.out.row HLw.out)).int hlt2
              obtain ⟨z, hz⟩ : ∃ z, (ms.map codeM).getD q 0 = z := ⟨_, rfl⟩
              rw [hz] at hac
              have hzm : z = codeM m := by rw [← hz, code_at (by rw [HMl.out]; exact hlt2), hm]
              have hxr := HXa.out q hlt2
              rw [hm] at hxr
              obtain ⟨hst1, hst2⟩ := HP.out.step HS.out.sr.nodup (by rw [HMl.out]; exact hlt2) ((mv_at (by rw [HMl.out]; exact hlt2)).trans hm) (by omega) hxr
              have HSt1 := Lib.hid hst1
              have hvb := pass_val HP.out HCo.out (show m.edge < es.length by rw [HL.out]; exact hme)
              have hvb2 := pass_val hst1 HCo.out (show m.edge < es.length by rw [HL.out]; exact hme)
              have hpl := HP.out.bnd.1
              rw [HL.out] at hpl
              clear hz hm hst1 hst2 hxr
              obtain ⟨ke, fw⟩ := m
              simp only at hme hvb hvb2
              have hpu : (pushM f' x ⟨ke, fw⟩).getD ke 0 = f'.getD ke 0 + (if fw = true then x else -x) := by
                unfold pushM
                rw [List.getD_eq_getElem?_getD, List.getElem?_set, if_pos rfl, if_pos (show ke < f'.length by omega)]
                rfl
              have hpu2 : pushM f' x ⟨ke, fw⟩ = f'.set ke (f'.getD ke 0 + (if fw = true then x else -x)) := rfl
              rw [hpu] at hvb2
              obtain ⟨xf, hxf⟩ : ∃ x, f'.getD ke 0 = x := ⟨_, rfl⟩
              rw [hxf] at hvb hvb2 hpu2
              have cf : wp.cell? ⟨lo, ke, none⟩ = some (.int .i64 xf) := by rw [← hxf]; exact OwnG.cell HOp.out hme
              have HPu := Lib.hid hpu2
              clear hpu hpu2 hxf
              have hkl : (ke : Int) < (n : Int) := by omega
              have hwk : IntKind.i64.wrap (ke : Int) = (ke : Int) := IntWalk.i64_in _ (by omega)
              have HOd : Hid (OwnG 3 wp.drew lo lo n n f') := hide (own_below HOp.out (Below.refl _ _).drew (Nat.le_refl _))
              have HGd : Hid (wk.grownBy wp.drew (some lo)) := hide ⟨HG.out.os, HG.out.tape, HG.out.output, HG.out.size, HG.out.block⟩
              cases fw with
              | true =>
                rw [if_pos rfl] at hvb2
                have hze : z = (ke : Int) + 1 := by rw [hzm, codeM_fwd rfl]
                have d3 : decide (z > 0) = true := decide_eq_true (by omega)
                have hwz : IntKind.i64.wrap (z - 1) = (ke : Int) := by rw [show z - 1 = (ke : Int) by omega]; exact hwk
                have hwr : IntKind.i64.wrap (xf + x) = xf + x := IntWalk.i64_in _ (by omega)
                have HPe : Hid (pushM f' x ⟨ke, true⟩ = f'.set ke (xf + x)) := hide (by rw [HPu.out, if_pos rfl])
                clear hzm hze
                go_upto_region 19 with (fail)
                go_still_tail 17, (by kernel_rfl)
                change wpList _ _ _ _ _ wp.drew
                clear hwz hwr hwk
                go_wp2_with
                  (refine wpList_store_own 3 (.tmp 106) (.tmp 105) rfl rfl HOd.out ke hme (.int .i64 (xf + x)) rfl rfl (by kernel_rfl) rfl rfl ?_
                   intro w7 hx7 hon7
                   have HO7 : Hid (OwnG 3 w7 lo lo n n (pushM f' x ⟨ke, true⟩)) := hide (by rw [HPe.out]; exact OwnG.set_ hx7)
                   have HG7 : Hid (wk.grownBy w7 (some lo)) := hide (grown_step HGd.out hon7)
                   clear hx7 hon7)
                go_roundw
                case rel => exact ⟨q + 1, _, by omega, by go_num, HSt1.out, HO7.out, HG7.out⟩
                case measure => simp [intOf]; omega
              | false =>
                rw [if_neg Bool.false_ne_true] at hvb2
                have hze : z = -((ke : Int) + 1) := by rw [hzm, codeM_bwd rfl]
                have d3 : decide (z > 0) = false := decide_eq_false (by omega)
                obtain ⟨z1, hz1⟩ : ∃ x, -z = x := ⟨_, rfl⟩
                have hwn : IntKind.i64.wrap (-z) = z1 := by rw [hz1]; exact IntWalk.i64_in _ (by omega)
                have hwz : IntKind.i64.wrap (z1 - 1) = (ke : Int) := by rw [show z1 - 1 = (ke : Int) by omega]; exact hwk
                clear hz1
                have hwr : IntKind.i64.wrap (xf - x) = xf - x := IntWalk.i64_in _ (by omega)
                have HPe : Hid (pushM f' x ⟨ke, false⟩ = f'.set ke (xf - x)) := hide (by rw [HPu.out, if_neg Bool.false_ne_true]; rfl)
                clear hzm hze
                go_upto_region 20 with (fail)
                go_still_tail 19, (by kernel_rfl)
                change wpList _ _ _ _ _ wp.drew
                clear hwz hwr hwk hwn
                go_wp2_with
                  (refine wpList_store_own 3 (.tmp 125) (.tmp 124) rfl rfl HOd.out ke hme (.int .i64 (xf - x)) rfl rfl (by kernel_rfl) rfl rfl ?_
                   intro w7 hx7 hon7
                   have HO7 : Hid (OwnG 3 w7 lo lo n n (pushM f' x ⟨ke, false⟩)) := hide (by rw [HPe.out]; exact OwnG.set_ hx7)
                   have HG7 : Hid (wk.grownBy w7 (some lo)) := hide (grown_step HGd.out hon7)
                   clear hx7 hon7)
                go_roundw
                case rel => exact ⟨q + 1, _, by omega, by go_num, HSt1.out, HO7.out, HG7.out⟩
                case measure => simp [intOf]; omega
            · obtain rfl : q = k := by omega
              have HNx := Lib.hid (HFl.out.next HSt.out (HP.out.done HMl.out.symm) HS.out.sr.head)
              have hub := (net_le es f' s HNx.out.1.len (fun i hi => ⟨(HNx.out.1.at_ hi).1, Int.le_trans (HNx.out.1.at_ hi).2 (HCo.out i hi)⟩)).2
              have hnx := HNx.out.2
              have hq' := HQ.out
              rw [HL.out] at hub
              have hqle : netN es f' s + (((1000000 * (n : Int) - netN es f' s).toNat : Nat) : Int) = 1000000 * (n : Int) := by omega
              have HUb := Lib.hid hub
              have HNq := Lib.hid hnx
              have HQl := Lib.hid hqle
              clear hub hnx hq' hqle
              go_wp2_with fail
              go_roundg ((1000000 * (n : Int) - netN es f' s).toNat)
              case measure => have h1 := HUb.out; have h2 := HNq.out; have h3 := HQ.out; omega
              case rel => exact ⟨f', HQl.out, HNx.out.1, HOp.out, HBp.out⟩
    · rw [wayC_out ht] at hOw
      obtain ⟨Aw, nw, cw, rfl, HLw, hw1, hw2, hwr⟩ := hOw.nam
      obtain rfl : nw = 0 := by have h := HLw.out; simpa using h.symm
      have HM : Hid (∃ R, MaxF es s t (netN es f s) f R) := hide ⟨_, found_none HS.out HFl.out ht⟩
      clear ht hOw hwr
      go_wp2_with fail
      try go_ret
      exact HFin.out _ _ _ (Reads.of_own HOf4.out) HB4.out HM.out
end

section
open Go.RowKit

theorem cont_take {l : List Int} {k : Nat} (h : k < l.length) (x : Int) : (l.take (k + 1)).contains x = ((l.take k).contains x || (l.getD k 0 == x)) := by
  rw [take_at l k h]
  rw [Bool.eq_iff_iff]
  simp only [List.contains_iff_mem, List.mem_append, List.mem_singleton, Bool.or_eq_true, beq_iff_eq]
  exact ⟨fun h => h.imp id Eq.symm, fun h => h.imp id Eq.symm⟩
set_option maxRecDepth 100000 in
theorem rmax_any (A : Option Addr) (n c : Nat) (es : List Ed) (s t : Int) (w : World) (hr : Strs Ed.cells 4 w w.heap.size A n es) (hl : es.length = n) (hc : n ≤ c) (hc2 : c ≤ maxLen)
    (hn : n ≤ 1000) (hst : s ≠ t) (he : EdOK es) :
    Calls Try.prog 38 #[.slice A n c, .int .i64 s, .int .i64 t] w (MaxR es s t w) := by
  have HR := Lib.hid hr
  have HL := Lib.hid hl
  have HE : Hid (∀ e ∈ es, (0 ≤ e.fr ∧ e.fr ≤ 1000000) ∧ (0 ≤ e.tt ∧ e.tt ≤ 1000000) ∧ 0 ≤ e.cst ∧ e.cst ≤ 1000000) := he
  have HC := Lib.hid (rfind_any A n c es s t w hr hl hc hc2 hn hst (fun e h => (he e h).2.2))
  have HFin : Hid (∀ (M : Int) (w' : World), MaxV es s t M → Below w.heap.size w w' → MaxR es s t w (.returned (.int .i64 M)) w') := fun M w' h1 h2 => ⟨M, h1, rfl, h2⟩
  generalize MaxR es s t w = RR at *
  have d1 : (s == t) = false := beq_eq_false_iff_ne.2 hst
  clear hr hl he hst
  go_enter Try.func38, Try.ntmps38
  go_wp2_with fail
  with_reducible refine HC.out.mono ?_
  rintro e w1 ⟨F, cap, f, R, rfl, h1, h2, hf, hb, hm⟩
  have HM := Lib.hid hm
  have HF := Lib.hid hf
  have HB := Lib.hid hb
  clear hm hf hb
  go_wp2_with fail
  with_reducible refine (rvalue_any A F n c cap es f s w1 (HR.out.now HB.out) HL.out hc hc2 HF.out h1 h2 hn (fun i hi => ⟨(HM.out.flow.at_ hi).1, Int.le_trans (HM.out.flow.at_ hi).2 (HE.out _ (ed_mem hi)).2.2.2⟩)).mono ?_
  rintro e w2 ⟨rfl, rfl⟩
  obtain ⟨T, hT⟩ : ∃ x, netN es f s = x := ⟨_, rfl⟩
  have HMx : Hid (MaxV es s t T) := by
    have h := HM.out
    rw [hT] at h
    exact hide ⟨f, R, h⟩
  rw [hT]
  clear hT
  go_wp2_with fail
  try go_ret
  exact HFin.out _ _ HMx.out HB.out

set_option maxRecDepth 100000 in
set_option maxHeartbeats 4000000 in
theorem regress_any (vn vl vr vb : Value) (Ar : Option Addr) (nr cr : Nat) (nd : List Nd) (rs : List Rn) (bs runs : List Int) (node : Int) (w : World) (hm : StrV Nd.cells 2 w w.heap.size vn nd) (hr : StrV Rn.cells 7 w w.heap.size vr rs) (hb : RowV w w.heap.size vb bs)
    (hru : Ints w w.heap.size Ar nr runs) (hnr : nr ≤ maxLen) (hok : EgOK nd rs bs) :
    Calls Try.prog 23 #[.agg #[vn, vl, vr, vb], .slice Ar nr cr, .int .i64 node] w (EgR nd rs bs runs node w) := by
  obtain ⟨A, n, c, rfl, HL, hc1, hc2, hr'⟩ := hr.nam
  obtain ⟨Ab, nb, cb, rfl, HLb, hd1, hd2, hb'⟩ := hb.nam
  have HR := Lib.hid hr'
  have HBs := Lib.hid hb'
  have HM := Lib.hid hm
  have HRu := Lib.hid hru
  have HRl := Lib.hid hru.ilen
  have HK := Lib.hid hok
  have hn64 : n ≤ 64 := by rw [← HL.out]; exact hok.l1
  have hb64 : nb ≤ 64 := by rw [← HLb.out]; exact hok.l2
  have HRs : Hid (∀ k, k < n → 1 ≤ (rs.getD k rn0).gr ∧ (rs.getD k rn0).gr ≤ 4) := fun k hk => by
    have h := hok.runs (rs.getD k rn0) (by rw [show rs.getD k rn0 = rs[k]'(by rw [HL.out]; exact hk) by simp [List.getElem?_eq_getElem (show k < rs.length by rw [HL.out]; exact hk)]]; exact List.getElem_mem _)
    exact h.2.2
  have HFin : Hid (∀ (M : Int) (w' : World), EgV nd rs bs runs node M → Below w.heap.size w w' → EgR nd rs bs runs node w (.returned (.int .i64 M)) w') := fun M w' h1 h2 => ⟨M, h1, rfl, h2⟩
  have HE0 : Hid (hasN nd node = false → EgV nd rs bs runs node 0) := fun h => by unfold EgV; rw [if_neg (by rw [h]; decide)]
  have HE1 : Hid (hasN nd node = true → ∀ M, MaxV (egE rs runs bs) node 0 M → EgV nd rs bs runs node M) := fun h M hM => by unfold EgV; rw [if_pos h]; exact hM
  generalize EgR nd rs bs runs node w = RR at *
  generalize EgV nd rs bs runs node = EV at *
  simp only [maxLen] at hc2 hd2
  have hnr' := hnr
  simp only [maxLen] at hnr'
  clear hm hr hb hr' hb' hru hok
  go_enter Try.func23, Try.ntmps23
  go_wp2_with fail
  have HBwb := (Blk.new w 44 #[vn, vl, .slice A n c, .slice Ab nb cb])
  have HLwb := (below_new w (.cells #[vn, vl, .slice A n c, .slice Ab nb cb] 44))
  have hswb : (w.alloc (.cells #[vn, vl, .slice A n c, .slice Ab nb cb] 44)).heap.size = w.heap.size + 1 := by simp
  generalize w.alloc (.cells #[vn, vl, .slice A n c, .slice Ab nb cb] 44) = wb at HBwb HLwb hswb ⊢
  replace HBwb := Lib.hid HBwb
  replace HLwb := Lib.hid HLwb
  have hlwb : w.heap.size < wb.heap.size := by omega
  replace hswb := Lib.hid hswb
  have HWb := Lib.hid (HLwb.out)
  have hl0 : w.heap.size ≤ wb.heap.size := HWb.out.size
  have HBb : Hid (Below wb.heap.size wb wb) := hide (Below.refl _ _)
  have hszb : wb.heap.size ≤ wb.heap.size := Nat.le_refl _
  have HX0b : Hid (Blk wb w.heap.size 44 #[vn, vl, .slice A n c, .slice Ab nb cb]) := hide HBwb.out
  have hxx0 : w.heap.size < wb.heap.size := HX0b.out.lt
  clear HBwb HLwb hswb hlwb
  have HMb := Lib.hid (HM.out.now HWb.out)
  have HRb := Lib.hid (HR.out.now HWb.out)
  have HBsb := Lib.hid (HBs.out.now HWb.out)
  have HRub := Lib.hid (HRu.out.now HWb.out)
  go_wp2_with
    (first
     | (refine wpList_load_g 44 (.tmp 15) rfl rfl w.heap.size rfl _ _ HX0b.out _ Try.underlying44 rfl (by kernel_rfl) ?_))
  with_reducible refine (rnode_any _ _ _ _ nd node wb HMb.out).mono ?_
  rintro e w1 ⟨rfl, hb1⟩
  have HB1 := Lib.hid (HBb.out.trans (hb1.mono hszb))
  have HW1 := Lib.hid (HWb.out.trans (hb1.mono HWb.out.size))
  have hsz1 : wb.heap.size ≤ w1.heap.size := Nat.le_trans hszb hb1.size
  have HX01 := Lib.hid (HX0b.out.below hb1 (Nat.lt_of_lt_of_le hxx0 hszb))
  have HM1 := Lib.hid (HMb.out.now hb1)
  have HR1 := Lib.hid (HRb.out.now hb1)
  have HBs1 := Lib.hid (HBsb.out.now hb1)
  have HRu1 := Lib.hid (HRub.out.now hb1)
  clear hb1
  obtain ⟨⟨qi, qa⟩, hq⟩ : ∃ q, ndOf nd node = q := ⟨_, rfl⟩
  rw [hq]
  obtain ⟨ok, hokk⟩ : ∃ b, hasN nd node = b := ⟨_, rfl⟩
  rw [hokk]
  have HOk := Lib.hid hokk
  clear hq hokk
  go_upto_region 2 with (fail)
  have HBw2 := (Blk.new w1 63 #[.int .i64 qi, .int .i64 qa])
  have HLw2 := (below_new w1 (.cells #[.int .i64 qi, .int .i64 qa] 63))
  have hsw2 : (w1.alloc (.cells #[.int .i64 qi, .int .i64 qa] 63)).heap.size = w1.heap.size + 1 := by simp
  generalize w1.alloc (.cells #[.int .i64 qi, .int .i64 qa] 63) = w2 at HBw2 HLw2 hsw2 ⊢
  replace HBw2 := Lib.hid HBw2
  replace HLw2 := Lib.hid HLw2
  have hlw2 : w1.heap.size < w2.heap.size := by omega
  replace hsw2 := Lib.hid hsw2
  have hb2 := HLw2.out
  clear HBw2 HLw2 hsw2 hlw2
  have HB2 := Lib.hid (HB1.out.trans (hb2.mono hsz1))
  have HW2 := Lib.hid (HW1.out.trans (hb2.mono HW1.out.size))
  have hsz2 : wb.heap.size ≤ w2.heap.size := Nat.le_trans hsz1 hb2.size
  have HX02 := Lib.hid (HX01.out.below hb2 (Nat.lt_of_lt_of_le hxx0 hsz1))
  have HM2 := Lib.hid (HM1.out.now hb2)
  have HR2 := Lib.hid (HR1.out.now hb2)
  have HBs2 := Lib.hid (HBs1.out.now hb2)
  have HRu2 := Lib.hid (HRu1.out.now hb2)
  clear hb2
  cases ok with
  | false =>
    go_wp2_with fail
    try go_ret
    exact HFin.out _ _ (HE0.out HOk.out) HW2.out
  | true =>
    have hnode := HK.out.nodes node HOk.out
    have m0 : w2.cell? ⟨w.heap.size, 0, none⟩ = some (vn) := HX02.out.cell 0
    have m1 : w2.cell? ⟨w.heap.size, 1, none⟩ = some (vl) := HX02.out.cell 1
    have m2 : w2.cell? ⟨w.heap.size, 2, none⟩ = some (.slice A n c) := HX02.out.cell 2
    have m3 : w2.cell? ⟨w.heap.size, 3, none⟩ = some (.slice Ab nb cb) := HX02.out.cell 3
    go_upto_region 5 with (fail)
    have HOz : Hid (OwnE (w2.alloc (.cells #[] 68)) wb.heap.size (.slice (some ⟨w2.heap.size, 0, none⟩) 0 0) []) := hide (World.ownsRow_lit w2 #[] 0 hsz2 (by simp [maxLen]) rfl)
    have hb3 := below_new w2 (.cells #[] 68)
    have HBZ := Lib.hid (HB2.out.trans (hb3.mono hsz2))
    have HWZ := Lib.hid (HW2.out.trans (hb3.mono HW2.out.size))
    have hszZ : wb.heap.size ≤ (w2.alloc (.cells #[] 68)).heap.size := Nat.le_trans hsz2 hb3.size
    have HX0Z := Lib.hid (HX02.out.below hb3 (Nat.lt_of_lt_of_le hxx0 hsz2))
    have HMZ := Lib.hid (HM2.out.now hb3)
    have HRZ := Lib.hid (HR2.out.now hb3)
    have HBsZ := Lib.hid (HBs2.out.now hb3)
    have HRuZ := Lib.hid (HRu2.out.now hb3)
    clear hb3 m0 m1 m2 m3
    generalize w2.alloc (.cells #[] 68) = wZ at *
    have m0 : wZ.cell? ⟨w.heap.size, 0, none⟩ = some (vn) := HX0Z.out.cell 0
    have m1 : wZ.cell? ⟨w.heap.size, 1, none⟩ = some (vl) := HX0Z.out.cell 1
    have m2 : wZ.cell? ⟨w.heap.size, 2, none⟩ = some (.slice A n c) := HX0Z.out.cell 2
    have m3 : wZ.cell? ⟨w.heap.size, 3, none⟩ = some (.slice Ab nb cb) := HX0Z.out.cell 3
    go_wp2_with fail
    go_loopw [9, 10] (fun v i wr => ∃ (k : Nat) (acc : List Ed), k ≤ n ∧ i = .int .i64 k ∧ OwnE wr wb.heap.size v acc ∧ egR runs (rs.drop k) acc = egR runs rs [] ∧ acc.length ≤ k ∧ Below wb.heap.size wb wr) (fun _ i _ => n - (intOf i).toNat)
    case atStart => exact ⟨0, [], by omega, rfl, HOz.out, rfl, by simp, HBZ.out⟩
    case round =>
      obtain ⟨k, acc, hk, rfl, hO, hF, hal, hbr⟩ := hrel
      obtain ⟨Av, nv, cv, rfl, HLv, hv1, hv2, _⟩ := hO.nam
      have hnv : nv ≤ k := by rw [← HLv.out]; exact hal
      have HO := Lib.hid (hO.row HLv.out)
      have HF := Lib.hid hF
      clear hO hF hal m0 m1 m2 m3 HOz
      obtain ⟨wo, rfl⟩ : ∃ wo : World, wo = wr := ⟨_, rfl⟩
      have HBo := Lib.hid (HBb.out.trans (hbr.mono hszb))
      have HWo := Lib.hid (HWb.out.trans (hbr.mono HWb.out.size))
      have hszo : wb.heap.size ≤ wo.heap.size := Nat.le_trans hszb hbr.size
      have HX0o := Lib.hid (HX0b.out.below hbr (Nat.lt_of_lt_of_le hxx0 hszb))
      have HMo := Lib.hid (HMb.out.now hbr)
      have HRo := Lib.hid (HRb.out.now hbr)
      have HBso := Lib.hid (HBsb.out.now hbr)
      have HRuo := Lib.hid (HRub.out.now hbr)
      clear hbr
      have m0 : wo.cell? ⟨w.heap.size, 0, none⟩ = some (vn) := HX0o.out.cell 0
      have m1 : wo.cell? ⟨w.heap.size, 1, none⟩ = some (vl) := HX0o.out.cell 1
      have m2 : wo.cell? ⟨w.heap.size, 2, none⟩ = some (.slice A n c) := HX0o.out.cell 2
      have m3 : wo.cell? ⟨w.heap.size, 3, none⟩ = some (.slice Ab nb cb) := HX0o.out.cell 3
      by_cases hlt : k < n
      · obtain ⟨ad, rfl, habb, hcs⟩ := strs_at HRb.out (fun _ => rfl) HL.out hlt rn0
        have HF1 := Lib.hid (HF.out.symm.trans (egR_at (runs := runs) (acc := acc) (by rw [HL.out]; exact hlt))).symm
        have hgr := HRs.out k hlt
        generalize rs.getD k rn0 = b at *
        obtain ⟨id, op, fr, tt, gr, zn, ln⟩ := b
        have HCb : Hid (∀ j u, ([.int .i64 id, .int .i64 op, .int .i64 fr, .int .i64 tt, .int .i64 gr, .int .i64 zn, .int .i64 ln] : List Value)[j]? = some u → wb.cell? ((ad.add (k * 7)).add j) = some u) := hcs
        have hab : ad.block < wo.heap.size := Nat.lt_of_lt_of_le habb hszo
        have HCs : Hid (∀ j u, ([.int .i64 id, .int .i64 op, .int .i64 fr, .int .i64 tt, .int .i64 gr, .int .i64 zn, .int .i64 ln] : List Value)[j]? = some u → wo.cell? ((ad.add (k * 7)).add j) = some u) := fun j u hu => (HBo.out.cell (p := (ad.add (k * 7)).add j) (by rw [block_of_add, block_of_add]; exact habb)).trans (HCb.out j u hu)
        simp only at hgr HF1
        clear hcs
        go_wp2_with fail
        clear m0 m1 m2 m3
        go_loopw [11, 12] (fun b i wr => ∃ (q : Nat) (bb : Bool), q ≤ nr ∧ i = .int .i64 q ∧ b = .bool bb ∧ bb = (runs.take q).contains id ∧ Below wo.heap.size wo wr) (fun _ i _ => nr - (intOf i).toNat)
        case atStart => exact ⟨0, false, by omega, rfl, rfl, rfl, Below.refl _ _⟩
        case round =>
          obtain ⟨q, bb, hq, rfl, rfl, hbb, hbr⟩ := hrel
          obtain ⟨wi, rfl⟩ : ∃ wi : World, wi = wr := ⟨_, rfl⟩
          have HBi := Lib.hid hbr
          have HBb := Lib.hid hbb
          have HX0i := Lib.hid (HX0o.out.below hbr (Nat.lt_of_lt_of_le hxx0 hszo))
          have HCi : Hid (∀ j u, ([.int .i64 id, .int .i64 op, .int .i64 fr, .int .i64 tt, .int .i64 gr, .int .i64 zn, .int .i64 ln] : List Value)[j]? = some u → wi.cell? ((ad.add (k * 7)).add j) = some u) := fun j u hu => (hbr.cell (p := (ad.add (k * 7)).add j) (by rw [block_of_add, block_of_add]; exact hab)).trans (HCs.out j u hu)
          clear hbr hbb
          by_cases hlt2 : q < nr
          · obtain ⟨ar, rfl, harb, hrc⟩ := HRuo.out.int hlt2
            have hri := (HBi.out.cell (p := ar.add q) (by rw [block_of_add]; exact harb)).trans hrc
            have HT : Hid ((runs.take (q + 1)).contains id = (bb || (runs.getD q 0 == id))) := hide (by rw [cont_take (by rw [HRl.out]; exact hlt2), HBb.out])
            generalize runs.getD q 0 = x at *
            obtain ⟨b2, hb2⟩ : ∃ b, (x == id) = b := ⟨_, rfl⟩
            rw [hb2] at HT
            have m2 : wi.cell? ⟨w.heap.size, 2, none⟩ = some (.slice (some ad) n c) := HX0i.out.cell 2
            have ci : wi.cell? (ad.add (k * 7)) = some (.int .i64 id) := by have h := HCi.out 0 _ rfl; rwa [add_of_add, Nat.add_zero] at h
            clear hrc
            cases bb with
            | true =>
              go_upto_region 12 with (fail)
              go_quiet (fail)
              go_wp2_with fail
              go_roundw
              case rel => exact ⟨q + 1, true, by omega, by go_num, rfl, by rw [HT.out]; rfl, below_drewN HBi.out _⟩
              case measure => simp [intOf]; omega
            | false =>
              go_upto_region 12 with (fail)
              go_quiet (fail)
              go_wp2_with fail
              go_roundw
              case rel => exact ⟨q + 1, b2, by omega, by go_num, rfl, by rw [HT.out]; rfl, below_drewN HBi.out _⟩
              case measure => simp [intOf]; omega
          · obtain rfl : q = nr := by omega
            have HBn : Hid (runs.contains id = bb) := hide (by rw [HBb.out, List.take_of_length_le (by rw [HRl.out]; exact Nat.le_refl _)])
            have HOi := Lib.hid (own_below HO.out HBi.out (Nat.le_refl _))
            have HBBi := Lib.hid (HBo.out.trans (HBi.out.mono hszo))
            have hszi : wo.heap.size ≤ wi.heap.size := HBi.out.size
            cases bb with
            | true =>
              have HF2 : Hid (egR runs (rs.drop (k + 1)) (acc ++ [⟨(nv : Int), fr, tt, (5 - gr) * 500⟩]) = egR runs rs []) := by have h := HF1.out; rw [HBn.out, if_pos rfl, HLv.out] at h; exact h
              have m2 : wi.cell? ⟨w.heap.size, 2, none⟩ = some (.slice (some ad) n c) := HX0i.out.cell 2
              have p2 : wi.cell? ⟨(ad.add (k * 7)).block, (ad.add (k * 7)).off + 2, none⟩ = some (.int .i64 fr) := HCi.out 2 _ rfl
              have p3 : wi.cell? ⟨(ad.add (k * 7)).block, (ad.add (k * 7)).off + 3, none⟩ = some (.int .i64 tt) := HCi.out 3 _ rfl
              have p4 : wi.cell? ⟨(ad.add (k * 7)).block, (ad.add (k * 7)).off + 4, none⟩ = some (.int .i64 gr) := HCi.out 4 _ rfl
              have hw1 : IntKind.i64.wrap (5 - gr) = 5 - gr := IntWalk.i64_in _ (by omega)
              have hw2 : IntKind.i64.wrap ((5 - gr) * 500) = (5 - gr) * 500 := IntWalk.i64_in _ (by omega)
              go_upto_region 14 with (fail)
              have HBd : Hid (Below wb.heap.size wb wi.drew) := hide HBBi.out.drew
              have HOd : Hid (wi.drew.ownsRow wb.heap.size 68 4 (.slice Av nv cv) nv (acc.map Ed.cells).flatten) := hide (own_below HOi.out (Below.refl _ _).drew (Nat.le_refl _))
              have HS : Hid (∀ W : World, Below wb.heap.size wb W → (fun W : World => W.cell? ⟨w.heap.size, 2, none⟩ = some (.slice (some ad) n c) ∧ W.cell? ⟨(ad.add (k * 7)).block, (ad.add (k * 7)).off + 2, none⟩ = some (.int .i64 fr) ∧ W.cell? ⟨(ad.add (k * 7)).block, (ad.add (k * 7)).off + 3, none⟩ = some (.int .i64 tt) ∧ W.cell? ⟨(ad.add (k * 7)).block, (ad.add (k * 7)).off + 4, none⟩ = some (.int .i64 gr)) W) := fun W hW => ⟨(hW.cell (by exact hxx0)).trans ((HX0b.out.cell 2)), (hW.cell (by show (ad.add (k * 7)).block < _; rw [block_of_add]; exact habb)).trans (HCb.out 2 _ rfl), (hW.cell (by show (ad.add (k * 7)).block < _; rw [block_of_add]; exact habb)).trans (HCb.out 3 _ rfl), (hW.cell (by show (ad.add (k * 7)).block < _; rw [block_of_add]; exact habb)).trans (HCb.out 4 _ rfl)⟩
              clear m2 p2 p3 p4
              refine wp_region_held_drew (S := (fun W : World => W.cell? ⟨w.heap.size, 2, none⟩ = some (.slice (some ad) n c) ∧ W.cell? ⟨(ad.add (k * 7)).block, (ad.add (k * 7)).off + 2, none⟩ = some (.int .i64 fr) ∧ W.cell? ⟨(ad.add (k * 7)).block, (ad.add (k * 7)).off + 3, none⟩ = some (.int .i64 tt) ∧ W.cell? ⟨(ad.add (k * 7)).block, (ad.add (k * 7)).off + 4, none⟩ = some (.int .i64 gr))) (by kernel_rfl) (HS.out _ HBd.out) (fun hHeld => ?_)
              refine held_run 0 (some 51) (.move (.tmp 9)) ?v14_1_2 (by rfl) (by kernel_rfl) (by kernel_rfl) (by kernel_rfl) (fun _ _ _ h => h) (fun o ho w hS => ?y14_1_2) (by assumption) ?r14_1_2
              case y14_1_2 => (try dsimp only at hS); unfold execOp; simp only [ho]; go_simp; try with_reducible rfl
              try simp only [Act.put, List.setIfInBounds_toArray, List.set_cons_zero, List.set_cons_succ]
              refine held_run 1 (some 52) (.move (.tmp 9)) ?v14_1_3 (by rfl) (by kernel_rfl) (by kernel_rfl) (by kernel_rfl) (fun _ _ _ h => h) (fun o ho w hS => ?y14_1_3) (by assumption) ?r14_1_3
              case y14_1_3 => (try dsimp only at hS); unfold execOp; simp only [ho]; go_simp; try with_reducible rfl
              try simp only [Act.put, List.setIfInBounds_toArray, List.set_cons_zero, List.set_cons_succ]
              refine held_run 2 (some 53) (.call { callee := .builtin .len, args := #[(.tmp 52)], argTypes := #[66] }) ?v14_1_4 (by rfl) (by kernel_rfl) (by kernel_rfl) (by kernel_rfl) (fun _ _ _ h => h) (fun o ho w hS => ?y14_1_4) (by assumption) ?r14_1_4
              case y14_1_4 => (try dsimp only at hS); unfold execOp; simp only [ho]; go_simp; try with_reducible rfl
              try simp only [Act.put, List.setIfInBounds_toArray, List.set_cons_zero, List.set_cons_succ]
              refine held_run 3 (some 54) (.fieldAddr 44 (.tmp 3) 2) ?v14_1_5 (by rfl) (by kernel_rfl) (by kernel_rfl) (by kernel_rfl) (fun _ _ _ h => h) (fun o ho w hS => ?y14_1_5) (by assumption) ?r14_1_5
              case y14_1_5 => (try dsimp only at hS); unfold execOp; simp only [ho]; go_simp; try with_reducible rfl
              try simp only [Act.put, List.setIfInBounds_toArray, List.set_cons_zero, List.set_cons_succ]
              refine held_run 4 (some 55) (.load 41 (.tmp 54)) ?v14_1_6 (by rfl) (by kernel_rfl) (by kernel_rfl) (by kernel_rfl) (fun _ _ _ h => h) (fun o ho w hS => ?y14_1_6) (by assumption) ?r14_1_6
              case y14_1_6 => (try dsimp only at hS); unfold execOp; simp only [ho]; go_simp; try with_reducible rfl
              try simp only [Act.put, List.setIfInBounds_toArray, List.set_cons_zero, List.set_cons_succ]
              refine held_run 5 (some 56) (.move (.tmp 10)) ?v14_1_7 (by rfl) (by kernel_rfl) (by kernel_rfl) (by kernel_rfl) (fun _ _ _ h => h) (fun o ho w hS => ?y14_1_7) (by assumption) ?r14_1_7
              case y14_1_7 => (try dsimp only at hS); unfold execOp; simp only [ho]; go_simp; try with_reducible rfl
              try simp only [Act.put, List.setIfInBounds_toArray, List.set_cons_zero, List.set_cons_succ]
              refine held_run 6 (some 57) (.indexAddr 41 (.tmp 55) (.tmp 56)) ?v14_1_8 (by rfl) (by kernel_rfl) (by kernel_rfl) (by kernel_rfl) (fun _ _ _ h => h) (fun o ho w hS => ?y14_1_8) (by assumption) ?r14_1_8
              case y14_1_8 => (try dsimp only at hS); unfold execOp; simp only [ho]; go_simp; try with_reducible rfl
              try simp only [Act.put, List.setIfInBounds_toArray, List.set_cons_zero, List.set_cons_succ]
              refine held_run 7 (some 58) (.fieldAddr 55 (.tmp 57) 2) ?v14_1_9 (by rfl) (by kernel_rfl) (by kernel_rfl) (by kernel_rfl) (fun _ _ _ h => h) (fun o ho w hS => ?y14_1_9) (by assumption) ?r14_1_9
              case y14_1_9 => (try dsimp only at hS); unfold execOp; simp only [ho]; go_simp; try with_reducible rfl
              try simp only [Act.put, List.setIfInBounds_toArray, List.set_cons_zero, List.set_cons_succ]
              refine held_run 8 (some 59) (.load 3 (.tmp 58)) ?v14_1_10 (by rfl) (by kernel_rfl) (by kernel_rfl) (by kernel_rfl) (fun _ _ _ h => h) (fun o ho w hS => ?y14_1_10) (by assumption) ?r14_1_10
              case y14_1_10 => (try dsimp only at hS); unfold execOp; simp only [ho]; go_simp; try with_reducible rfl
              try simp only [Act.put, List.setIfInBounds_toArray, List.set_cons_zero, List.set_cons_succ]
              refine held_run 9 (some 60) (.fieldAddr 44 (.tmp 3) 2) ?v14_1_11 (by rfl) (by kernel_rfl) (by kernel_rfl) (by kernel_rfl) (fun _ _ _ h => h) (fun o ho w hS => ?y14_1_11) (by assumption) ?r14_1_11
              case y14_1_11 => (try dsimp only at hS); unfold execOp; simp only [ho]; go_simp; try with_reducible rfl
              try simp only [Act.put, List.setIfInBounds_toArray, List.set_cons_zero, List.set_cons_succ]
              refine held_run 10 (some 61) (.load 41 (.tmp 60)) ?v14_1_12 (by rfl) (by kernel_rfl) (by kernel_rfl) (by kernel_rfl) (fun _ _ _ h => h) (fun o ho w hS => ?y14_1_12) (by assumption) ?r14_1_12
              case y14_1_12 => (try dsimp only at hS); unfold execOp; simp only [ho]; go_simp; try with_reducible rfl
              try simp only [Act.put, List.setIfInBounds_toArray, List.set_cons_zero, List.set_cons_succ]
              refine held_run 11 (some 62) (.move (.tmp 10)) ?v14_1_13 (by rfl) (by kernel_rfl) (by kernel_rfl) (by kernel_rfl) (fun _ _ _ h => h) (fun o ho w hS => ?y14_1_13) (by assumption) ?r14_1_13
              case y14_1_13 => (try dsimp only at hS); unfold execOp; simp only [ho]; go_simp; try with_reducible rfl
              try simp only [Act.put, List.setIfInBounds_toArray, List.set_cons_zero, List.set_cons_succ]
              refine held_run 12 (some 63) (.indexAddr 41 (.tmp 61) (.tmp 62)) ?v14_1_14 (by rfl) (by kernel_rfl) (by kernel_rfl) (by kernel_rfl) (fun _ _ _ h => h) (fun o ho w hS => ?y14_1_14) (by assumption) ?r14_1_14
              case y14_1_14 => (try dsimp only at hS); unfold execOp; simp only [ho]; go_simp; try with_reducible rfl
              try simp only [Act.put, List.setIfInBounds_toArray, List.set_cons_zero, List.set_cons_succ]
              refine held_run 13 (some 64) (.fieldAddr 55 (.tmp 63) 3) ?v14_1_15 (by rfl) (by kernel_rfl) (by kernel_rfl) (by kernel_rfl) (fun _ _ _ h => h) (fun o ho w hS => ?y14_1_15) (by assumption) ?r14_1_15
              case y14_1_15 => (try dsimp only at hS); unfold execOp; simp only [ho]; go_simp; try with_reducible rfl
              try simp only [Act.put, List.setIfInBounds_toArray, List.set_cons_zero, List.set_cons_succ]
              refine held_run 14 (some 65) (.load 3 (.tmp 64)) ?v14_1_16 (by rfl) (by kernel_rfl) (by kernel_rfl) (by kernel_rfl) (fun _ _ _ h => h) (fun o ho w hS => ?y14_1_16) (by assumption) ?r14_1_16
              case y14_1_16 => (try dsimp only at hS); unfold execOp; simp only [ho]; go_simp; try with_reducible rfl
              try simp only [Act.put, List.setIfInBounds_toArray, List.set_cons_zero, List.set_cons_succ]
              refine held_run 15 (some 66) (.fieldAddr 44 (.tmp 3) 2) ?v14_1_17 (by rfl) (by kernel_rfl) (by kernel_rfl) (by kernel_rfl) (fun _ _ _ h => h) (fun o ho w hS => ?y14_1_17) (by assumption) ?r14_1_17
              case y14_1_17 => (try dsimp only at hS); unfold execOp; simp only [ho]; go_simp; try with_reducible rfl
              try simp only [Act.put, List.setIfInBounds_toArray, List.set_cons_zero, List.set_cons_succ]
              refine held_run 16 (some 67) (.load 41 (.tmp 66)) ?v14_1_18 (by rfl) (by kernel_rfl) (by kernel_rfl) (by kernel_rfl) (fun _ _ _ h => h) (fun o ho w hS => ?y14_1_18) (by assumption) ?r14_1_18
              case y14_1_18 => (try dsimp only at hS); unfold execOp; simp only [ho]; go_simp; try with_reducible rfl
              try simp only [Act.put, List.setIfInBounds_toArray, List.set_cons_zero, List.set_cons_succ]
              refine held_run 17 (some 68) (.move (.tmp 10)) ?v14_1_19 (by rfl) (by kernel_rfl) (by kernel_rfl) (by kernel_rfl) (fun _ _ _ h => h) (fun o ho w hS => ?y14_1_19) (by assumption) ?r14_1_19
              case y14_1_19 => (try dsimp only at hS); unfold execOp; simp only [ho]; go_simp; try with_reducible rfl
              try simp only [Act.put, List.setIfInBounds_toArray, List.set_cons_zero, List.set_cons_succ]
              refine held_run 18 (some 69) (.indexAddr 41 (.tmp 67) (.tmp 68)) ?v14_1_20 (by rfl) (by kernel_rfl) (by kernel_rfl) (by kernel_rfl) (fun _ _ _ h => h) (fun o ho w hS => ?y14_1_20) (by assumption) ?r14_1_20
              case y14_1_20 => (try dsimp only at hS); unfold execOp; simp only [ho]; go_simp; try with_reducible rfl
              try simp only [Act.put, List.setIfInBounds_toArray, List.set_cons_zero, List.set_cons_succ]
              refine held_run 19 (some 70) (.fieldAddr 55 (.tmp 69) 4) ?v14_1_21 (by rfl) (by kernel_rfl) (by kernel_rfl) (by kernel_rfl) (fun _ _ _ h => h) (fun o ho w hS => ?y14_1_21) (by assumption) ?r14_1_21
              case y14_1_21 => (try dsimp only at hS); unfold execOp; simp only [ho]; go_simp; try with_reducible rfl
              try simp only [Act.put, List.setIfInBounds_toArray, List.set_cons_zero, List.set_cons_succ]
              refine held_run 20 (some 71) (.load 3 (.tmp 70)) ?v14_1_22 (by rfl) (by kernel_rfl) (by kernel_rfl) (by kernel_rfl) (fun _ _ _ h => h) (fun o ho w hS => ?y14_1_22) (by assumption) ?r14_1_22
              case y14_1_22 => (try dsimp only at hS); unfold execOp; simp only [ho]; go_simp; try with_reducible rfl
              try simp only [Act.put, List.setIfInBounds_toArray, List.set_cons_zero, List.set_cons_succ]
              refine held_run 21 (some 72) (.binOp .sub 3 (.const (.int .i64 5)) (.tmp 71) 3) ?v14_1_23 (by rfl) (by kernel_rfl) (by kernel_rfl) (by kernel_rfl) (fun _ _ _ h => h) (fun o ho w hS => ?y14_1_23) (by assumption) ?r14_1_23
              case y14_1_23 => (try dsimp only at hS); unfold execOp; simp only [ho]; go_simp; try with_reducible rfl
              try simp only [Act.put, List.setIfInBounds_toArray, List.set_cons_zero, List.set_cons_succ]
              refine held_run 22 (some 73) (.binOp .mul 3 (.tmp 72) (.const (.int .i64 500)) 3) ?v14_1_24 (by rfl) (by kernel_rfl) (by kernel_rfl) (by kernel_rfl) (fun _ _ _ h => h) (fun o ho w hS => ?y14_1_24) (by assumption) ?r14_1_24
              case y14_1_24 => (try dsimp only at hS); unfold execOp; simp only [ho]; go_simp; try with_reducible rfl
              try simp only [Act.put, List.setIfInBounds_toArray, List.set_cons_zero, List.set_cons_succ]
              refine held_run 23 (some 74) (.build 68 #[(0, (.tmp 53)), (1, (.tmp 59)), (2, (.tmp 65)), (3, (.tmp 73))]) ?v14_1_25 (by rfl) (by kernel_rfl) (by kernel_rfl) (by kernel_rfl) (fun _ _ _ h => h) (fun o ho w hS => ?y14_1_25) (by assumption) ?r14_1_25
              case y14_1_25 => (try dsimp only at hS); unfold execOp; simp only [ho]; go_simp; try with_reducible rfl
              try simp only [Act.put, List.setIfInBounds_toArray, List.set_cons_zero, List.set_cons_succ]
              refine held_one 24 (by kernel_rfl) ?_
              refine op_lit 24 (some 75) 66 68 1 #[(0, .tmp 74)] #[.int .i64 (nv : Int), .int .i64 fr, .int .i64 tt, .int .i64 ((5 - gr) * 500)] (by rfl) (by simp only [List.map_toArray, List.map_cons, List.map_nil]; exact run_lit1 (P := Try.prog) wi.drew 66 68 _ _ _ _ Try.underlying66 (by kernel_rfl)) ?_
              intro wa hx hb _
              have HBa := Lib.hid (HBd.out.trans (hb.mono HBd.out.size))
              have HLa := Lib.hid hx
              have HOa := Lib.hid (own_below HOd.out hb (Nat.le_refl _))
              clear hx hb
              refine ⟨HS.out _ HBa.out, ?_⟩
              try simp only [Act.put, List.setIfInBounds_toArray, List.set_cons_zero, List.set_cons_succ]
              refine held_one 25 (by kernel_rfl) ?_
              refine op_app ei_edge 25 (some 76) (.tmp 51) (.tmp 75) (by rfl) wb.heap.size _ nv (acc.map Ed.cells).flatten rfl (HOa.out) wa.heap.size (some ⟨wi.drew.heap.size, 0, none⟩) 1 1 (Ed.cells ⟨(nv : Int), fr, tt, (5 - gr) * 500⟩) rfl (reads_blk HLa.out rfl) (by simp [Value.oneCell']) (by simp only [maxLen]; omega) (by omega) (HBa.out.size) ?_
              intro v9 w9 hown9 _ hb9 _
              have HO9 : Hid (OwnE w9 wb.heap.size v9 (acc ++ [⟨(nv : Int), fr, tt, (5 - gr) * 500⟩])) := hide (OwnE.snoc hown9 (by rw [HLv.out]) rfl)
              have HB9 := Lib.hid (HBa.out.trans hb9)
              have hH9 : (fun W : World => W.cell? ⟨w.heap.size, 2, none⟩ = some (.slice (some ad) n c) ∧ W.cell? ⟨(ad.add (k * 7)).block, (ad.add (k * 7)).off + 2, none⟩ = some (.int .i64 fr) ∧ W.cell? ⟨(ad.add (k * 7)).block, (ad.add (k * 7)).off + 3, none⟩ = some (.int .i64 tt) ∧ W.cell? ⟨(ad.add (k * 7)).block, (ad.add (k * 7)).off + 4, none⟩ = some (.int .i64 gr)) w9 := HS.out _ HB9.out
              clear hown9 hb9
              refine ⟨hH9, ?_⟩
              try simp only [Act.put, List.setIfInBounds_toArray, List.set_cons_zero, List.set_cons_succ]
              refine held_run 26 (some 9) (.assign (.tmp 76)) ?v14_1_28 (by rfl) (by kernel_rfl) (by kernel_rfl) (by kernel_rfl) (fun _ _ _ h => h) (fun o ho w hS => ?y14_1_28) (by assumption) ?r14_1_28
              case y14_1_28 => (try dsimp only at hS); unfold execOp; simp only [ho]; go_simp; try with_reducible rfl
              try simp only [Act.put, List.setIfInBounds_toArray, List.set_cons_zero, List.set_cons_succ]
              refine wpAnyH_done (by kernel_rfl) ?_ _
              clear hw1 hw2
              go_wp2_with fail
              go_roundw
              case rel => exact ⟨k + 1, _, by omega, by go_num, HO9.out, HF2.out, by simp [HLv.out]; omega, HB9.out⟩
              case measure => simp [intOf]; omega
        
            | false =>
              have HF2 : Hid (egR runs (rs.drop (k + 1)) acc = egR runs rs []) := by have h := HF1.out; rw [HBn.out, if_neg (by decide)] at h; exact h
              go_wp2_with fail
              go_roundw
              case rel => exact ⟨k + 1, acc, by omega, by go_num, OwnE.mk' HOi.out HLv.out, HF2.out, by rw [HLv.out]; omega, HBBi.out⟩
              case measure => simp [intOf]; omega
      · obtain rfl : k = n := by omega
        have HF1 : Hid (acc = egR runs rs []) := by have h := HF.out; rw [List.drop_of_length_le (by rw [HL.out]; exact Nat.le_refl _)] at h; exact h
        have HF0 : Hid (egB (bs.drop 0) acc = egE rs runs bs) := by show egB bs acc = _; rw [HF1.out]; rfl
        go_wp2_with fail
        clear m0 m1 m2 m3
        go_loopw [9, 13] (fun v i wr => ∃ (q : Nat) (acc : List Ed), q ≤ nb ∧ i = .int .i64 q ∧ OwnE wr wb.heap.size v acc ∧ egB (bs.drop q) acc = egE rs runs bs ∧ acc.length ≤ 64 + q ∧ Below wb.heap.size wb wr) (fun _ i _ => nb - (intOf i).toNat)
        case atStart => exact ⟨0, acc, by omega, rfl, OwnE.mk' HO.out HLv.out, HF0.out, by rw [HLv.out]; omega, HBo.out⟩
        case round =>
          clear HBo HWo hszo HX0o HMo HRo HBso HRuo HO HF HF1 HF0 HLv
          obtain ⟨q, acc, hq, rfl, hO, hF, hal, hbr⟩ := hrel
          obtain ⟨Av, nv, cv, rfl, HLv, hv1, hv2, hsv⟩ := hO.nam
          have hnv : nv ≤ 64 + q := by rw [← HLv.out]; exact hal
          have HO := Lib.hid (hO.row HLv.out)
          have HSv := Lib.hid hsv
          have HF := Lib.hid hF
          have hv2' := hv2
          simp only [maxLen] at hv2'
          clear hO hF hal hsv
          obtain ⟨wo, rfl⟩ : ∃ wo : World, wo = wr := ⟨_, rfl⟩
          have HBo := Lib.hid (HBb.out.trans (hbr.mono hszb))
          have HWo := Lib.hid (HWb.out.trans (hbr.mono HWb.out.size))
          have hszo : wb.heap.size ≤ wo.heap.size := Nat.le_trans hszb hbr.size
          have HX0o := Lib.hid (HX0b.out.below hbr (Nat.lt_of_lt_of_le hxx0 hszb))
          have HMo := Lib.hid (HMb.out.now hbr)
          have HRo := Lib.hid (HRb.out.now hbr)
          have HBso := Lib.hid (HBsb.out.now hbr)
          have HRuo := Lib.hid (HRub.out.now hbr)
          clear hbr
          have m0 : wo.cell? ⟨w.heap.size, 0, none⟩ = some (vn) := HX0o.out.cell 0
          have m1 : wo.cell? ⟨w.heap.size, 1, none⟩ = some (vl) := HX0o.out.cell 1
          have m2 : wo.cell? ⟨w.heap.size, 2, none⟩ = some (.slice A k c) := HX0o.out.cell 2
          have m3 : wo.cell? ⟨w.heap.size, 3, none⟩ = some (.slice Ab nb cb) := HX0o.out.cell 3
          by_cases hlt2 : q < nb
          · obtain ⟨ad, rfl, hab, hc⟩ := HBso.out.int hlt2
            have HF1 := Lib.hid (HF.out.symm.trans (egB_at (acc := acc) (by rw [HLb.out]; exact hlt2))).symm
            generalize bs.getD q 0 = b at *
            have cb0 : wo.cell? (ad.add q) = some (.int .i64 b) := hc
            clear hc m0 m1 m2
            have HF2 : Hid (egB (bs.drop (q + 1)) (acc ++ [⟨(nv : Int), b, 0, 1000000⟩]) = egE rs runs bs) := by have h := HF1.out; rw [HLv.out] at h; exact h
            go_wp2_with
              (first
               | (at_builtin
                  refine wpList_app_lit ei_edge rfl (.tmp 84) (.tmp 93) rfl wb.heap.size (.slice Av nv cv) nv (acc.map Ed.cells).flatten rfl HO.out 1 rfl rfl (by simp [Value.oneCell']) (by simp only [maxLen]; omega) (by omega) (Nat.le_trans hszb hszo) ?_
                  intro v9 w9 hown9 hb9 hg9 hat9
                  have HO9 : Hid (OwnE w9 wb.heap.size v9 (acc ++ [⟨(nv : Int), b, 0, 1000000⟩])) := hide (OwnE.snoc hown9 (by rw [HLv.out]) rfl)
                  have HB9 := Lib.hid (HBo.out.trans (hb9.mono (Nat.le_refl _)))
                  clear hown9 hb9 hg9 hat9))
            go_roundw
            case rel => exact ⟨q + 1, _, by omega, by go_num, HO9.out, HF2.out, by simp [HLv.out]; omega, HB9.out⟩
            case measure => simp [intOf]; omega
          · obtain rfl : q = nb := by omega
            have HF1 : Hid (acc = egE rs runs bs) := by have h := HF.out; rw [List.drop_of_length_le (by rw [HLb.out]; exact Nat.le_refl _)] at h; exact h
            have HEd := Lib.hid (HK.out.edges runs).1
            rw [← HF1.out] at HE1 HEd
            go_wp2_with fail
            with_reducible refine (rmax_any Av nv cv acc node 0 wo HSv.out HLv.out hv1 hv2 (by omega) (by omega) HEd.out).mono ?_
            rintro e w5 ⟨M, hM, rfl, hb5⟩
            have HV := Lib.hid (HE1.out HOk.out M hM)
            have HW5 := Lib.hid (HWo.out.trans (hb5.mono HWo.out.size))
            clear hb5 hM
            go_wp2_with fail
            try go_ret
            exact HFin.out _ _ HV.out HW5.out

set_option maxRecDepth 100000 in
set_option maxHeartbeats 4000000 in
theorem rempty_any (vn vl vr vb : Value) (Ar : Option Addr) (nr cr : Nat) (nd : List Nd) (rs : List Rn) (bs runs : List Int) (node people : Int) (w : World) (hm : StrV Nd.cells 2 w w.heap.size vn nd) (hr : StrV Rn.cells 7 w w.heap.size vr rs) (hb : RowV w w.heap.size vb bs)
    (hru : Ints w w.heap.size Ar nr runs) (hnr : nr ≤ maxLen) (hok : EgOK nd rs bs) :
    Calls Try.prog 25 #[.agg #[vn, vl, vr, vb], .slice Ar nr cr, .int .i64 node, .int .i64 people] w (EmR nd rs bs runs node people w) := by
  have HC : Hid (∀ W, Below w.heap.size w W → Calls Try.prog 23 #[.agg #[vn, vl, vr, vb], .slice Ar nr cr, .int .i64 node] W (EgR nd rs bs runs node W)) := fun W h => regress_any vn vl vr vb Ar nr cr nd rs bs runs node W (hm.now h) (hr.now h) (hb.now h) (hru.now h) hnr hok
  have HK := Lib.hid hok
  have HFin : Hid (∀ (r : Int) (w' : World), (∀ M, EgV nd rs bs runs node M → r = emptyV people M) → Below w.heap.size w w' → EmR nd rs bs runs node people w (.returned (.int .i64 r)) w') := fun r w' h1 h2 => ⟨r, h1, rfl, h2⟩
  generalize EmR nd rs bs runs node people w = RR at *
  clear hm hr hb hru hok
  have HN : Hid (people < 0 ∨ 1000000 < people → ∀ M, emptyV people M = -1) := fun h M => by unfold emptyV; rw [if_pos h]
  by_cases h0 : people < 0
  · have d0 : decide (people < 0) = true := decide_eq_true h0
    go_enter Try.func25, Try.ntmps25
    go_wp2_with fail
    have HBwb := (Blk.new w 44 #[vn, vl, vr, vb])
    have HLwb := (below_new w (.cells #[vn, vl, vr, vb] 44))
    have hswb : (w.alloc (.cells #[vn, vl, vr, vb] 44)).heap.size = w.heap.size + 1 := by simp
    generalize w.alloc (.cells #[vn, vl, vr, vb] 44) = wb at HBwb HLwb hswb ⊢
    replace HBwb := Lib.hid HBwb
    replace HLwb := Lib.hid HLwb
    have hlwb : w.heap.size < wb.heap.size := by omega
    replace hswb := Lib.hid hswb
    have HWb := Lib.hid (HLwb.out)
    have hl0 : w.heap.size ≤ wb.heap.size := HWb.out.size
    have HBb : Hid (Below wb.heap.size wb wb) := hide (Below.refl _ _)
    have hszb : wb.heap.size ≤ wb.heap.size := Nat.le_refl _
    have HX0b : Hid (Blk wb w.heap.size 44 #[vn, vl, vr, vb]) := hide HBwb.out
    have hxx0 : w.heap.size < wb.heap.size := HX0b.out.lt
    clear HBwb HLwb hswb hlwb
    exact HFin.out _ _ (fun M _ => (HN.out (.inl h0) M).symm) HWb.out
  have d0 : decide (people < 0) = false := decide_eq_false h0
  by_cases h1 : 1000000 < people
  · have d1 : decide (people > 1000000) = true := decide_eq_true h1
    go_enter Try.func25, Try.ntmps25
    go_wp2_with fail
    have HBwb := (Blk.new w 44 #[vn, vl, vr, vb])
    have HLwb := (below_new w (.cells #[vn, vl, vr, vb] 44))
    have hswb : (w.alloc (.cells #[vn, vl, vr, vb] 44)).heap.size = w.heap.size + 1 := by simp
    generalize w.alloc (.cells #[vn, vl, vr, vb] 44) = wb at HBwb HLwb hswb ⊢
    replace HBwb := Lib.hid HBwb
    replace HLwb := Lib.hid HLwb
    have hlwb : w.heap.size < wb.heap.size := by omega
    replace hswb := Lib.hid hswb
    have HWb := Lib.hid (HLwb.out)
    have hl0 : w.heap.size ≤ wb.heap.size := HWb.out.size
    have HBb : Hid (Below wb.heap.size wb wb) := hide (Below.refl _ _)
    have hszb : wb.heap.size ≤ wb.heap.size := Nat.le_refl _
    have HX0b : Hid (Blk wb w.heap.size 44 #[vn, vl, vr, vb]) := hide HBwb.out
    have hxx0 : w.heap.size < wb.heap.size := HX0b.out.lt
    clear HBwb HLwb hswb hlwb
    exact HFin.out _ _ (fun M _ => (HN.out (.inr h1) M).symm) HWb.out
  have d1 : decide (people > 1000000) = false := decide_eq_false h1
  by_cases h2 : people = 0
  · subst h2
    go_enter Try.func25, Try.ntmps25
    go_wp2_with fail
    have HBwb := (Blk.new w 44 #[vn, vl, vr, vb])
    have HLwb := (below_new w (.cells #[vn, vl, vr, vb] 44))
    have hswb : (w.alloc (.cells #[vn, vl, vr, vb] 44)).heap.size = w.heap.size + 1 := by simp
    generalize w.alloc (.cells #[vn, vl, vr, vb] 44) = wb at HBwb HLwb hswb ⊢
    replace HBwb := Lib.hid HBwb
    replace HLwb := Lib.hid HLwb
    have hlwb : w.heap.size < wb.heap.size := by omega
    replace hswb := Lib.hid hswb
    have HWb := Lib.hid (HLwb.out)
    have hl0 : w.heap.size ≤ wb.heap.size := HWb.out.size
    have HBb : Hid (Below wb.heap.size wb wb) := hide (Below.refl _ _)
    have hszb : wb.heap.size ≤ wb.heap.size := Nat.le_refl _
    have HX0b : Hid (Blk wb w.heap.size 44 #[vn, vl, vr, vb]) := hide HBwb.out
    have hxx0 : w.heap.size < wb.heap.size := HX0b.out.lt
    clear HBwb HLwb hswb hlwb
    exact HFin.out _ _ (fun M _ => by unfold emptyV; rw [if_neg (by omega), if_pos rfl]) HWb.out
  have d2 : (people == 0) = false := beq_eq_false_iff_ne.2 h2
  go_enter Try.func25, Try.ntmps25
  go_wp2_with fail
  have HBwb := (Blk.new w 44 #[vn, vl, vr, vb])
  have HLwb := (below_new w (.cells #[vn, vl, vr, vb] 44))
  have hswb : (w.alloc (.cells #[vn, vl, vr, vb] 44)).heap.size = w.heap.size + 1 := by simp
  generalize w.alloc (.cells #[vn, vl, vr, vb] 44) = wb at HBwb HLwb hswb ⊢
  replace HBwb := Lib.hid HBwb
  replace HLwb := Lib.hid HLwb
  have hlwb : w.heap.size < wb.heap.size := by omega
  replace hswb := Lib.hid hswb
  have HWb := Lib.hid (HLwb.out)
  have hl0 : w.heap.size ≤ wb.heap.size := HWb.out.size
  have HBb : Hid (Below wb.heap.size wb wb) := hide (Below.refl _ _)
  have hszb : wb.heap.size ≤ wb.heap.size := Nat.le_refl _
  have HX0b : Hid (Blk wb w.heap.size 44 #[vn, vl, vr, vb]) := hide HBwb.out
  have hxx0 : w.heap.size < wb.heap.size := HX0b.out.lt
  clear HBwb HLwb hswb hlwb
  go_wp2_with
    (first
     | (refine wpList_load_g 44 (.tmp 18) rfl rfl w.heap.size rfl _ _ HX0b.out _ Try.underlying44 rfl (by kernel_rfl) ?_))
  with_reducible refine (HC.out wb HWb.out).mono ?_
  rintro e w1 ⟨M, hM, rfl, hb1⟩
  have HB1 := Lib.hid (HBb.out.trans (hb1.mono hszb))
  have HW1 := Lib.hid (HWb.out.trans (hb1.mono HWb.out.size))
  have hsz1 : wb.heap.size ≤ w1.heap.size := Nat.le_trans hszb hb1.size
  have HX01 := Lib.hid (HX0b.out.below hb1 (Nat.lt_of_lt_of_le hxx0 hszb))
  clear hb1
  have hbd := hM.bound HK.out
  have HMv := Lib.hid hM
  clear hM
  by_cases h3 : M = 0
  · have d3 : (M == 0) = true := beq_iff_eq.2 h3
    have HE : Hid (∀ M', EgV nd rs bs runs node M' → (-1 : Int) = emptyV people M') := fun M' h' => by
      rw [← HMv.out.unique h']
      unfold emptyV
      rw [if_neg (by omega), if_neg h2, if_pos h3]
    clear h3
    go_wp2_with fail
    exact HFin.out _ _ HE.out HW1.out
  · have d3 : (M == 0) = false := beq_eq_false_iff_ne.2 h3
    have hM1 : 0 < M := by omega
    have HE : Hid (∀ M', EgV nd rs bs runs node M' → (people * 3600 + M - 1) / M = emptyV people M') := fun M' h' => by
      rw [← HMv.out.unique h']
      unfold emptyV
      rw [if_neg (by omega), if_neg h2, if_neg h3]
    go_wp2_with fail
    exact HFin.out _ _ HE.out HW1.out
end

section
open Go.ChangeShapes Go.WideShapes Go.ChangeAt Go.RowKit Go.Deep

section
variable {H : Type} {enc : TypeId × Value → H} {P : Program} {W : World} {base : Nat}
theorem field_strs {α : Type} (f : α → List Value) (s : Nat) {t e : TypeId} {fs : Array Field} {u : Value} (ht : P.underlying t = some (.slice e)) (he : P.underlying e = some (.struct fs)) (hone : oneCellFields P fs = true) (hC : P.cellsOf e = fs.size) (hpos : 0 < fs.size) (hsz : fs.size = s)
    (hel : ∀ r : List Value, r.length = s → (∀ (j : Nat) (f : Field) (u : Value), fs[j]? = some f → r[j]? = some u → FieldV enc P W f.type u) → ∃ x, r = f x) (h : FieldV enc P W t u) : ∃ l : List α, StrV f s W W.heap.size u l := by
  obtain ⟨y, fuel, hf⟩ := h
  obtain ⟨A, n, c, es, hcs, h1, h2, h3, h4, h5⟩ := open_structs ht he hone hC hpos hf
  simp at hcs
  subst hcs
  obtain ⟨l, rfl⟩ := list_of f fun r hr => hel r ((h5 r hr).1.trans hsz) (h5 r hr).2
  rw [hsz] at h4
  exact ⟨l, strV_of h4 (by simpa using h3) h1 h2⟩
end
section
variable {H : Type} {enc : TypeId × Value → H} {W : World} {base : Nat}
theorem open_map {v : Value} {d : DataW H} {p : List MemPlace} (hv : Value.okWide Try.prog W .any base 44 v) (h : DataW.Trod enc Try.prog W 0 (fun _ => true) true 44 v d p) :
    ∃ (vn vl vr vb : Value) (nd : List Nd) (lf : List Lf) (rs : List Rn) (bs : List Int), v = .agg #[vn, vl, vr, vb] ∧ StrV Nd.cells 2 W W.heap.size vn nd ∧ StrV Lf.cells 8 W W.heap.size vl lf ∧ StrV Rn.cells 7 W W.heap.size vr rs ∧ RowV W W.heap.size vb bs := by
  obtain ⟨ol, rfl, oll, of⟩ := open_agg Try.underlying44 (by kernel_rfl) (by kernel_rfl) hv h
  obtain ⟨u0, u1, u2, u3, rfl⟩ := list_len4 ol oll
  obtain ⟨nd, h0⟩ := field_strs Nd.cells 2 Try.underlying39 Try.underlying63 (by kernel_rfl) (by kernel_rfl) (by decide) rfl (fun r hl hf => by
    obtain ⟨a, b, rfl⟩ := list_len2 r hl
    obtain ⟨x0, rfl, _⟩ := field_int Try.underlying3 (hf 0 _ _ rfl rfl)
    obtain ⟨x1, rfl, _⟩ := field_int Try.underlying3 (hf 1 _ _ rfl rfl)
    exact ⟨⟨x0, x1⟩, rfl⟩) (of 0 _ _ rfl rfl)
  obtain ⟨lf, h1⟩ := field_strs Lf.cells 8 Try.underlying40 Try.underlying79 (by kernel_rfl) (by kernel_rfl) (by decide) rfl (fun r hl hf => by
    obtain ⟨a, b, c, d, e, f, g, i, rfl⟩ := list_len8 r hl
    obtain ⟨x0, rfl, _⟩ := field_int Try.underlying3 (hf 0 _ _ rfl rfl)
    obtain ⟨x1, rfl, _⟩ := field_int Try.underlying3 (hf 1 _ _ rfl rfl)
    obtain ⟨x2, rfl, _⟩ := field_int Try.underlying3 (hf 2 _ _ rfl rfl)
    obtain ⟨x3, rfl, _⟩ := field_int Try.underlying3 (hf 3 _ _ rfl rfl)
    obtain ⟨x4, rfl, _⟩ := field_int Try.underlying3 (hf 4 _ _ rfl rfl)
    obtain ⟨x5, rfl, _⟩ := field_int Try.underlying3 (hf 5 _ _ rfl rfl)
    obtain ⟨x6, rfl, _⟩ := field_int Try.underlying3 (hf 6 _ _ rfl rfl)
    obtain ⟨x7, rfl, _⟩ := field_int Try.underlying3 (hf 7 _ _ rfl rfl)
    exact ⟨⟨x0, x1, x2, x3, x4, x5, x6, x7⟩, rfl⟩) (of 1 _ _ rfl rfl)
  obtain ⟨rs, h2⟩ := field_strs Rn.cells 7 Try.underlying41 Try.underlying55 (by kernel_rfl) (by kernel_rfl) (by decide) rfl (fun r hl hf => by
    obtain ⟨a, b, c, d, e, f, g, rfl⟩ := list_len7 r hl
    obtain ⟨x0, rfl, _⟩ := field_int Try.underlying3 (hf 0 _ _ rfl rfl)
    obtain ⟨x1, rfl, _⟩ := field_int Try.underlying3 (hf 1 _ _ rfl rfl)
    obtain ⟨x2, rfl, _⟩ := field_int Try.underlying3 (hf 2 _ _ rfl rfl)
    obtain ⟨x3, rfl, _⟩ := field_int Try.underlying3 (hf 3 _ _ rfl rfl)
    obtain ⟨x4, rfl, _⟩ := field_int Try.underlying3 (hf 4 _ _ rfl rfl)
    obtain ⟨x5, rfl, _⟩ := field_int Try.underlying3 (hf 5 _ _ rfl rfl)
    obtain ⟨x6, rfl, _⟩ := field_int Try.underlying3 (hf 6 _ _ rfl rfl)
    exact ⟨⟨x0, x1, x2, x3, x4, x5, x6⟩, rfl⟩) (of 2 _ _ rfl rfl)
  obtain ⟨A, n, c, bs, rfl, h3, h4, h5, _⟩ := field_ints Try.underlying42 Try.underlying3 (by kernel_rfl) (of 3 _ _ rfl rfl)
  exact ⟨_, _, _, _, nd, lf, rs, bs, rfl, h0, h1, h2, rowV_of h5 h3 h4⟩
end
theorem MapOK.eg {nd : List Nd} {lf : List Lf} {rs : List Rn} {bs : List Int} (h : MapOK nd lf rs bs) : EgOK nd rs bs := by
  have nod : ∀ i, hasN nd i = true → 1 ≤ i ∧ i ≤ 9999 := fun i hi => by
    obtain ⟨x, hx, rfl⟩ := List.mem_map.1 (hasN_iff.1 hi)
    exact (h.nodes x hx).1
  refine ⟨h.l3, h.l4, fun x hx => ?_, fun x hx => ?_, nod⟩
  · obtain ⟨_, h1, h2, _, h3, _⟩ := h.runs x hx
    have := nod _ h1
    have := nod _ h2
    omega
  · have := nod _ (h.bases x hx)
    omega
/-- a test, and what its success says -/
def TestR (p : Prop) (w : World) (e : Ending) (w' : World) : Prop := ∃ b : Bool, e = .returned (.bool b) ∧ (b = true → p) ∧ Below w.heap.size w w'
theorem testR_no {p : Prop} {w w' : World} (hb : Below w.heap.size w w') : TestR p w (.returned (.bool false)) w' := ⟨false, rfl, (fun h => by cases h), hb⟩
theorem testR_if {p : Prop} {w w' : World} {b : Bool} (h : b = true → p) (hb : Below w.heap.size w w') : TestR p w (.returned (.bool b)) w' := ⟨b, rfl, h, hb⟩

set_option maxRecDepth 100000 in
set_option maxHeartbeats 4000000 in
theorem small_any (vn vl vr vb : Value) (nd : List Nd) (lf : List Lf) (rs : List Rn) (bs : List Int) (A : Option Addr) (n c : Nat) (w : World) (hm : StrV Nd.cells 2 w w.heap.size vn nd) (hl : StrV Lf.cells 8 w w.heap.size vl lf) (hr : StrV Rn.cells 7 w w.heap.size vr rs) (hb : RowV w w.heap.size vb bs) (hn : n ≤ maxLen) :
    Calls Try.prog 21 #[.agg #[vn, vl, vr, vb], .slice A n c] w (TestR (n ≤ 100 ∧ MapOK nd lf rs bs) w) := by
  obtain ⟨A1, n1, c1, rfl, L1, k1, k1', _⟩ := hm.nam
  obtain ⟨A2, n2, c2, rfl, L2, k2, k2', _⟩ := hl.nam
  obtain ⟨A3, n3, c3, rfl, L3, k3, k3', _⟩ := hr.nam
  simp only [maxLen] at hn k1' k2' k3'
  have HM := Lib.hid hm
  have HL := Lib.hid hl
  have HR := Lib.hid hr
  have HS := Lib.hid hb
  obtain ⟨P, hP⟩ : ∃ P, MapOK nd lf rs bs = P := ⟨_, rfl⟩
  have HC : Hid (∀ W, StrV Nd.cells 2 W W.heap.size (.slice A1 n1 c1) nd → StrV Lf.cells 8 W W.heap.size (.slice A2 n2 c2) lf → StrV Rn.cells 7 W W.heap.size (.slice A3 n3 c3) rs → RowV W W.heap.size vb bs → Calls Try.prog 33 #[.agg #[.slice A1 n1 c1, .slice A2 n2 c2, .slice A3 n3 c3, vb]] W (ErrR P W)) := fun W h1 h2 h3 h4 => by rw [← hP]; exact tright_any _ _ _ _ nd lf rs bs W h1 h2 h3 h4
  rw [hP]
  have HNo : Hid (∀ w', Below w.heap.size w w' → TestR (n ≤ 100 ∧ P) w (.returned (.bool false)) w') := fun w' h => testR_no h
  have HYe : Hid (∀ (r : Int) w', n ≤ 100 → (r = 0 → P) → Below w.heap.size w w' → TestR (n ≤ 100 ∧ P) w (.returned (.bool (r == 0))) w') := fun r w' h0 h1 h2 => testR_if (fun h => ⟨h0, h1 (beq_iff_eq.1 h)⟩) h2
  generalize TestR (n ≤ 100 ∧ P) w = RR at *
  clear hm hl hr hb hP
  go_enter Try.func21, Try.ntmps21
  go_upto_region 1 with (fail)
  have HBwb := (Blk.new w 44 #[.slice A1 n1 c1, .slice A2 n2 c2, .slice A3 n3 c3, vb])
  have HLwb := (below_new w (.cells #[.slice A1 n1 c1, .slice A2 n2 c2, .slice A3 n3 c3, vb] 44))
  have hswb : (w.alloc (.cells #[.slice A1 n1 c1, .slice A2 n2 c2, .slice A3 n3 c3, vb] 44)).heap.size = w.heap.size + 1 := by simp
  generalize w.alloc (.cells #[.slice A1 n1 c1, .slice A2 n2 c2, .slice A3 n3 c3, vb] 44) = wb at HBwb HLwb hswb ⊢
  replace HBwb := Lib.hid HBwb
  replace HLwb := Lib.hid HLwb
  have hlwb : w.heap.size < wb.heap.size := by omega
  replace hswb := Lib.hid hswb
  have HWb := Lib.hid (HLwb.out)
  have hl0 : w.heap.size ≤ wb.heap.size := HWb.out.size
  have HBb : Hid (Below wb.heap.size wb wb) := hide (Below.refl _ _)
  have hszb : wb.heap.size ≤ wb.heap.size := Nat.le_refl _
  have HX0b : Hid (Blk wb w.heap.size 44 #[.slice A1 n1 c1, .slice A2 n2 c2, .slice A3 n3 c3, vb]) := hide HBwb.out
  have hxx0 : w.heap.size < wb.heap.size := HX0b.out.lt
  clear HBwb HLwb hswb hlwb
  have HMb := Lib.hid (HM.out.now HWb.out)
  have HLb := Lib.hid (HL.out.now HWb.out)
  have HRb := Lib.hid (HR.out.now HWb.out)
  have HSb := Lib.hid (HS.out.now HWb.out)
  have m0 : wb.cell? ⟨w.heap.size, 0, none⟩ = some (.slice A1 n1 c1) := HX0b.out.cell 0
  have m1 : wb.cell? ⟨w.heap.size, 1, none⟩ = some (.slice A2 n2 c2) := HX0b.out.cell 1
  have m2 : wb.cell? ⟨w.heap.size, 2, none⟩ = some (.slice A3 n3 c3) := HX0b.out.cell 2
  have m3 : wb.cell? ⟨w.heap.size, 3, none⟩ = some (vb) := HX0b.out.cell 3
  by_cases h0 : n1 ≤ 12
  rotate_left
  · have d0 : decide ((n1 : Int) ≤ 12) = false := decide_eq_false (by omega)
    go_wp2_with fail
    try go_ret
    exact HNo.out _ HWb.out
  have d0 : decide ((n1 : Int) ≤ 12) = true := decide_eq_true (by omega)
  by_cases h1 : n3 ≤ 16
  rotate_left
  · have d1 : decide ((n3 : Int) ≤ 16) = false := decide_eq_false (by omega)
    go_wp2_with fail
    try go_ret
    exact HNo.out _ HWb.out
  have d1 : decide ((n3 : Int) ≤ 16) = true := decide_eq_true (by omega)
  by_cases h2 : n2 ≤ 16
  rotate_left
  · have d2 : decide ((n2 : Int) ≤ 16) = false := decide_eq_false (by omega)
    go_wp2_with fail
    try go_ret
    exact HNo.out _ HWb.out
  have d2 : decide ((n2 : Int) ≤ 16) = true := decide_eq_true (by omega)
  by_cases h3 : n ≤ 100
  rotate_left
  · have d3 : decide ((n : Int) ≤ 100) = false := decide_eq_false (by omega)
    go_wp2_with fail
    try go_ret
    exact HNo.out _ HWb.out
  have d3 : decide ((n : Int) ≤ 100) = true := decide_eq_true (by omega)
  go_wp2_with
    (first
     | (refine wpList_load_g 44 (.tmp 2) rfl rfl w.heap.size rfl _ _ HX0b.out _ Try.underlying44 rfl (by kernel_rfl) ?_))
  with_reducible refine (HC.out _ HMb.out HLb.out HRb.out HSb.out).mono ?_
  rintro e w3 ⟨r3, rfl, hr3, hb3⟩
  have HP3 := Lib.hid hr3
  clear hr3
  have HB3 := Lib.hid (HBb.out.trans (hb3.mono hszb))
  have HW3 := Lib.hid (HWb.out.trans (hb3.mono HWb.out.size))
  have hsz3 : wb.heap.size ≤ w3.heap.size := Nat.le_trans hszb hb3.size
  have HX03 := Lib.hid (HX0b.out.below hb3 (Nat.lt_of_lt_of_le hxx0 hszb))
  have HM3 := Lib.hid (HMb.out.now hb3)
  have HL3 := Lib.hid (HLb.out.now hb3)
  have HR3 := Lib.hid (HRb.out.now hb3)
  have HS3 := Lib.hid (HSb.out.now hb3)
  clear hb3
  go_wp2_with fail
  try go_ret
  exact HYe.out _ _ h3 HP3.out HW3.out
end
end Go.Proofs.Ytihmboibpjfohaa
