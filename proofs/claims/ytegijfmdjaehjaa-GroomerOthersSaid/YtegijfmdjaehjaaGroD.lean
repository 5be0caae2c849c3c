/-
  graph.Shortest, walked: whether there is a way, and its length.
-/
import Derived.Test.YtegijfmdjaehjaaGroC
namespace Go.Proofs.Ytegijfmdjaehjaa
open Go.RowKit

theorem row_blk {w : World} {base : Nat} {e : TypeId} {size n : Nat} {v : Value} {xs : List Value} (h : w.ownsRow base e size v n xs) {k : Nat} {t : TypeId} {cs : Array Value} (hb : Blk w k t cs) (ht : t ≠ e) : v.ownBlock ≠ some k := by
  rcases h.2 with ⟨rfl, _⟩ | ⟨g, cap, cur, rfl, _, hg, _⟩
  · simp [Value.ownBlock]
  · intro e0
    have e1 : g = k := Option.some.inj e0
    subst e1
    have h2 := hg.symm.trans hb
    simp only [Option.some.injEq, Obj.cells.injEq] at h2
    exact ht h2.2.1.symm
theorem row_map {α : Type} {en : α → Value} {P : Program} {kt : TypeId} {w : World} {base : Nat} {e : TypeId} {size n : Nat} {v : Value} {xs : List Value} (h : w.ownsRow base e size v n xs) {b m : Nat} {f : Int → Option α} (hm : MapV P kt en w b m f) : v.ownBlock ≠ some b := by
  rcases h.2 with ⟨rfl, _⟩ | ⟨g, cap, cur, rfl, _, hg, _⟩
  · simp [Value.ownBlock]
  · obtain ⟨D, ⟨es, clock, h1, _⟩, _⟩ := hm
    intro e0
    have e1 : g = b := Option.some.inj e0
    subst e1
    have h2 := hg.symm.trans h1
    cases h2
theorem row_lt {w : World} {base : Nat} {e : TypeId} {size n : Nat} {v : Value} {xs : List Value} (h : w.ownsRow base e size v n xs) {k : Nat} (hk : v.ownBlock = some k) : k < w.heap.size := (h.lt k hk).2
theorem grown_alloc {w w' : World} {o : Obj} {row : Option Nat} (h : (w.alloc o).grownBy w' row) : w.grownBy w' row :=
  ⟨h.os, h.tape, h.output, by have := h.size; simp at this; omega, fun k hk hne => (h.block k (by simp; omega) hne).trans (Below.heap_alloc w o k hk)⟩
def ShR (f : DM) (u : Int) (w : World) (e : Ending) (w' : World) : Prop := ∃ vx : Value, e = .returned (.tuple #[vx, .int .i64 (((f u).map Prod.fst).getD 0), .bool (f u).isSome]) ∧ Below w.heap.size w w'
set_option maxRecDepth 100000 in
set_option maxHeartbeats 4000000 in
theorem shortest_any (A : Option Addr) (n c : Nat) (es : List Ed) (u v : Int) (w : World) (hr : Strs Ed.cells 4 w w.heap.size A n es) (hl : es.length = n) (hc : n ≤ c) (hc2 : c ≤ maxLen) (hn : n ≤ 400) (hu : 0 ≤ u ∧ u ≤ 1000000) (hv : 0 ≤ v ∧ v ≤ 1000000)
    (he : ∀ e ∈ es, (0 ≤ e.fr ∧ e.fr ≤ 1000000) ∧ (0 ≤ e.tt ∧ e.tt ≤ 1000000) ∧ 0 ≤ e.cst ∧ e.cst ≤ 1000000) :
    Calls Try.prog 40 #[.slice A n c, .int .i64 u, .int .i64 v] w (ShR (lengthsD es v) u w) := by
  have hmf : ∀ (fn : Fn) (first cap : Array Value) (w : World), (Instr.makeFunc fn first cap).run Try.prog w = .ok (.func fn first cap) w := fun _ _ _ _ => rfl
  have HR := Lib.hid hr
  have HL := Lib.hid hl
  have HE := Lib.hid he
  have HU := Lib.hid (wf_small hu)
  have hc2' := hc2
  unfold maxLen at hc2'
  have HC0 : Hid (∀ e ∈ es, 0 ≤ e.cst) := fun e h => (he e h).2.2.1
  obtain ⟨M, hM0, hM1, hbnd⟩ := lengths_bnd v (fun e h => (he e h).2.2) n hl
  have hM2 : M ≤ 1000000 := by
    have h : (n : Int) * (n : Int) ≤ 400 * (n : Int) := Int.mul_le_mul_of_nonneg_right (by omega) (by omega)
    omega
  have HBn := Lib.hid hbnd
  have HTh : Hid (∀ (x : Int) (a : Int × Int), lengthsD es v x = some a → x ≠ v → ∃ i, idxE (hitE (lengthsD es v) x) es 0 = ((0 + i : Nat) : Int) ∧ i < es.length ∧ hitE (lengthsD es v) x (es.getD i edZ) = true) := fun x a h1 h2 => idxE_ok (hit_there HC0.out h1 h2)
  have HLe : Hid (Calls Try.prog 56 #[.slice A n c, .int .i64 v] w fun e w' => ∃ b nm : Nat, e = .returned (.map (some b)) ∧ MapV Try.prog 3 enL w' b nm (lengthsD es v) ∧ w.heap.size ≤ b ∧ Below w.heap.size w w') := hide (lengths_any A n c es v w hr hl hc hc2 (by omega) hv he)
  have HNx : Hid (∀ {x : Int} {e : Ed}, hitE (lengthsD es v) x e = true → ∀ {a : Int × Int}, lengthsD es v x = some a → ∃ b, lengthsD es v e.tt = some b ∧ a.2 = b.2 + 1) := hide (fun h _ ha => hit_next h ha)
  have HIdx : Hid (∀ (b nm g9 g13 : Nat) (x : Int) (W : World), Below w.heap.size w W → MapV Try.prog 3 enL W b nm (lengthsD es v) → Blk W g9 89 #[.map (some b)] → Blk W g13 3 #[.int .i64 x] → (0 ≤ x ∧ x ≤ 1000000) →
      Calls Try.prog 57 #[.slice A n c, .func (.func 58) #[] #[.pointer (some ⟨g9, 0, none⟩), .pointer (some ⟨g13, 0, none⟩)]] W fun e w' => e = .returned (.int .i64 (idxE (hitE (lengthsD es v) x) es 0)) ∧ Below W.heap.size W w') := fun b nm g9 g13 x W hb h1 h2 h3 h4 =>
    idx_any A n c b nm g9 g13 es (lengthsD es v) M x W (hr.now hb) hl hc hc2 h1 h2 h3 hbnd ⟨hM0, hM2⟩ h4 he
  generalize lengthsD es v = f at *
  obtain ⟨⟨a1, a2⟩, hav⟩ : ∃ q, (f u).getD (0, 0) = q := ⟨_, rfl⟩
  obtain ⟨is, his⟩ : ∃ q, (f u).isSome = q := ⟨_, rfl⟩
  have HFinN : Hid (is = false → ∀ w', Below w.heap.size w w' → ShR f u w (.returned (.tuple #[.slice none 0 0, .int .i64 0, .bool false])) w') := fun h w' hb => by
    refine ⟨.slice none 0 0, ?_, hb⟩
    cases hf : f u with
    | none => rfl
    | some q => rw [hf] at his; rw [← his] at h; cases h
  have HFinS : Hid (is = true → ∀ vx w', Below w.heap.size w w' → ShR f u w (.returned (.tuple #[vx, .int .i64 a1, .bool true])) w') := fun h vx w' hb => by
    refine ⟨vx, ?_, hb⟩
    cases hf : f u with
    | none => rw [hf] at his; rw [← his] at h; cases h
    | some q => rw [hf] at hav; simp only [Option.getD_some] at hav; rw [hav]; rfl
  have HFu : Hid (is = true → f u = some (a1, a2)) := fun h => by
    cases hf : f u with
    | none => rw [hf] at his; rw [← his] at h; cases h
    | some q => rw [hf] at hav; exact congrArg some hav
  have HAv := Lib.hid hav
  have HIs := Lib.hid his
  generalize ShR f u w = RR at *
  clear hr hl he hbnd hav his hv
  go_enter Try.func40, Try.ntmps40
  go_wp2_with fail
  with_reducible refine HLe.out.mono ?_
  rintro e w1 ⟨b, nm, rfl, hm, hbb, hb1⟩
  have HM1 := Lib.hid hm
  have HB1 := Lib.hid hb1
  have hbl := hm.lt
  clear hm hb1 HLe
  go_upto_region 2 with (fail)
  have HBw2 := (Blk.new w1 89 #[.map (some b)])
  have HLw2 := (below_new w1 (.cells #[.map (some b)] 89))
  have hsw2 : (w1.alloc (.cells #[.map (some b)] 89)).heap.size = w1.heap.size + 1 := by simp
  generalize w1.alloc (.cells #[.map (some b)] 89) = w2 at HBw2 HLw2 hsw2 ⊢
  replace HBw2 := Lib.hid HBw2
  replace HLw2 := Lib.hid HLw2
  have hlw2 : w1.heap.size < w2.heap.size := by omega
  replace hsw2 := Lib.hid hsw2
  have HM2 := Lib.hid (HM1.out.below HLw2.out hbl)
  have HB2 : Hid (Below w.heap.size w w2) := hide (HB1.out.trans (HLw2.out.mono HB1.out.size))
  have H92 := HBw2
  have c9 : w2.cell? ⟨w1.heap.size, 0, none⟩ = some (.map (some b)) := H92.out.cell 0
  have hlook : (Instr.lookup 89 (.map (some b)) (.int .i64 u) true).run Try.prog w2 = .ok (.tuple #[.agg #[.int .i64 a1, .int .i64 a2], .bool is]) w2 := by
    have h := HM2.out.look enL_inj keyed_int Try.underlying89 (zero_len w2) Try.underlying3 HU.out
    rw [HAv.out, HIs.out] at h
    exact h
  have hg9 : w1.heap.size < w2.heap.size := hlw2
  obtain ⟨g9, hg9e⟩ : ∃ x, w1.heap.size = x := ⟨_, rfl⟩
  rw [hg9e] at H92 hg9 c9 ⊢
  have hlog9 : w.heap.size ≤ g9 := by rw [← hg9e]; exact HB1.out.size
  clear HBw2 HLw2 hsw2 hlw2 HM1 HB1 hg9e
  go_upto_region 3 with (fail)
  clear hlook c9
  have HBw3 := (Blk.new w2 92 #[.int .i64 a1, .int .i64 a2])
  have HLw3 := (below_new w2 (.cells #[.int .i64 a1, .int .i64 a2] 92))
  have hsw3 : (w2.alloc (.cells #[.int .i64 a1, .int .i64 a2] 92)).heap.size = w2.heap.size + 1 := by simp
  generalize w2.alloc (.cells #[.int .i64 a1, .int .i64 a2] 92) = w3 at HBw3 HLw3 hsw3 ⊢
  replace HBw3 := Lib.hid HBw3
  replace HLw3 := Lib.hid HLw3
  have hlw3 : w2.heap.size < w3.heap.size := by omega
  replace hsw3 := Lib.hid hsw3
  have HM3 := Lib.hid (HM2.out.below HLw3.out HM2.out.lt)
  have HB3 : Hid (Below w.heap.size w w3) := hide (HB2.out.trans (HLw3.out.mono HB2.out.size))
  have H93 := Lib.hid (H92.out.below HLw3.out hg9)
  have H103 := HBw3
  have hg10 : w2.heap.size < w3.heap.size := hlw3
  obtain ⟨g10, hg10e⟩ : ∃ x, w2.heap.size = x := ⟨_, rfl⟩
  rw [hg10e] at H103 hg10 hg9 ⊢
  have hlog10 : w.heap.size ≤ g10 := by rw [← hg10e]; exact HB2.out.size
  clear HBw3 HLw3 hsw3 hlw3 HM2 HB2 H92 hg10e
  cases is with
  | false =>
    go_wp2_with fail
    go_ret3
    exact HFinN.out trivial _ HB3.out
  | true =>
    have HFu' : Hid (f u = some (a1, a2)) := HFu.out rfl
    have hbd := HBn.out _ _ HFu'.out
    simp only at hbd
    go_upto_region 7 with (fail)
    have HBw4 := (Blk.new w3 3 #[.int .i64 u])
    have HLw4 := (below_new w3 (.cells #[.int .i64 u] 3))
    have hsw4 : (w3.alloc (.cells #[.int .i64 u] 3)).heap.size = w3.heap.size + 1 := by simp
    generalize w3.alloc (.cells #[.int .i64 u] 3) = w4 at HBw4 HLw4 hsw4 ⊢
    replace HBw4 := Lib.hid HBw4
    replace HLw4 := Lib.hid HLw4
    have hlw4 : w3.heap.size < w4.heap.size := by omega
    replace hsw4 := Lib.hid hsw4
    have HM4 := Lib.hid (HM3.out.below HLw4.out HM3.out.lt)
    have HB4 : Hid (Below w.heap.size w w4) := hide (HB3.out.trans (HLw4.out.mono HB3.out.size))
    have H94 := Lib.hid (H93.out.below HLw4.out H93.out.lt)
    have H104 := Lib.hid (H103.out.below HLw4.out hg10)
    have H134 := HBw4
    have hlo4 : w.heap.size ≤ w3.heap.size := HB3.out.size
    obtain ⟨m0, hm0⟩ : ∃ m0 : Nat, a2 = (m0 : Int) := ⟨a2.toNat, by omega⟩
    have hm1 : m0 ≤ 1000000 := by omega
    have HM0 := Lib.hid hm0
    clear hm0
    clear HBw4 HLw4 hsw4 hlw4 HM3 HB3 H93 H103
    go_loopg [12, 13] m0 (fun q vi p wr => ∃ (x : Int) (g : Nat) (ax : Int × Int) (l : List Int), p = .pointer (some ⟨g, 0, none⟩) ∧ w.heap.size ≤ g ∧ Blk wr g 3 #[.int .i64 x] ∧ f x = some ax ∧ (0 ≤ x ∧ x ≤ 1000000) ∧ ax.2 = (q : Int) ∧ l.length + q = m0 ∧ MapV Try.prog 3 enL wr b nm f ∧ Blk wr g9 89 #[.map (some b)] ∧ Blk wr g10 92 #[.int .i64 a1, .int .i64 a2] ∧ OwnI wr w.heap.size vi l ∧ vi.ownBlock ≠ some g ∧ Below w.heap.size w wr)
    case atStart => exact ⟨u, w3.heap.size, (a1, a2), [], rfl, hlo4, H134.out, HFu'.out, hu, HM0.out, by simp, HM4.out, H94.out, H104.out, OwnI.nil _ _, by simp [Value.ownBlock], HB4.out⟩
    case round =>
      obtain ⟨x, g, ax, l, rfl, hlog, hx, hfx, hxb, haq, hlq, hMo, h9o, h10o, hO, hne, hbr⟩ := hrel
      obtain ⟨wo, rfl⟩ : ∃ wo : World, wo = wr := ⟨_, rfl⟩
      have HX := Lib.hid hx
      have HFx := Lib.hid hfx
      have HAq := Lib.hid haq
      have HLq := Lib.hid hlq
      have HMo := Lib.hid hMo
      have H9o := Lib.hid h9o
      have H10o := Lib.hid h10o
      have HO := Lib.hid hO
      have HNe := Lib.hid hne
      have HB := Lib.hid hbr
      have c13 : wo.cell? ⟨g, 0, none⟩ = some (.int .i64 x) := hx.cell 0
      have hlo := hbr.size
      clear hx hfx haq hlq hMo h9o h10o hO hne hbr
      by_cases hxv : x = v
      · have d1 : (x != v) = false := by rw [hxv]; simp
        have cc : wo.cell? ⟨g10, 0, none⟩ = some (.int .i64 a1) := H10o.out.cell 0
        clear hxv
        go_wp2_with fail
        go_quiet (fail)
        go_wp2_with fail
        go_ret3
        exact HFinS.out trivial _ _ (below_drewN HB.out _)
      · have d1 : (x != v) = true := bne_iff_ne.2 hxv
        obtain ⟨i, hi1, hi2, hi3⟩ := HTh.out x ax HFx.out hxv
        rw [Nat.zero_add] at hi1
        have HHit := Lib.hid hi3
        have HC1 := HIdx.out b nm g9 g x wo HB.out HMo.out H9o.out HX.out hxb
        rw [hi1] at HC1
        have HC2 := Lib.hid HC1
        have hin : i < n := by rw [← HL.out]; exact hi2
        clear hi1 hi2 hi3 HC1 hxv
        go_wp2_with fail
        with_reducible refine HC2.out.mono ?_
        rintro e w5 ⟨rfl, hb5⟩
        have HB5 := Lib.hid (HB.out.trans (hb5.mono hlo))
        have HM5 := Lib.hid (HMo.out.below hb5 HMo.out.lt)
        have H95 := Lib.hid (H9o.out.below hb5 H9o.out.lt)
        have H105 := Lib.hid (H10o.out.below hb5 H10o.out.lt)
        have HX5 := Lib.hid (HX.out.below hb5 HX.out.lt)
        have HO5 : Hid (OwnI w5 w.heap.size u12 l) := hide (own_below HO.out hb5 (Nat.le_refl _))
        clear hb5 c13
        obtain ⟨ad, rfl, hab, hcl⟩ := strs_at (HR.out.below HB5.out) (fun _ => rfl) HL.out hin ed0
        have hem := HE.out _ (ed_mem (es := es) (k := i) (by rw [HL.out]; exact hin))
        obtain ⟨⟨ei, fr, tt, cst⟩, hq⟩ : ∃ q, es.getD i ed0 = q := ⟨_, rfl⟩
        have hq' : es.getD i edZ = ⟨ei, fr, tt, cst⟩ := hq
        rw [hq] at hcl
        rw [hq'] at hem HHit
        simp only at hem
        have htt := hem.2.1
        obtain ⟨bx, hbx, hax⟩ := HNx.out HHit.out HFx.out
        simp only at hbx
        have HBx := Lib.hid hbx
        have HAx := Lib.hid hax
        have hbxb := (HBn.out _ _ hbx).2.1
        have f0 : w5.cell? (ad.add (i * 4)) = some (.int .i64 ei) := by
          have h := hcl 0 _ rfl
          rwa [show (ad.add (i * 4)).add 0 = ad.add (i * 4) by unfold Addr.add; simp] at h
        have HCt : Hid (w5.cell? ⟨(ad.add (i * 4)).block, (ad.add (i * 4)).off + 2, none⟩ = some (.int .i64 tt)) := hcl 2 _ rfl
        have habt : (ad.add (i * 4)).block < w.heap.size := by rw [block_of_add]; exact hab
        have hlo5 := HB5.out.size
        have hin' : (i : Int) < (n : Int) := by omega
        clear hcl hq hq' hem hbx hax
        obtain ⟨Av, nv, cv, rfl, HLv, hv1, hv2, _⟩ := HO5.out.nam
        have HOr := Lib.hid (HO5.out.row HLv.out)
        have hnv : nv ≤ 1000000 := by have := HLv.out; have := HLq.out; omega
        go_upto_region 12 with
          (at_builtin
           refine wpList_app_lit ei_ints rfl (.tmp 35) (.tmp 41) rfl w.heap.size (.slice Av nv cv) nv (l.map (Value.int .i64)) rfl HOr.out 1 rfl rfl (by simp [Value.oneCell']) (by simp only [maxLen]; omega) (by omega) hlo5 ?_
           intro v6 w6 hown6 hb6 hg6 hat6
           have HO6 : Hid (OwnI w6 w.heap.size v6 (l ++ [ei])) := hide (OwnI.mk' hown6 (by simp [HLv.out]) (by simp))
           have HB6 := Lib.hid (HB5.out.trans (hb6.mono (Nat.le_refl _)))
           have hgr : w5.grownBy w6 (Value.slice Av nv cv).ownBlock := grown_alloc hg6
           have HX6 := Lib.hid (HX5.out.grown hgr (fun e => HNe.out e.symm))
           have HM6 : Hid (MapV Try.prog 3 enL w6 b nm f) := hide (HM5.out.same (hgr.block b HM5.out.lt (Ne.symm (row_map HO5.out HM5.out))))
           have H96 : Hid (Blk w6 g9 89 #[.map (some b)]) := hide (H95.out.grown hgr (Ne.symm (row_blk HO5.out H95.out (by decide))))
           have H106 : Hid (Blk w6 g10 92 #[.int .i64 a1, .int .i64 a2]) := hide (H105.out.grown hgr (Ne.symm (row_blk HO5.out H105.out (by decide))))
           have HNe6 : Hid (v6.ownBlock ≠ some g) := by
             rcases hat6 with h | h
             · rw [h]; exact hide HNe.out
             · rw [h]; exact hide (fun e => by have h1 := HX5.out.lt; have h2 := Option.some.inj e; omega)
           have c6 : w6.cell? ⟨(ad.add (i * 4)).block, (ad.add (i * 4)).off + 2, none⟩ = some (.int .i64 tt) := (hb6.cell (p := ⟨(ad.add (i * 4)).block, (ad.add (i * 4)).off + 2, none⟩) habt).trans HCt.out
           clear hown6 hb6 hg6 hat6)
        go_upto_region 13 with
          (refine wpList_store_field 3 (.tmp 13) (.tmp 47) rfl rfl g 0 (.int .i64 tt) rfl rfl 3 #[.int .i64 x] HX6.out (by kernel_rfl) (by simp) rfl rfl ?_
           intro w7 hx7 hon7
           have HX7 : Hid (Blk w7 g 3 #[.int .i64 tt]) := hx7
           have HB7 := Lib.hid (hon7.below HB6.out hlog)
           have hbg := HX6.out.lt
           have HM7 : Hid (MapV Try.prog 3 enL w7 b nm f) := hide (HM6.out.same (hon7.block b (fun e => by
             obtain ⟨D, ⟨es', clock, h1, _⟩, _⟩ := HM6.out
             rw [e] at h1
             have h2 := h1.symm.trans HX6.out
             cases h2)))
           have H97 := Lib.hid (hon7.blk H96.out (fun e => by
             have h1 := H96.out
             rw [e] at h1
             have h2 := h1.symm.trans HX6.out
             simp only [Option.some.injEq, Obj.cells.injEq] at h2
             exact absurd h2.2.1 (by decide)))
           have H107 := Lib.hid (hon7.blk H106.out (fun e => by
             have h1 := H106.out
             rw [e] at h1
             have h2 := h1.symm.trans HX6.out
             simp only [Option.some.injEq, Obj.cells.injEq] at h2
             exact absurd h2.2.1 (by decide)))
           have HO7 : Hid (OwnI w7 w.heap.size v6 (l ++ [ei])) := hide (hon7.own HO6.out HNe6.out)
           have hs7 := hon7.size
           clear hx7 hon7 c6)
        have c7 : w7.cell? ⟨g, 0, none⟩ = some (.int .i64 tt) := HX7.out.cell 0
        clear hs7
        go_wp2_with fail
        have HBw8 := (Blk.new w7 3 #[.int .i64 tt])
        have HLw8 := (below_new w7 (.cells #[.int .i64 tt] 3))
        have hsw8 : (w7.alloc (.cells #[.int .i64 tt] 3)).heap.size = w7.heap.size + 1 := by simp
        generalize w7.alloc (.cells #[.int .i64 tt] 3) = w8 at HBw8 HLw8 hsw8 ⊢
        replace HBw8 := Lib.hid HBw8
        replace HLw8 := Lib.hid HLw8
        have hlw8 : w7.heap.size < w8.heap.size := by omega
        replace hsw8 := Lib.hid hsw8
        have HB8 : Hid (Below w.heap.size w w8) := hide (HB7.out.trans (HLw8.out.mono HB7.out.size))
        have hlo7 := HB7.out.size
        have hqs : (ax.2).toNat = (bx.2).toNat + 1 := by have := HAx.out; omega
        have HQs := Lib.hid hqs
        clear hqs
        go_roundg ((bx.2).toNat)
        case measure => have h1 := HAq.out; have h2 := HAx.out; omega
        case rel =>
          refine ⟨tt, w7.heap.size, bx, l ++ [ei], rfl, hlo7, HBw8.out, HBx.out, htt, by omega, ?_, HM7.out.below HLw8.out HM7.out.lt, H97.out.below HLw8.out H97.out.lt, H107.out.below HLw8.out H107.out.lt, own_below HO7.out HLw8.out (Nat.le_refl _), fun e => ?_, HB8.out⟩
          · have h1 := HAq.out; have h2 := HAx.out; have h3 := HLq.out; simp; omega
          · have := row_lt HO7.out e
            omega
end Go.Proofs.Ytegijfmdjaehjaa
