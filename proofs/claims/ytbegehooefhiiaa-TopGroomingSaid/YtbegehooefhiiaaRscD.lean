/-
  helpless and Plan of chapter 21 at the example, walked.
-/
import Derived.Test.YtbegehooefhiiaaRscC
import Derived.Test.YtbegehooefhiiaaOwnT
namespace Go.Proofs.Ytbegehooefhiiaa
open Go.RowKit

theorem ei_sec : EInfo Try.prog 40 39 3 24 := EInfo.mk' Try.underlying40 (z := .agg #[.int .i64 0, .int .i64 0, .int .i64 0]) (by kernel_rfl) rfl (by omega)
theorem ei_job : EInfo Try.prog 35 58 4 32 := EInfo.mk' Try.underlying35 (z := .agg #[.int .i64 0, .int .i64 0, .int .i64 0, .int .i64 0]) (by kernel_rfl) rfl (by omega)
abbrev OwnS (w : World) (base : Nat) (v : Value) (l : List Sec) : Prop := OwnT 39 Sec.cells 3 w base v l
theorem sec_take (l : List Sec) (k : Nat) (h : k < l.length) : l.take (k + 1) = l.take k ++ [l.getD k sec0] := by
  rw [List.take_succ_eq_append_getElem h]
  simp [List.getElem?_eq_getElem h]
def HlpR (L : List Sec) (w : World) (e : Ending) (w' : World) : Prop := ∃ v, e = .returned v ∧ OwnS w' w.heap.size v L ∧ Below w.heap.size w w'
set_option maxRecDepth 100000 in
set_option maxHeartbeats 4000000 in
theorem helpless_any (A : Option Addr) (n c : Nat) (L : List Sec) (w : World) (hr : Strs Sec.cells 3 w w.heap.size A n L) (hl : L.length = n) (hn : n ≤ 8) (hp : ∀ i, i < n → (L.getD i sec0).pe ≠ 0) :
    Calls Try.prog 17 #[.slice A n c] w (HlpR L w) := by
  have HR := Lib.hid hr
  have HL := Lib.hid hl
  have HP := Lib.hid hp
  obtain ⟨lo, hlo⟩ : ∃ x, w.heap.size = x := ⟨_, rfl⟩
  have HFin : Hid (∀ v w', OwnS w' lo v L → Below lo w w' → HlpR L w (.returned v) w') := fun v w' h1 h2 => ⟨v, rfl, by rw [hlo]; exact h1, by rw [hlo]; exact h2⟩
  have HRn : Hid (∀ W, Below lo w W → Strs Sec.cells 3 W W.heap.size A n L) := fun W hb => by rw [← hlo] at hb; exact HR.out.now hb
  have HB0 : Hid (Below lo w w) := hide (by rw [← hlo]; exact Below.refl _ _)
  have HLo : Hid (lo ≤ w.heap.size) := hide (by omega)
  generalize HlpR L w = RR at *
  clear hr hl hp hlo HR
  go_enter Try.func17, Try.ntmps17
  go_wp2_with fail
  go_loopw [3, 8] (fun v i wr => ∃ k : Nat, k ≤ n ∧ i = .int .i64 k ∧ OwnS wr lo v (L.take k) ∧ Below lo w wr) (fun _ i _ => n - (intOf i).toNat)
  case atStart => exact ⟨0, by omega, rfl, OwnT.nil _ _ _ _ _, HB0.out⟩
  case round =>
    obtain ⟨k, hk, rfl, hO, hbr⟩ := hrel
    obtain ⟨wo, rfl⟩ : ∃ wo : World, wo = wr := ⟨_, rfl⟩
    have HB := Lib.hid hbr
    have HO := Lib.hid hO
    obtain ⟨Av, nv, cv, rfl, HLv, hv1, hv2, _⟩ := hO.nam
    have hnv : nv = k := by rw [← HLv.out, List.length_take, HL.out]; omega
    subst hnv
    have hlo : lo ≤ wo.heap.size := Nat.le_trans HLo.out HB.out.size
    clear hO hbr
    by_cases hlt : nv < n
    · obtain ⟨ad, rfl, hab, hcl⟩ := strs_at (HRn.out wo HB.out) (fun _ => rfl) HL.out hlt sec0
      have hpe := HP.out nv hlt
      have HSn := Lib.hid (sec_take L nv (by rw [HL.out]; exact hlt))
      generalize L.getD nv sec0 = q at *
      obtain ⟨id, pe, se⟩ := q
      have HCl2 : Hid (∀ i u, ([.int .i64 id, .int .i64 pe, .int .i64 se] : List Value)[i]? = some u → wo.cell? ((ad.add (nv * 3)).add i) = some u) := hcl
      simp only at hpe
      have hne : (pe != 0) = true := bne_iff_ne.2 hpe
      clear hcl hpe
      go_upto_region 5 with (refine wpList_load_at 39 (.tmp 10) rfl rfl (ad.add (nv * 3)) rfl [.int .i64 id, .int .i64 pe, .int .i64 se] HCl2.out _ Try.underlying39 rfl (by kernel_rfl) ?_)
      have HBw3 := (Blk.new wo 39 #[.int .i64 id, .int .i64 pe, .int .i64 se])
      have HLw3 := (below_new wo (.cells #[.int .i64 id, .int .i64 pe, .int .i64 se] 39))
      have hsw3 : (wo.alloc (.cells #[.int .i64 id, .int .i64 pe, .int .i64 se] 39)).heap.size = wo.heap.size + 1 := by simp
      generalize wo.alloc (.cells #[.int .i64 id, .int .i64 pe, .int .i64 se] 39) = w3 at HBw3 HLw3 hsw3 ⊢
      replace HBw3 := Lib.hid HBw3
      replace HLw3 := Lib.hid HLw3
      have hlw3 : wo.heap.size < w3.heap.size := by omega
      replace hsw3 := Lib.hid hsw3
      have HB3 : Hid (Below lo w w3) := hide (HB.out.trans (HLw3.out.mono hlo))
      have HX3 := HBw3
      have HO3 := Lib.hid (HO.out.below HLw3.out)
      have hlo3 : lo ≤ w3.heap.size := Nat.le_trans hlo HLw3.out.size
      clear HBw3 HLw3 hsw3 hlw3 HCl2
      have y0 : w3.cell? ⟨wo.heap.size, 0, none⟩ = some (.int .i64 id) := HX3.out.cell 0
      have y1 : w3.cell? ⟨wo.heap.size, 1, none⟩ = some (.int .i64 pe) := HX3.out.cell 1
      have y2 : w3.cell? ⟨wo.heap.size, 2, none⟩ = some (.int .i64 se) := HX3.out.cell 2
      go_wp2_with
        (first
         | (refine wpList_load_blk rfl 39 (.tmp 5) rfl wo.heap.size rfl _ _ HX3.out _ Try.underlying39 rfl (by kernel_rfl) ?_)
         | (at_builtin
            refine wpList_app_lit ei_sec rfl (.tmp 15) (.tmp 17) rfl lo (.slice Av nv cv) nv ((L.take nv).map Sec.cells).flatten rfl (HO3.out.row HLv.out) 1 rfl rfl (by simp [Value.oneCell']) (by simp only [maxLen]; omega) (by omega) hlo3 ?_
            intro v9 w9 hown9 hb9 hg9 hat9
            have HO9 : Hid (OwnS w9 lo v9 (L.take (nv + 1))) := hide (by rw [HSn.out]; exact OwnT.snoc hown9 (by rw [HLv.out]) rfl)
            have HB9 : Hid (Below lo w w9) := hide (HB3.out.trans (hb9.mono (by omega)))
            clear hown9 hb9 hg9 hat9))
      go_roundw
      case rel => exact ⟨nv + 1, by omega, by go_num, HO9.out, HB9.out⟩
      case measure => simp [intOf]; omega
    · obtain rfl : nv = n := by omega
      have HO2 : Hid (OwnS wo lo (.slice Av nv cv) L) := by
        have h := HO.out
        rw [List.take_of_length_le (by rw [HL.out]; exact Nat.le_refl _)] at h
        exact hide h
      go_wp2_with fail
      try go_ret
      exact HFin.out _ _ HO2.out HB.out

theorem own_ne_g {w : World} {base : Nat} {e : TypeId} {size m : Nat} {v : Value} {xs : List Value} (h : w.ownsRow base e size v m xs) {k : Nat} (hk : k < base) : v.ownBlock ≠ some k := by
  intro e
  have := (h.lt k e).1
  omega
theorem one_jb (a b c d : Int) : ∀ u ∈ ([.int .i64 a, .int .i64 b, .int .i64 c, .int .i64 d] : List Value), u.oneCell' = true := by simp [Value.oneCell']
def PlnR (n : Nat) (E : Int) (w : World) (e : Ending) (w' : World) : Prop := ∃ A c, e = .returned (.tuple #[.slice A n c, .int .i64 E, .int .i64 0]) ∧ Below w.heap.size w w'
set_option maxRecDepth 100000 in
set_option maxHeartbeats 8000000 in
theorem rplan_any (A : Option Addr) (n c tm : Nat) (L : List Sec) (w : World) (hr : Strs Sec.cells 3 w w.heap.size A n L) (hl : L.length = n) (hn : 0 < n ∧ n ≤ 8) (htm : 1 ≤ tm ∧ tm ≤ 3) (hp : ∀ i, i < n → (L.getD i sec0).pe ≠ 0)
    (hL : ∀ i, 0 ≤ (L.getD i sec0).se ∧ (L.getD i sec0).se ≤ 1000) (R : BS) (hR : tryB L tm n 0 (s0B n) = R) (hy : ∀ i, i < n → ∃ y : Nat, R.y.getD i 0 = (y : Int) ∧ y ≤ 3) :
    Calls Try.prog 10 #[.slice A n c, .int .i64 (tm : Int)] w (PlnR n R.e w) := by
  have HL := Lib.hid hl
  have HY := Lib.hid hy
  have HSe := Lib.hid hL
  have HH := Lib.hid (helpless_any A n c L w hr hl hn.2 hp)
  have HAs : Hid (∀ (A : Option Addr) (c : Nat) (W : World), Strs Sec.cells 3 W W.heap.size A n L → n ≤ c ∧ c ≤ maxLen → Calls Try.prog 18 #[.slice A n c, .int .i64 (tm : Int)] W (AsgR n R W)) := fun A c W h h2 => rassign_any A c n tm L W h hn htm.2 hl h2 hL R hR
  have HFin : Hid (∀ A c w', Below w.heap.size w w' → PlnR n R.e w (.returned (.tuple #[.slice A n c, .int .i64 R.e, .int .i64 0])) w') := fun A c w' h => ⟨A, c, rfl, h⟩
  generalize PlnR n R.e w = RR at *
  clear hr hl hp hL hR hy
  go_enter Try.func10, Try.ntmps10
  go_wp2_with fail
  with_reducible refine HH.out.mono ?_
  rintro e wa ⟨v, rfl, hO, hb⟩
  have HBa := Lib.hid hb
  obtain ⟨An, nn, cn, rfl, HLn, h1, h2, hS⟩ := hO.nam
  have hnn : nn = n := by rw [← HLn.out, HL.out]
  subst hnn
  have HSa := Lib.hid hS
  have HA1 := Lib.hid (HAs.out An cn wa hS ⟨h1, h2⟩)
  clear hO hb hS HLn
  go_wp2_with fail
  with_reducible refine HA1.out.mono ?_
  rintro e wb ⟨gb, rfl, hI, hbb⟩
  obtain ⟨gf, hgf⟩ : ∃ g, wb.heap.size = g := ⟨_, rfl⟩
  have HSb : Hid (Strs Sec.cells 3 wb gf An nn L) := hide (by rw [← hgf]; exact HSa.out.now hbb)
  have HIb : Hid (Ints wb gf (some ⟨gb, 0, none⟩) nn R.y) := hide (by rw [← hgf]; exact hI)
  have HBb : Hid (Below w.heap.size w wb) := hide (HBa.out.trans (hbb.mono HBa.out.size))
  have hwf : w.heap.size ≤ gf := by rw [← hgf]; exact HBb.out.size
  clear hI hbb HSa HBa HA1
  go_upto_region 7 with (fail)
  obtain ⟨w0, hw0⟩ : ∃ W, wb.alloc (Obj.cells #[Value.int .i64 0, Value.int .i64 0, Value.int .i64 0, Value.int .i64 0] 56) = W := ⟨_, rfl⟩
  rw [hw0]
  obtain ⟨hA, hs0, hb0⟩ := alloc_nm hgf hw0
  have HF0 : Hid (Blk w0 gf 56 (iv [0, 0, 0, 0])) := hA
  have HB0 : Hid (Below gf wb w0) := hide hb0
  clear hA hb0 hw0 hgf hs0
  go_wp2_with fail
  go_loopw [10, 32] (fun v i wr => ∃ (k : Nat) (xs : List Value) (fl : List Int), k ≤ nn ∧ i = .int .i64 k ∧ wr.ownsRow (gf + 1) 58 4 v k xs ∧ Blk wr gf 56 (iv fl) ∧ fl.length = 4 ∧ (∀ j, 0 ≤ fl.getD j 0 ∧ fl.getD j 0 ≤ 1000 * (k : Int)) ∧ Below gf wb wr) (fun _ i _ => nn - (intOf i).toNat)
  case atStart => exact ⟨0, [], [0, 0, 0, 0], by omega, rfl, World.ownsRow_nil _ _ _ _, HF0.out, rfl, (fun j => by rcases j with _ | _ | _ | _ | j <;> exact ⟨Int.le_refl _, Int.le_refl _⟩), HB0.out⟩
  case round =>
    obtain ⟨k, xs, fl, hk, rfl, hO, hF, hfl, hbd, hbr⟩ := hrel
    obtain ⟨wo, rfl⟩ : ∃ wo : World, wo = wr := ⟨_, rfl⟩
    have HB := Lib.hid hbr
    have HO := Lib.hid hO
    have HF := Lib.hid hF
    have HFl := Lib.hid hfl
    have HBd := Lib.hid hbd
    obtain ⟨Av, cv, rfl, hv1, hv2, _⟩ := own_open hO
    have hgl : gf < wo.heap.size := hF.lt
    clear hO hbr hF hfl hbd
    by_cases hlt : k < nn
    · obtain ⟨ad, rfl, hab, hcl⟩ := strs_at (HSb.out.keep (w' := wo) fun p hp => HB.out.cell hp) (fun _ => rfl) HL.out hlt sec0
      have hse := HSe.out k
      obtain ⟨adi, ei, hai, hci⟩ := HIb.out.int hlt
      cases ei
      obtain ⟨y, hy, hy3⟩ := HY.out k hlt
      rw [hy] at hci
      have cy0 : wo.cell? ⟨gb, k, none⟩ = some (.int .i64 (y : Int)) := (HB.out.cell (by exact hai)).trans (by have := hci; rwa [show (⟨gb, 0, none⟩ : Addr).add k = ⟨gb, k, none⟩ by unfold Addr.add; split <;> simp_all] at this)
      have hfy := HBd.out y
      have HFn : Hid (∀ j, 0 ≤ (fl.set y (fl.getD y 0 + (L.getD k sec0).se)).getD j 0 ∧ (fl.set y (fl.getD y 0 + (L.getD k sec0).se)).getD j 0 ≤ 1000 * ((k + 1 : Nat) : Int)) := by
        intro j
        have h1 := HBd.out j
        by_cases hj : y = j
        · subst hj
          have e : (fl.set y (fl.getD y 0 + (L.getD k sec0).se)).getD y 0 = fl.getD y 0 + (L.getD k sec0).se := by simp [show y < fl.length by rw [HFl.out]; omega]
          rw [e]
          omega
        · have e : (fl.set y (fl.getD y 0 + (L.getD k sec0).se)).getD j 0 = fl.getD j 0 := by simp [List.getElem?_set_ne hj]
          rw [e]
          omega
      have cf0 : wo.cell? ⟨gf, y, none⟩ = some (.int .i64 (fl.getD y 0)) := (HF.out.cell y).trans (iv_cell _ _ (by rw [HFl.out]; omega))
      have HFs : Hid (∀ W, Blk W gf 56 (iv fl) → Blk (W.setCell ⟨gf, y, none⟩ (.int .i64 (fl.getD y 0 + (L.getD k sec0).se))) gf 56 (iv (fl.set y (fl.getD y 0 + (L.getD k sec0).se)))) := fun W h => by
        have := h.set_ y (.int .i64 (fl.getD y 0 + (L.getD k sec0).se))
        rwa [iv_set] at this
      have HFl2 : Hid ((fl.set y (fl.getD y 0 + (L.getD k sec0).se)).length = 4) := hide (by rw [List.length_set, HFl.out])
      have HF2y : Hid ((fl.set y (fl.getD y 0 + (L.getD k sec0).se)).getD y 0 = fl.getD y 0 + (L.getD k sec0).se) := hide (by simp [show y < fl.length by rw [HFl.out]; omega])
      generalize fl.set y (fl.getD y 0 + (L.getD k sec0).se) = fl2 at *
      generalize fl.getD y 0 = f at *
      generalize L.getD k sec0 = q at *
      obtain ⟨id, pe, se⟩ := q
      have HCl2 : Hid (∀ i u, ([.int .i64 id, .int .i64 pe, .int .i64 se] : List Value)[i]? = some u → wo.cell? ((ad.add (k * 3)).add i) = some u) := hcl
      simp only at hse HFs HF2y
      have hw1 : IntKind.i64.wrap (f + se) = f + se := IntWalk.i64_in _ (by omega)
      have hy4 : (y : Int) < 4 := by omega
      have hkn : (k : Int) < (nn : Int) := by omega
      have hgb : gb < gf := hai
      clear hcl hci hai hab hy hfy hse
      go_upto_region 10 with (refine wpList_load_at 39 (.tmp 35) rfl rfl (ad.add (k * 3)) rfl [.int .i64 id, .int .i64 pe, .int .i64 se] HCl2.out _ Try.underlying39 rfl (by kernel_rfl) ?_)
      have HBw3 := (Blk.new wo 39 #[.int .i64 id, .int .i64 pe, .int .i64 se])
      have HLw3 := (below_new wo (.cells #[.int .i64 id, .int .i64 pe, .int .i64 se] 39))
      have hsw3 : (wo.alloc (.cells #[.int .i64 id, .int .i64 pe, .int .i64 se] 39)).heap.size = wo.heap.size + 1 := by simp
      generalize wo.alloc (.cells #[.int .i64 id, .int .i64 pe, .int .i64 se] 39) = w3 at HBw3 HLw3 hsw3 ⊢
      replace HBw3 := Lib.hid HBw3
      replace HLw3 := Lib.hid HLw3
      have hlw3 : wo.heap.size < w3.heap.size := by omega
      replace hsw3 := Lib.hid hsw3
      have HX3 := HBw3
      have hx3 := hlw3
      have HB3 : Hid (Below gf wb w3) := hide (HB.out.trans (HLw3.out.mono (Nat.le_of_lt hgl)))
      have HO3 := Lib.hid (own_below HO.out HLw3.out (Nat.le_refl _))
      have HF3 := Lib.hid (HF.out.below HLw3.out hgl)
      have cy : w3.cell? ⟨gb, k, none⟩ = some (.int .i64 (y : Int)) := (HLw3.out.cell (p := ⟨gb, k, none⟩) (by show gb < _; omega)).trans cy0
      have cf : w3.cell? ⟨gf, y, none⟩ = some (.int .i64 f) := (HLw3.out.cell (p := ⟨gf, y, none⟩) hgl).trans cf0
      clear HBw3 HLw3 hsw3 hlw3 HCl2 cy0 cf0 HF HO HB
      have y0 : w3.cell? ⟨wo.heap.size, 0, none⟩ = some (.int .i64 id) := HX3.out.cell 0
      have y1 : w3.cell? ⟨wo.heap.size, 1, none⟩ = some (.int .i64 pe) := HX3.out.cell 1
      have y2 : w3.cell? ⟨wo.heap.size, 2, none⟩ = some (.int .i64 se) := HX3.out.cell 2
      go_upto_region 12 with (fail)
      go_still_tail 7, (by kernel_rfl)
      change wpList _ _ _ _ _ w3.drew
      have HX4 := Lib.hid HX3.out.drew
      have HB4 : Hid (Below gf wb w3.drew) := hide HB3.out.drew
      have HO4 : Hid (w3.drew.ownsRow (gf + 1) 58 4 (.slice Av k cv) k xs) := hide (own_below HO3.out (Below.refl _ _).drew (Nat.le_refl _))
      have HF4 := Lib.hid HF3.out.drew
      have cf4 : w3.drew.cell? ⟨gf, y, none⟩ = some (.int .i64 f) := cf
      have ff4 : w3.drew.frozen? ⟨gf, y, none⟩ = false := HF4.out.frozen y
      have hx4 : wo.heap.size < w3.drew.heap.size := hx3
      clear y0 y1 y2 cf cy HX3 HB3 HO3 HF3 hx3
      generalize w3.drew = w4 at *
      have HF5 := Lib.hid (HFs.out w4 HF4.out)
      have HX5 : Hid (Blk (w4.setCell ⟨gf, y, none⟩ (.int .i64 (f + se))) wo.heap.size 39 #[.int .i64 id, .int .i64 pe, .int .i64 se]) := hide (HX4.out.far (p := ⟨gf, y, none⟩) (by show wo.heap.size ≠ gf; omega) _)
      have HB5 : Hid (Below gf wb (w4.setCell ⟨gf, y, none⟩ (.int .i64 (f + se)))) := hide (HB4.out.setCell (p := ⟨gf, y, none⟩) (Nat.le_refl _) _)
      have HO5 : Hid ((w4.setCell ⟨gf, y, none⟩ (.int .i64 (f + se))).ownsRow (gf + 1) 58 4 (.slice Av k cv) k xs) := hide (own_setCell HO4.out (p := ⟨gf, y, none⟩) (own_ne_g HO4.out (show gf < gf + 1 by omega)) _)
      have hx5 : wo.heap.size < (w4.setCell ⟨gf, y, none⟩ (.int .i64 (f + se))).heap.size := by simpa using hx4
      clear HFs
      go_upto_region 13 with (fail)
      clear cf4 ff4 hw1 HX4 HB4 HO4 HF4 hx4
      generalize w4.setCell ⟨gf, y, none⟩ (.int .i64 (f + se)) = w5 at *
      have hyl : y < fl2.length := by rw [HFl2.out]; omega
      have cfd : w5.cell? ⟨gf, y, none⟩ = some (.int .i64 (fl2.getD y 0)) := (HF5.out.cell y).trans (iv_cell _ _ hyl)
      have hF2 := HF2y.out
      rw [hF2] at cfd
      have h0 : w5.drew.cell? ⟨wo.heap.size, 0, none⟩ = some (.int .i64 id) ∧ w5.drew.cell? ⟨gf, y, none⟩ = some (.int .i64 (f + se)) := ⟨HX5.out.cell 0, cfd⟩
      clear hyl cfd hF2
      have HBd5 : Hid (Below w5.heap.size w5 w5.drew) := hide (Below.refl _ _).drew
      have hg5 : gf < w5.heap.size := HF5.out.lt
      refine wp_region_held_drew (S := fun W => W.cell? ⟨wo.heap.size, 0, none⟩ = some (.int .i64 id) ∧ W.cell? ⟨gf, y, none⟩ = some (.int .i64 (f + se))) (by kernel_rfl) (h0) (fun hHeld => ?_)
      refine held_run 0 (some 51) (.move (.tmp 10)) ?v13_1_2 (by rfl) (by kernel_rfl) (by kernel_rfl) (by kernel_rfl) (fun _ _ _ h => h) (fun o ho w hS => ?y13_1_2) (by assumption) ?r13_1_2
      case y13_1_2 => (try dsimp only at hS); unfold execOp; simp only [ho]; go_simp; try with_reducible rfl
      try simp only [Act.put, List.setIfInBounds_toArray, List.set_cons_zero, List.set_cons_succ]
      refine held_run 1 (some 52) (.move (.tmp 14)) ?v13_1_3 (by rfl) (by kernel_rfl) (by kernel_rfl) (by kernel_rfl) (fun _ _ _ h => h) (fun o ho w hS => ?y13_1_3) (by assumption) ?r13_1_3
      case y13_1_3 => (try dsimp only at hS); unfold execOp; simp only [ho]; go_simp; try with_reducible rfl
      try simp only [Act.put, List.setIfInBounds_toArray, List.set_cons_zero, List.set_cons_succ]
      refine held_run 2 (some 53) (.fieldAddr 39 (.tmp 13) 0) ?v13_1_4 (by rfl) (by kernel_rfl) (by kernel_rfl) (by kernel_rfl) (fun _ _ _ h => h) (fun o ho w hS => ?y13_1_4) (by assumption) ?r13_1_4
      case y13_1_4 => (try dsimp only at hS); unfold execOp; simp only [ho]; go_simp; try with_reducible rfl
      try simp only [Act.put, List.setIfInBounds_toArray, List.set_cons_zero, List.set_cons_succ]
      refine held_run 3 (some 54) (.load 3 (.tmp 53)) ?v13_1_5 (by rfl) (by kernel_rfl) (by kernel_rfl) (by kernel_rfl) (fun _ _ _ h => h) (fun o ho w hS => ?y13_1_5) (by assumption) ?r13_1_5
      case y13_1_5 => (try dsimp only at hS); unfold execOp; simp only [ho]; go_simp; try with_reducible rfl
      try simp only [Act.put, List.setIfInBounds_toArray, List.set_cons_zero, List.set_cons_succ]
      refine held_run 4 (some 55) (.move (.tmp 15)) ?v13_1_6 (by rfl) (by kernel_rfl) (by kernel_rfl) (by kernel_rfl) (fun _ _ _ h => h) (fun o ho w hS => ?y13_1_6) (by assumption) ?r13_1_6
      case y13_1_6 => (try dsimp only at hS); unfold execOp; simp only [ho]; go_simp; try with_reducible rfl
      try simp only [Act.put, List.setIfInBounds_toArray, List.set_cons_zero, List.set_cons_succ]
      refine held_run 5 (some 56) (.move (.tmp 14)) ?v13_1_7 (by rfl) (by kernel_rfl) (by kernel_rfl) (by kernel_rfl) (fun _ _ _ h => h) (fun o ho w hS => ?y13_1_7) (by assumption) ?r13_1_7
      case y13_1_7 => (try dsimp only at hS); unfold execOp; simp only [ho]; go_simp; try with_reducible rfl
      try simp only [Act.put, List.setIfInBounds_toArray, List.set_cons_zero, List.set_cons_succ]
      refine held_run 6 (some 57) (.indexAddr 56 (.tmp 11) (.tmp 56)) ?v13_1_8 (by rfl) (by kernel_rfl) (by kernel_rfl) (by kernel_rfl) (fun _ _ _ h => h) (fun o ho w hS => ?y13_1_8) (by assumption) ?r13_1_8
      case y13_1_8 => (try dsimp only at hS); unfold execOp; simp only [ho]; go_simp; try with_reducible rfl
      try simp only [Act.put, List.setIfInBounds_toArray, List.set_cons_zero, List.set_cons_succ]
      refine held_run 7 (some 58) (.load 3 (.tmp 57)) ?v13_1_9 (by rfl) (by kernel_rfl) (by kernel_rfl) (by kernel_rfl) (fun _ _ _ h => h) (fun o ho w hS => ?y13_1_9) (by assumption) ?r13_1_9
      case y13_1_9 => (try dsimp only at hS); unfold execOp; simp only [ho]; go_simp; try with_reducible rfl
      try simp only [Act.put, List.setIfInBounds_toArray, List.set_cons_zero, List.set_cons_succ]
      refine held_run 8 (some 59) (.build 58 #[(0, (.tmp 52)), (1, (.tmp 54)), (2, (.tmp 55)), (3, (.tmp 58))]) ?v13_1_10 (by rfl) (by kernel_rfl) (by kernel_rfl) (by kernel_rfl) (fun _ _ _ h => h) (fun o ho w hS => ?y13_1_10) (by assumption) ?r13_1_10
      case y13_1_10 => (try dsimp only at hS); unfold execOp; simp only [ho]; go_simp; try with_reducible rfl
      try simp only [Act.put, List.setIfInBounds_toArray, List.set_cons_zero, List.set_cons_succ]
      refine held_one 9 (by kernel_rfl) ?_
      refine op_lit 9 (some 60) 35 58 1 #[(0, .tmp 59)] #[.int .i64 (y : Int), .int .i64 id, .int .i64 f, .int .i64 (f + se)] (by rfl) (by simp only [List.map_toArray, List.map_cons, List.map_nil]; exact run_lit1 (P := Try.prog) w5.drew 35 58 _ _ _ _ Try.underlying35 (by kernel_rfl)) ?_
      intro w6 hx hb _
      have HL6 := Lib.hid hx
      have HB6 : Hid (Below w5.heap.size w5 w6) := hide (HBd5.out.trans hb)
      have HO6 := Lib.hid (own_below HO5.out HB6.out (Nat.le_refl _))
      have HF6 := Lib.hid (HF5.out.below HB6.out hg5)
      clear hx hb
      have h6 : w6.cell? ⟨wo.heap.size, 0, none⟩ = some (.int .i64 id) ∧ w6.cell? ⟨gf, y, none⟩ = some (.int .i64 (f + se)) := ⟨(HB6.out.cell (p := ⟨wo.heap.size, 0, none⟩) hx5).trans h0.1, (HB6.out.cell (p := ⟨gf, y, none⟩) hg5).trans h0.2⟩
      refine ⟨h6, ?_⟩
      try simp only [Act.put, List.setIfInBounds_toArray, List.set_cons_zero, List.set_cons_succ]
      refine held_one 10 (by kernel_rfl) ?_
      refine op_app ei_job 10 (some 61) (.tmp 51) (.tmp 60) (by rfl) (gf + 1) _ k xs rfl (HO6.out) w6.heap.size (some ⟨w5.drew.heap.size, 0, none⟩) 1 1 [.int .i64 (y : Int), .int .i64 id, .int .i64 f, .int .i64 (f + se)] rfl (reads_blk HL6.out rfl) (one_jb _ _ _ _) (by simp only [maxLen]; omega) (by omega) (HF6.out.lt) ?_
      intro v7 w7 hown hg7 hb _
      have HO7 := Lib.hid hown
      have HF7 := Lib.hid (HF6.out.grown hg7 (Ne.symm (own_ne_g HO6.out (show gf < gf + 1 by omega))))
      have HX6 := Lib.hid (HX5.out.below HB6.out hx5)
      have HB7 : Hid (Below gf wb w7) := hide ((HB5.out.trans (HB6.out.mono (Nat.le_of_lt hg5))).trans (hb.mono (by omega)))
      have h7 : w7.cell? ⟨wo.heap.size, 0, none⟩ = some (.int .i64 id) ∧ w7.cell? ⟨gf, y, none⟩ = some (.int .i64 (f + se)) := ⟨(HX6.out.grown hg7 (Ne.symm (row_blk HO6.out HX6.out (by decide)))).cell 0, by
        rw [HF7.out.cell y, ← HF6.out.cell y]
        exact h6.2⟩
      clear hown hg7 hb
      refine ⟨h7, ?_⟩
      try simp only [Act.put, List.setIfInBounds_toArray, List.set_cons_zero, List.set_cons_succ]
      refine held_run 11 (some 10) (.assign (.tmp 61)) ?v13_1_13 (by rfl) (by kernel_rfl) (by kernel_rfl) (by kernel_rfl) (fun _ _ _ h => h) (fun o ho w hS => ?y13_1_13) (by assumption) ?r13_1_13
      case y13_1_13 => (try dsimp only at hS); unfold execOp; simp only [ho]; go_simp; try with_reducible rfl
      try simp only [Act.put, List.setIfInBounds_toArray, List.set_cons_zero, List.set_cons_succ]
      refine wpAnyH_done (by kernel_rfl) ?_ _
      go_wp2_with fail
      go_roundw
      case rel => exact ⟨k + 1, _, fl2, by omega, by go_num, HO7.out, HF7.out, HFl2.out, HFn.out, HB7.out⟩
      case measure => simp [intOf]; omega
    · obtain rfl : k = nn := by omega
      have HBw : Hid (Below w.heap.size w wo) := hide (HBb.out.trans (HB.out.mono hwf))
      go_wp2_with fail
      try go_ret3
      exact HFin.out _ _ _ HBw.out
end Go.Proofs.Ytbegehooefhiiaa
