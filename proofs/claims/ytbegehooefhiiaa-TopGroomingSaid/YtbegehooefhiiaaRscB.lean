/-
  The search of Plan of chapter 21, walked: the loop over the teams.
-/
import Derived.Test.YtbegehooefhiiaaRscA
namespace Go.Proofs.Ytbegehooefhiiaa
open Go.RowKit

theorem loopB_step (L : List Sec) (f : BS → BS) (i k : Nat) (s : BS) (h : 1 ≤ k) : loopB L f i k s = unpB L i k (f (putB L i k (loopB L f i (k - 1) s))) := by
  obtain ⟨j, rfl⟩ : ∃ j, k = j + 1 := ⟨k - 1, by omega⟩
  rfl
set_option maxRecDepth 100000 in
set_option maxHeartbeats 4000000 in
theorem rtry_any (g : Nat) (A : Option Addr) (c n tm : Nat) (L : List Sec) (hn : 0 < n ∧ n ≤ 8) (htm : tm ≤ 3) (hlen : L.length = n) (hnc : n ≤ c ∧ c ≤ maxLen) (hL : ∀ i, 0 ≤ (L.getD i sec0).se ∧ (L.getD i sec0).se ≤ 1000) :
    ∀ (k i : Nat) (s : BS) (w : World), i + k = n → RSt w g A c n tm L s → LnB n s → BdB i s → ∀ R, tryB L tm k i s = R → Calls Try.prog 27 #[.int .i64 (i : Int), .pointer (some ⟨g, 0, none⟩), .pointer (some ⟨g + 7, 0, none⟩), .pointer (some ⟨g + 6, 0, none⟩), .pointer (some ⟨g + 5, 0, none⟩), .pointer (some ⟨g + 3, 0, none⟩), .pointer (some ⟨g + 1, 0, none⟩), .pointer (some ⟨g + 8, 0, none⟩)] w (RTry g A c n tm L R w) := by
  intro k
  induction k with
  | zero =>
    intro i s w hi h hs _ R hR
    obtain rfl : i = n := by omega
    exact rtry_leaf g A c i tm L s w h hs hn R hR
  | succ k ih =>
    intro i s w hi h hs hb R hR
    have hin : i < n := by omega
    have IH : Hid (∀ (s : BS) (W : World), RSt W g A c n tm L s → LnB n s → BdB (i + 1) s → Calls Try.prog 27 #[.int .i64 ((i : Int) + 1), .pointer (some ⟨g, 0, none⟩), .pointer (some ⟨g + 7, 0, none⟩), .pointer (some ⟨g + 6, 0, none⟩), .pointer (some ⟨g + 5, 0, none⟩), .pointer (some ⟨g + 3, 0, none⟩), .pointer (some ⟨g + 1, 0, none⟩), .pointer (some ⟨g + 8, 0, none⟩)] W (RTry g A c n tm L (tryB L tm k (i + 1) s) W)) := fun s W h1 h2 h3 => by
      have := ih (i + 1) s W (by omega) h1 h2 h3 _ rfl
      simpa using this
    have HFb := Lib.hid (tryB_b L tm k (i + 1))
    have HFl : Hid (∀ s, LnB n s → LnB n (tryB L tm k (i + 1) s)) := tryB_ln L tm k (i + 1)
    have hR' : loopB L (tryB L tm k (i + 1)) i tm s = R := hR
    generalize tryB L tm k (i + 1) = f at *
    have HLb : Hid (∀ t, (loopB L f i t s).b = s.b) := fun t => loopB_b L f HFb.out i t s
    have HLl : Hid (∀ t, LnB n (loopB L f i t s)) := fun t => loopB_ln L f HFl.out i t s hs
    have HLs : Hid (∀ t, 1 ≤ t → loopB L f i t s = unpB L i t (f (putB L i t (loopB L f i (t - 1) s)))) := fun t => loopB_step L f i t s
    have HBd := Lib.hid hb
    have HSe := Lib.hid (hL i)
    have HPu : Hid (∀ t s, BdB i s → BdB (i + 1) (putB L i t s)) := fun t s h => h.put L t HSe.out
    have HLen := Lib.hid hlen
    have HD := Lib.hid h
    have HR := Lib.hid hR'
    have cn : w.cell? ⟨g, 0, none⟩ = some (.slice A n c) := h.need.cell 0
    have hsz := h.size
    have hbeq : ((i : Int) == (n : Int)) = false := beq_eq_false_iff_ne.2 (by omega)
    have HFin : Hid (∀ w', Below g w w' → RSt w' g A c n tm L R → RTry g A c n tm L R w (.returned (.tuple #[])) w') := fun w' h1 h2 => ⟨rfl, h1, h2⟩
    generalize RTry g A c n tm L R w = RR at *
    clear ih hR hR' hb h hs hL hlen
    go_enter Try.func27, Try.ntmps27
    go_wp2_with fail
    go_loopw [10] (fun t wr => ∃ k : Nat, 1 ≤ k ∧ k ≤ tm + 1 ∧ t = .int .i64 k ∧ RSt wr g A c n tm L (loopB L f i (k - 1) s) ∧ Below g w wr) (fun t _ => tm + 1 - (intOf t).toNat)
    case atStart => exact ⟨1, by omega, by omega, rfl, HD.out, Below.refl _ _⟩
    case round =>
      obtain ⟨k, hk1, hk, rfl, hD, hbr⟩ := hrel
      obtain ⟨wo, rfl⟩ : ∃ wo : World, wo = wr := ⟨_, rfl⟩
      have ct : wo.cell? ⟨g + 1, 0, none⟩ = some (.int .i64 (tm : Int)) := hD.team.cell 0
      have HBr := Lib.hid hbr
      clear hbr
      by_cases hlt : k ≤ tm
      · have HS := Lib.hid (HLs.out k hk1)
        have HB1 : Hid (BdB i (loopB L f i (k - 1) s)) := HBd.out.same (HLb.out _)
        have HL1 := Lib.hid (HLl.out (k - 1))
        generalize loopB L f i (k - 1) s = s1 at *
        have HX : Hid (RSt (wo.setCell ⟨g + 2, i, none⟩ (.int .i64 (k : Int))) g A c n tm L ⟨s1.e, s1.b, s1.x.set i k, s1.y⟩) := hD.setX i k
        have cx : wo.cell? ⟨g + 3, 0, none⟩ = some (.slice (some ⟨g + 2, 0, none⟩) n n) := hD.nowp.cell 0
        have cxi : wo.cell? ⟨g + 2, i, none⟩ = some (.int .i64 (s1.x.getD i 0)) := (hD.nowr.cell i).trans (iv_cell _ _ (by rw [HL1.out.x]; exact hin))
        have fxi : wo.frozen? ⟨g + 2, i, none⟩ = false := hD.nowr.frozen i
        have HBx : Hid (Below g w (wo.setCell ⟨g + 2, i, none⟩ (.int .i64 (k : Int)))) := HBr.out.setCell (p := ⟨g + 2, i, none⟩) (by show g ≤ g + 2; omega) _
        clear hD
        go_upto_region 9 with (fail)
        generalize wo.setCell ⟨g + 2, i, none⟩ (.int .i64 (k : Int)) = w1 at *
        have hz1 := HX.out.size
        have hk4 : (k : Int) < 4 := by omega
        have hik : (i : Int) < (n : Int) := by omega
        have cb1 : w1.cell? ⟨g + 7, k, none⟩ = some (.int .i64 (s1.b.getD k 0)) := (HX.out.busy.cell k).trans (iv_cell _ _ (by show k < s1.b.length; rw [HL1.out.b]; omega))
        have fb1 : w1.frozen? ⟨g + 7, k, none⟩ = false := HX.out.busy.frozen k
        have cn1 : w1.cell? ⟨g, 0, none⟩ = some (.slice A n c) := HX.out.need.cell 0
        obtain ⟨ad, rfl, hab, hcl⟩ := strs_at HX.out.sec (fun _ => rfl) HLen.out hin sec0
        have cs1 : w1.cell? ⟨(ad.add (i * 3)).block, (ad.add (i * 3)).off + 2, none⟩ = some (.int .i64 (L.getD i sec0).se) := hcl 2 _ rfl
        have hb1 := HB1.out k
        have hse := HSe.out
        have HPb : Hid ((putB L i k s1).b.getD k 0 = s1.b.getD k 0 + (L.getD i sec0).se) := hide (by
          have hk4' : k < s1.b.length := by rw [HL1.out.b]; omega
          simp [putB, hk4'])
        have HP2 : Hid (∀ W, RSt W g (some ad) c n tm L ⟨s1.e, s1.b, s1.x.set i k, s1.y⟩ → RSt (W.setCell ⟨g + 7, k, none⟩ (.int .i64 (s1.b.getD k 0 + (L.getD i sec0).se))) g (some ad) c n tm L (putB L i k s1)) := fun W h => h.setB k _
        have HPl := Lib.hid (HL1.out.put L i k)
        have HPd := Lib.hid (HPu.out k s1 HB1.out)
        have HPf : Hid ((f (putB L i k s1)).b = (putB L i k s1).b) := HFb.out _
        have HPfl : Hid (LnB n (f (putB L i k s1))) := HFl.out _ HPl.out
        have HQb : Hid ((f (putB L i k s1)).b.getD k 0 = s1.b.getD k 0 + (L.getD i sec0).se) := hide (by rw [HPf.out, HPb.out])
        have HI2 : Hid (∀ W, RSt W g (some ad) c n tm L (putB L i k s1) → Calls Try.prog 27 #[.int .i64 ((i : Int) + 1), .pointer (some ⟨g, 0, none⟩), .pointer (some ⟨g + 7, 0, none⟩), .pointer (some ⟨g + 6, 0, none⟩), .pointer (some ⟨g + 5, 0, none⟩), .pointer (some ⟨g + 3, 0, none⟩), .pointer (some ⟨g + 1, 0, none⟩), .pointer (some ⟨g + 8, 0, none⟩)] W (RTry g (some ad) c n tm L (f (putB L i k s1)) W)) := fun W h => IH.out _ W h HPl.out HPd.out
        have HB2 : Hid (∀ W, Below g w W → Below g w (W.setCell ⟨g + 7, k, none⟩ (.int .i64 (s1.b.getD k 0 + (L.getD i sec0).se)))) := fun W h => h.setCell (p := ⟨g + 7, k, none⟩) (by show g ≤ g + 7; omega) _
        have HUp : Hid (∀ W, RSt W g (some ad) c n tm L (f (putB L i k s1)) → RSt (W.setCell ⟨g + 7, k, none⟩ (.int .i64 (s1.b.getD k 0 + (L.getD i sec0).se - (L.getD i sec0).se))) g (some ad) c n tm L (unpB L i k (f (putB L i k s1)))) := hide (fun W h => by
          have h1 := h.setB k (s1.b.getD k 0 + (L.getD i sec0).se - (L.getD i sec0).se)
          unfold unpB
          rw [HPf.out, HPb.out]
          rw [HPf.out] at h1
          exact h1)
        generalize unpB L i k (f (putB L i k s1)) = s4 at *
        generalize f (putB L i k s1) = s3 at *
        generalize putB L i k s1 = s2 at *
        generalize s1.b.getD k 0 = bt at *
        obtain ⟨q, hq⟩ : ∃ q, (L.getD i sec0).se = q := ⟨_, rfl⟩
        have HQ := Lib.hid hq
        rw [hq] at hse HSe HP2 HB2 HUp HQb cs1
        clear hq HPu HPb
        have hw1 : IntKind.i64.wrap (bt + q) = bt + q := IntWalk.i64_in _ (by omega)
        clear hcl
        have HAd := Lib.hid hab
        clear hab
        go_still_tail 10, (by kernel_rfl)
        change wpList _ _ _ _ _ w1.drew
        have HXd : Hid (RSt w1.drew g (some ad) c n tm L ⟨s1.e, s1.b, s1.x.set i k, s1.y⟩) := hide (HX.out.below (Below.refl _ _).drew)
        have HBd1 : Hid (Below g w w1.drew) := hide (HBx.out.drew)
        have cb2 : w1.drew.cell? ⟨g + 7, k, none⟩ = some (.int .i64 bt) := cb1
        have fb2 : w1.drew.frozen? ⟨g + 7, k, none⟩ = false := fb1
        clear cb1 fb1 cn1 cs1 HX HBx hz1
        generalize w1.drew = w2 at *
        have HP3 := Lib.hid (HP2.out w2 HXd.out)
        have HB3 := Lib.hid (HB2.out w2 HBd1.out)
        clear HP2 HB2
        go_upto_region 10 with (fail)
        generalize w2.setCell ⟨g + 7, k, none⟩ (.int .i64 (bt + q)) = w3 at *
        have ct3 : w3.cell? ⟨g + 8, 0, none⟩ = some (vfR g) := HP3.out.fn.cell 0
        unfold vfR at ct3
        have HI3 := Lib.hid (HI2.out w3 HP3.out)
        clear hw1 cb2 fb2
        go_wp2_with fail
        with_reducible refine HI3.out.mono ?_
        rintro e w4 ⟨rfl, hb4, hD4⟩
        have HB4 : Hid (Below g w w4) := hide (HB3.out.trans hb4)
        have cb1 : w4.cell? ⟨g + 7, k, none⟩ = some (.int .i64 (bt + q)) := (hD4.busy.cell k).trans (by rw [← HQb.out]; exact iv_cell _ _ (by rw [HPfl.out.b]; omega))
        have fb1 : w4.frozen? ⟨g + 7, k, none⟩ = false := hD4.busy.frozen k
        have cn1 : w4.cell? ⟨g, 0, none⟩ = some (.slice (some ad) n c) := hD4.need.cell 0
        obtain ⟨ad', e', hab, hcl⟩ := strs_at hD4.sec (fun _ => rfl) HLen.out hin sec0
        cases e'
        have cs1 : w4.cell? ⟨(ad.add (i * 3)).block, (ad.add (i * 3)).off + 2, none⟩ = some (.int .i64 q) := by
          have := hcl 2 _ rfl
          rw [HQ.out] at this
          exact this
        have hw1 : IntKind.i64.wrap (bt + q - q) = bt + q - q := IntWalk.i64_in _ (by omega)
        have HD4 := Lib.hid hD4
        clear hcl hab hb4 hD4
        go_upto_region 11 with (fail)
        go_still_tail 10, (by kernel_rfl)
        change wpList _ _ _ _ _ w4.drew
        have HXd : Hid (RSt w4.drew g (some ad) c n tm L s3) := hide (HD4.out.below (Below.refl _ _).drew)
        have HBd1 : Hid (Below g w w4.drew) := hide (HB4.out.drew)
        have cb2 : w4.drew.cell? ⟨g + 7, k, none⟩ = some (.int .i64 (bt + q)) := cb1
        have fb2 : w4.drew.frozen? ⟨g + 7, k, none⟩ = false := fb1
        clear cb1 fb1 cn1 cs1 HD4 HB4
        generalize w4.drew = w5 at *
        have HP5 := Lib.hid (HUp.out w5 HXd.out)
        have HB5 : Hid (Below g w (w5.setCell ⟨g + 7, k, none⟩ (.int .i64 (bt + q - q)))) := hide (HBd1.out.setCell (p := ⟨g + 7, k, none⟩) (by show g ≤ g + 7; omega) _)
        have hqq : bt + q - q = bt := by omega
        rw [hqq] at HP5 HB5
        clear hqq
        go_wp2_with fail
        go_roundw
        case rel => exact ⟨k + 1, by omega, by omega, by go_num, by rw [show k + 1 - 1 = k from rfl, HS.out]; exact HP5.out, HB5.out⟩
        case measure => simp [intOf]; omega
      · obtain rfl : k = tm + 1 := by omega
        have HD2 : Hid (RSt wo g A c n tm L R) := by rw [← HR.out]; exact hide hD
        clear hD
        go_wp2_with fail
        refine bodyPost_ret (results_none rfl _ _ _) rfl ?_
        exact HFin.out _ HBr.out HD2.out
end Go.Proofs.Ytbegehooefhiiaa
