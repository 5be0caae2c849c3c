/-
  put, Reach, turned and Back of the reference of graph, down and Home of that of ways, walked.
-/
import Derived.Test.YtihmboibpjfohaaFlrZ
import Derived.Test.YtihmboibpjfohaaWayN
namespace Go.Proofs.Ytihmboibpjfohaa
open Go.RowKit

def PutR (l : List Int) (w : World) (e : Ending) (w' : World) : Prop := ∃ v : Value, e = .returned v ∧ OwnI w' w.heap.size v l ∧ Below w.heap.size w w'
set_option maxRecDepth 100000 in
set_option maxHeartbeats 4000000 in
theorem put_any (A : Option Addr) (n c : Nat) (l : List Int) (x : Int) (w : World) (hr : Ints w w.heap.size A n l) (hn : n ≤ 10000) :
    Calls Try.prog 64 #[.slice A n c, .int .i64 x] w (PutR (putN l x) w) := by
  have HR := Lib.hid hr
  have HL := Lib.hid hr.ilen
  have HFin : Hid (∀ (v : Value) (w' : World) (m : List Int), OwnI w' w.heap.size v m → Below w.heap.size w w' → m = putN l x → PutR (putN l x) w (.returned v) w') := fun v w' m h1 h2 h3 => ⟨v, rfl, h3 ▸ h1, h2⟩
  generalize PutR (putN l x) w = RR at *
  obtain ⟨L, hL⟩ : ∃ m, putN l x = m := ⟨_, rfl⟩
  have H0 : Hid (putD false (l.drop 0) x = L) := hide hL
  rw [hL] at HFin
  clear hr hL
  go_enter Try.func64, Try.ntmps64
  go_wp2_with fail
  go_loopw [5, 6, 7] (fun v d i wr => ∃ (k : Nat) (acc : List Int) (dn : Bool), k ≤ n ∧ i = .int .i64 k ∧ d = .bool dn ∧ OwnI wr w.heap.size v acc ∧ Hid (acc ++ putD dn (l.drop k) x = L) ∧ acc.length ≤ 2 * k ∧ Below w.heap.size w wr) (fun _ _ i _ => n - (intOf i).toNat)
  case atStart => exact ⟨0, [], false, by omega, rfl, rfl, OwnI.nil _ _, hide H0.out, by simp, Below.refl _ _⟩
  case round =>
    obtain ⟨k, acc, dn, hk, rfl, rfl, hO, HA, hal, hbr⟩ := hrel
    obtain ⟨wo, rfl⟩ : ∃ wo : World, wo = wr := ⟨_, rfl⟩
    obtain ⟨Av, nv, cv, rfl, HLv, hv1, hv2, _⟩ := hO.nam
    rw [HLv.out] at hal
    have HO := Lib.hid hO
    have HB := Lib.hid hbr
    have hszo : w.heap.size ≤ wo.heap.size := hbr.size
    clear hO hbr
    by_cases hlt : k < n
    · obtain ⟨ad, rfl, hab, hc⟩ := HR.out.int hlt
      have HN := Lib.hid (HA.out.symm.trans (congrArg (acc ++ ·) (putD_at (by rw [HL.out]; exact hlt) dn x))).symm
      generalize l.getD k 0 = y at *
      have HCy : Hid (∀ W : World, Below w.heap.size w W → W.cell? (ad.add k) = some (.int .i64 y)) := fun W hW => (hW.cell (by rw [block_of_add]; exact hab)).trans hc
      have cy := HCy.out wo HB.out
      clear hc HA
      cases dn with
      | true =>
        have HE : Hid ((acc ++ [y]) ++ putD true (l.drop (k + 1)) x = L) := hide (by have h := HN.out; simpa using h)
        clear HN
        go_wp2_with (first
          | (at_builtin
             refine wpList_app_lit ei_ints rfl (.tmp 34) (.tmp 39) rfl w.heap.size (.slice Av nv cv) nv (acc.map (Value.int .i64)) rfl (HO.out.row HLv.out) 1 rfl rfl (by simp [Value.oneCell']) (by simp only [maxLen]; omega) (by omega) hszo ?_
             intro v3 w3 hown3 hbx3 _ _
             have HO3 : Hid (OwnI w3 w.heap.size v3 (acc ++ [y])) := hide (OwnI.push (w := wo) hown3 HLv.out)
             have HB3 := Lib.hid (HB.out.trans hbx3)
             clear hown3 hbx3))
        go_roundw
        case rel => exact ⟨k + 1, _, true, by omega, by go_num, rfl, HO3.out, hide HE.out, by simp [HLv.out]; omega, HB3.out⟩
        case measure => simp [intOf]; omega
      | false =>
        by_cases h1 : x ≤ y
        · have d1 : decide (y ≥ x) = true := decide_eq_true h1
          by_cases h2 : x < y
          · have d2 : decide (y > x) = true := decide_eq_true h2
            have HE : Hid (((acc ++ [x]) ++ [y]) ++ putD true (l.drop (k + 1)) x = L) := hide (by have h := HN.out; rw [if_neg (by decide), if_pos h1, if_pos h2, decide_eq_true h1] at h; simpa using h)
            clear HN h1 h2
            go_upto_region 9 with (first
              | (at_builtin
                 refine wpList_app_lit ei_ints rfl (.tmp 30) (.tmp 32) rfl w.heap.size (.slice Av nv cv) nv (acc.map (Value.int .i64)) rfl (HO.out.row HLv.out) 1 rfl rfl (by simp [Value.oneCell']) (by simp only [maxLen]; omega) (by omega) hszo ?_
                 intro v3 w3 hown3 hbx3 _ _
                 have HO3 : Hid (OwnI w3 w.heap.size v3 (acc ++ [x])) := hide (OwnI.push (w := wo) hown3 HLv.out)
                 have HB3 := Lib.hid (HB.out.trans hbx3)
                 clear hown3 hbx3))
            have hsz3 : w.heap.size ≤ w3.heap.size := HB3.out.size
            have HL3 : Hid ((acc ++ [x]).length = nv + 1) := hide (by simp [HLv.out])
            obtain ⟨A3, n3, c3, rfl, HN3, hv31, hv32, _⟩ := HO3.out.nam
            have hn3 : n3 = nv + 1 := by rw [← HN3.out, HL3.out]
            subst hn3
            have cy3 := HCy.out w3 HB3.out
            go_wp2_with (first
              | (at_builtin
                 refine wpList_app_lit ei_ints rfl (.tmp 34) (.tmp 39) rfl w.heap.size (.slice A3 (nv + 1) c3) (nv + 1) ((acc ++ [x]).map (Value.int .i64)) rfl (HO3.out.row HL3.out) 1 rfl rfl (by simp [Value.oneCell']) (by simp only [maxLen]; omega) (by omega) hsz3 ?_
                 intro v4 w4 hown4 hbx4 _ _
                 have HO4 : Hid (OwnI w4 w.heap.size v4 ((acc ++ [x]) ++ [y])) := hide (OwnI.push (w := w3) hown4 HL3.out)
                 have HB4 := Lib.hid (HB3.out.trans hbx4)
                 clear hown4 hbx4))
            go_roundw
            case rel => exact ⟨k + 1, _, true, by omega, by go_num, rfl, HO4.out, hide HE.out, by simp [HLv.out]; omega, HB4.out⟩
            case measure => simp [intOf]; omega
          · have d2 : decide (y > x) = false := decide_eq_false h2
            have HE : Hid ((acc ++ [y]) ++ putD true (l.drop (k + 1)) x = L) := hide (by have h := HN.out; rw [if_neg (by decide), if_pos h1, if_neg h2, decide_eq_true h1] at h; simpa using h)
            clear HN h1 h2
            go_wp2_with (first
              | (at_builtin
                 refine wpList_app_lit ei_ints rfl (.tmp 34) (.tmp 39) rfl w.heap.size (.slice Av nv cv) nv (acc.map (Value.int .i64)) rfl (HO.out.row HLv.out) 1 rfl rfl (by simp [Value.oneCell']) (by simp only [maxLen]; omega) (by omega) hszo ?_
                 intro v3 w3 hown3 hbx3 _ _
                 have HO3 : Hid (OwnI w3 w.heap.size v3 (acc ++ [y])) := hide (OwnI.push (w := wo) hown3 HLv.out)
                 have HB3 := Lib.hid (HB.out.trans hbx3)
                 clear hown3 hbx3))
            go_roundw
            case rel => exact ⟨k + 1, _, true, by omega, by go_num, rfl, HO3.out, hide HE.out, by simp [HLv.out]; omega, HB3.out⟩
            case measure => simp [intOf]; omega
        · have d1 : decide (y ≥ x) = false := decide_eq_false h1
          have HE : Hid ((acc ++ [y]) ++ putD false (l.drop (k + 1)) x = L) := hide (by have h := HN.out; rw [if_neg (by decide), if_neg h1, decide_eq_false h1] at h; simpa using h)
          clear HN h1
          go_wp2_with (first
            | (at_builtin
               refine wpList_app_lit ei_ints rfl (.tmp 34) (.tmp 39) rfl w.heap.size (.slice Av nv cv) nv (acc.map (Value.int .i64)) rfl (HO.out.row HLv.out) 1 rfl rfl (by simp [Value.oneCell']) (by simp only [maxLen]; omega) (by omega) hszo ?_
               intro v3 w3 hown3 hbx3 _ _
               have HO3 : Hid (OwnI w3 w.heap.size v3 (acc ++ [y])) := hide (OwnI.push (w := wo) hown3 HLv.out)
               have HB3 := Lib.hid (HB.out.trans hbx3)
               clear hown3 hbx3))
          go_roundw
          case rel => exact ⟨k + 1, _, false, by omega, by go_num, rfl, HO3.out, hide HE.out, by simp [HLv.out]; omega, HB3.out⟩
          case measure => simp [intOf]; omega
    · obtain rfl : k = n := by omega
      have HE : Hid (acc ++ putD dn [] x = L) := hide (by have h := HA.out; rw [List.drop_of_length_le (by rw [HL.out]; exact Nat.le_refl _)] at h; exact h)
      cases dn with
      | true =>
        have HF : Hid (acc = L) := hide (by have h := HE.out; simpa [putD] using h)
        go_wp2_with fail
        try go_ret
        exact HFin.out _ _ _ HO.out HB.out HF.out
      | false =>
        have HF : Hid (acc ++ [x] = L) := hide (by have h := HE.out; simpa [putD, putN] using h)
        go_wp2_with (first
          | (at_builtin
             refine wpList_app_lit ei_ints rfl (.tmp 43) (.tmp 45) rfl w.heap.size (.slice Av nv cv) nv (acc.map (Value.int .i64)) rfl (HO.out.row HLv.out) 1 rfl rfl (by simp [Value.oneCell']) (by simp only [maxLen]; omega) (by omega) hszo ?_
             intro v3 w3 hown3 hbx3 _ _
             have HO3 : Hid (OwnI w3 w.heap.size v3 (acc ++ [x])) := hide (OwnI.push (w := wo) hown3 HLv.out)
             have HB3 := Lib.hid (HB.out.trans hbx3)
             clear hown3 hbx3))
        try go_ret
        exact HFin.out _ _ _ HO3.out HB3.out HF.out

def ReachR (es : List Ed) (fs : List Int) (w : World) (e : Ending) (w' : World) : Prop := ∃ (v : Value) (out : List Int), e = .returned v ∧ OwnI w' w.heap.size v out ∧ Below w.heap.size w w' ∧ out.length ≤ fs.length + es.length ∧ ∀ x, x ∈ out ↔ ∃ b ∈ fs, ∃ p, IsW es b p x
set_option maxRecDepth 100000 in
set_option maxHeartbeats 4000000 in
theorem reach_any (A F : Option Addr) (n c nf cf : Nat) (es : List Ed) (fs : List Int) (w : World) (hr : Strs Ed.cells 4 w w.heap.size A n es) (hl : es.length = n) (hf : Ints w w.heap.size F nf fs) (hn : n ≤ 1000) (hnf : nf ≤ 1000) :
    Calls Try.prog 50 #[.slice A n c, .slice F nf cf] w (ReachR es fs w) := by
  have HR := Lib.hid hr
  have HF := Lib.hid hf
  have HL := Lib.hid hl
  have HFl := Lib.hid hf.ilen
  have HFin : Hid (∀ (v : Value) (w' : World) (out : List Int) (was : Int), OwnI w' w.heap.size v out → Below w.heap.size w w' → RoI es fs out was → ¬ was < (out.length : Int) → ReachR es fs w (.returned v) w') := fun v w' out was h1 h2 h3 h4 => ⟨v, out, rfl, h1, h2, h3.rc.short, h3.reach h4⟩
  generalize ReachR es fs w = RR at *
  have HP : Hid (∀ (A : Option Addr) (n c : Nat) (l : List Int) (x : Int) (W : World), Ints W W.heap.size A n l → n ≤ 10000 → Calls Try.prog 64 #[.slice A n c, .int .i64 x] W (PutR (putN l x) W)) := put_any
  have HHas : Hid (∀ (A : Option Addr) (n c : Nat) (l : List Int) (x : Int) (b : Bool) (W : World), Ints W W.heap.size A n l → n ≤ 10000 → l.contains x = b → Calls Try.prog 52 #[.slice A n c, .int .i64 x] W fun e w' => e = .returned (.bool b) ∧ W = w') := fun A n c l x b W h1 h2 h3 => r5has_any A n c W.heap.size l x b W h1 (by simp only [maxLen]; omega) h3
  clear hr hf hl
  go_enter Try.func50, Try.ntmps50
  go_wp2_with fail
  go_loopw [5, 6] (fun v i wr => ∃ (k : Nat) (out : List Int), k ≤ nf ∧ i = .int .i64 k ∧ RfI es fs out k ∧ OwnI wr w.heap.size v out ∧ Below w.heap.size w wr) (fun _ i _ => nf - (intOf i).toNat)
  case atStart => exact ⟨0, [], by omega, rfl, RfI.start es fs, OwnI.nil _ _, Below.refl _ _⟩
  case round =>
    obtain ⟨k, out, hk, rfl, hI, hO, hbr⟩ := hrel
    obtain ⟨wo, rfl⟩ : ∃ wo : World, wo = wr := ⟨_, rfl⟩
    obtain ⟨Av, nv, cv, rfl, HLv, hv1, hv2, hvr⟩ := hO.nam
    have hsh := hI.short
    rw [HLv.out, HL.out, HFl.out] at hsh
    have HI := Lib.hid hI
    have HO := Lib.hid hO
    have HB := Lib.hid hbr
    have HVr := Lib.hid hvr
    clear hI hO hbr hvr
    by_cases hlt : k < nf
    · obtain ⟨ad, rfl, hab, hc⟩ := HF.out.int hlt
      have hcw := (HB.out.cell (p := ad.add k) (by rw [block_of_add]; exact hab)).trans hc
      have HN : Hid (RfI es fs (putN out (fs.getD k 0)) (k + 1)) := hide (HI.out.step (by rw [HFl.out]; exact hlt))
      generalize fs.getD k 0 = y at *
      clear hc
      go_wp2_with fail
      with_reducible refine (HP.out Av nv cv out y wo HVr.out (by omega)).mono ?_
      rintro e w3 ⟨v3, rfl, ho3, hb3⟩
      have HO3 := Lib.hid (OwnI.mono ho3 HB.out.size)
      have HB3 := Lib.hid (HB.out.trans (hb3.mono HB.out.size))
      clear ho3 hb3
      go_wp2_with fail
      go_roundw
      case rel => exact ⟨k + 1, _, by omega, by go_num, HN.out, HO3.out, HB3.out⟩
      case measure => simp [intOf]; omega
    · obtain rfl : k = nf := by omega
      have HRo : Hid (RoI es fs out (-1)) := hide (HI.out.done (by rw [HFl.out]; exact Nat.le_refl _))
      go_wp2_with fail
      go_loopw [5, 7] (fun v q wr => ∃ (was : Int) (out : List Int), q = .int .i64 was ∧ RoI es fs out was ∧ OwnI wr w.heap.size v out ∧ Below w.heap.size w wr) (fun _ q _ => k + n + 2 - (intOf q + 1).toNat)
      case atStart => exact ⟨-1, out, rfl, HRo.out, HO.out, HB.out⟩
      case round =>
        clear HRo HI HO HB HVr HLv hv1 hv2 hsh
        obtain ⟨was, out, rfl, hI, hO, hbr⟩ := hrel
        obtain ⟨wo, rfl⟩ : ∃ wo : World, wo = wr := ⟨_, rfl⟩
        obtain ⟨Av, nv, cv, rfl, HLv, hv1, hv2, _⟩ := hO.nam
        have hsh := hI.rc.short
        have hlo := hI.lo
        rw [HLv.out, HL.out, HFl.out] at hsh
        rw [HLv.out] at hlo
        have HI := Lib.hid hI
        have HO := Lib.hid hO
        have HB := Lib.hid hbr
        clear hI hO hbr
        by_cases hlt2 : was < (nv : Int)
        · have HPs : Hid (PsI es fs out out 0) := hide (PsI.start HI.out.rc)
          go_wp2_with fail
          go_loopw [5, 8] (fun v i wr => ∃ (q : Nat) (o2 : List Int), q ≤ n ∧ i = .int .i64 q ∧ PsI es fs out o2 q ∧ OwnI wr w.heap.size v o2 ∧ Below w.heap.size w wr) (fun _ i _ => n - (intOf i).toNat)
          case atStart => exact ⟨0, out, by omega, rfl, HPs.out, HO.out, HB.out⟩
          case round =>
            clear HPs HO HB
            obtain ⟨q, o2, hq, rfl, hP, hO, hbr⟩ := hrel
            obtain ⟨wi, rfl⟩ : ∃ wi : World, wi = wr := ⟨_, rfl⟩
            obtain ⟨A2, n2, c2, rfl, HL2, hv3, hv4, hvr⟩ := hO.nam
            have hsh2 := hP.rc.short
            rw [HL2.out, HL.out, HFl.out] at hsh2
            have HPs := Lib.hid hP
            have HO := Lib.hid hO
            have HB := Lib.hid hbr
            have HVr := Lib.hid hvr
            clear hP hO hbr hvr
            by_cases hlt3 : q < n
            · obtain ⟨ad, rfl, hab, hcl⟩ := strs_at HR.out (fun _ => rfl) HL.out hlt3 ed0
              have HNo : Hid (o2.contains (es.getD q edZ).fr = false → PsI es fs out o2 (q + 1)) := fun h => HPs.out.no (fun hc => by rw [← List.contains_iff_mem, h] at hc; cases hc)
              have HYe : Hid (o2.contains (es.getD q edZ).fr = true → PsI es fs out (putN o2 (es.getD q edZ).tt) (q + 1)) := fun h => HPs.out.yes (by rw [HL.out]; exact hlt3) (by rwa [List.contains_iff_mem] at h)
              obtain ⟨⟨ei, fr, tt, cst⟩, hq2⟩ : ∃ x, es.getD q edZ = x := ⟨_, rfl⟩
              have hq3 : es.getD q ed0 = ⟨ei, fr, tt, cst⟩ := hq2
              rw [hq3] at hcl
              rw [hq2] at HNo HYe
              simp only at HNo HYe
              have p1 : wi.cell? ⟨(ad.add (q * 4)).block, (ad.add (q * 4)).off + 1, none⟩ = some (.int .i64 fr) := (HB.out.cell (by show (ad.add (q * 4)).block < _; rw [block_of_add]; exact hab)).trans (hcl 1 _ rfl)
              have p2 : wi.cell? ⟨(ad.add (q * 4)).block, (ad.add (q * 4)).off + 2, none⟩ = some (.int .i64 tt) := (HB.out.cell (by show (ad.add (q * 4)).block < _; rw [block_of_add]; exact hab)).trans (hcl 2 _ rfl)
              obtain ⟨b, hb⟩ : ∃ b, o2.contains fr = b := ⟨_, rfl⟩
              have HBb := Lib.hid hb
              clear hcl hq2 hq3 hb
              go_wp2_with fail
              with_reducible refine (HHas.out A2 n2 c2 o2 fr b wi HVr.out (by omega) HBb.out).mono ?_
              rintro e w3 ⟨rfl, rfl⟩
              cases b with
              | false =>
                have HN := Lib.hid (HNo.out HBb.out)
                go_wp2_with fail
                go_roundw
                case rel => exact ⟨q + 1, _, by omega, by go_num, HN.out, HO.out, HB.out⟩
                case measure => simp [intOf]; omega
              | true =>
                have HN := Lib.hid (HYe.out HBb.out)
                go_wp2_with fail
                with_reducible refine (HP.out A2 n2 c2 o2 tt wi HVr.out (by omega)).mono ?_
                rintro e w3 ⟨v3, rfl, ho3, hb3⟩
                have HO3 := Lib.hid (OwnI.mono ho3 HB.out.size)
                have HB3 := Lib.hid (HB.out.trans (hb3.mono HB.out.size))
                clear ho3 hb3
                go_wp2_with fail
                go_roundw
                case rel => exact ⟨q + 1, _, by omega, by go_num, HN.out, HO3.out, HB3.out⟩
                case measure => simp [intOf]; omega
            · obtain rfl : q = n := by omega
              have HN : Hid (RoI es fs o2 (nv : Int)) := hide (by have h := HPs.out; rw [← HL.out] at h; have h2 := h.done HI.out.fr; rw [HLv.out] at h2; exact h2)
              go_wp2_with fail
              go_roundw
              case rel => exact ⟨(nv : Int), _, rfl, HN.out, HO.out, HB.out⟩
              case measure => simp [intOf]; omega
        · go_wp2_with fail
          try go_ret
          exact HFin.out _ _ _ _ HO.out HB.out HI.out (by rw [HLv.out]; exact hlt2)

def TurnR (es : List Ed) (w : World) (e : Ending) (w' : World) : Prop := ∃ v : Value, e = .returned v ∧ OwnE w' w.heap.size v (es.map trnE) ∧ Below w.heap.size w w'
set_option maxRecDepth 100000 in
set_option maxHeartbeats 4000000 in
theorem turned_any (A : Option Addr) (n c : Nat) (es : List Ed) (w : World) (hr : Strs Ed.cells 4 w w.heap.size A n es) (hl : es.length = n) (hn : n ≤ 1000) :
    Calls Try.prog 51 #[.slice A n c] w (TurnR es w) := by
  have HR := Lib.hid hr
  have HL := Lib.hid hl
  have HFin : Hid (∀ (v : Value) (w' : World) (l : List Ed), OwnE w' w.heap.size v l → Below w.heap.size w w' → l = es.map trnE → TurnR es w (.returned v) w') := fun v w' l h1 h2 h3 => ⟨v, rfl, h3 ▸ h1, h2⟩
  generalize TurnR es w = RR at *
  clear hr hl
  go_enter Try.func51, Try.ntmps51
  go_wp2_with fail
  go_loopw [3, 4] (fun v i wr => ∃ (k : Nat) (acc : List Ed), k ≤ n ∧ i = .int .i64 k ∧ acc = (es.take k).map trnE ∧ OwnE wr w.heap.size v acc ∧ acc.length ≤ k ∧ Below w.heap.size w wr) (fun _ i _ => n - (intOf i).toNat)
  case atStart => exact ⟨0, [], by omega, rfl, rfl, OwnE.nil _ _, by simp, Below.refl _ _⟩
  case round =>
    obtain ⟨k, acc, hk, rfl, hA, hO, hal, hbr⟩ := hrel
    obtain ⟨wo, rfl⟩ : ∃ wo : World, wo = wr := ⟨_, rfl⟩
    obtain ⟨Av, nv, cv, rfl, HLv, hv1, hv2, _⟩ := hO.nam
    rw [HLv.out] at hal
    have HA := Lib.hid hA
    have HO := Lib.hid (hO.row HLv.out)
    have HO0 := Lib.hid hO
    have HB := Lib.hid hbr
    clear hO hbr hA
    by_cases hlt : k < n
    · obtain ⟨ad, rfl, hab, hcl⟩ := strs_at HR.out (fun _ => rfl) HL.out hlt ed0
      have HN : Hid ((es.take (k + 1)).map trnE = acc ++ [trnE (es.getD k edZ)]) := hide (by rw [ed_take (by rw [HL.out]; exact hlt), List.map_append, ← HA.out]; rfl)
      obtain ⟨⟨ei, fr, tt, cst⟩, hq⟩ : ∃ q, es.getD k edZ = q := ⟨_, rfl⟩
      have hq' : es.getD k ed0 = ⟨ei, fr, tt, cst⟩ := hq
      rw [hq'] at hcl
      rw [hq] at HN
      have HS : Hid (∀ W : World, Below w.heap.size w W → (fun W : World => W.cell? (ad.add (k * 4)) = some (.int .i64 ei) ∧ W.cell? ⟨(ad.add (k * 4)).block, (ad.add (k * 4)).off + 1, none⟩ = some (.int .i64 fr) ∧ W.cell? ⟨(ad.add (k * 4)).block, (ad.add (k * 4)).off + 2, none⟩ = some (.int .i64 tt) ∧ W.cell? ⟨(ad.add (k * 4)).block, (ad.add (k * 4)).off + 3, none⟩ = some (.int .i64 cst)) W) := fun W hW => by
        have h0 := (hW.cell (p := (ad.add (k * 4)).add 0) (by rw [block_of_add, block_of_add]; exact hab)).trans (hcl 0 _ rfl)
        rw [add_of_add, Nat.add_zero] at h0
        exact ⟨h0, (hW.cell (by show (ad.add (k * 4)).block < _; rw [block_of_add]; exact hab)).trans (hcl 1 _ rfl), (hW.cell (by show (ad.add (k * 4)).block < _; rw [block_of_add]; exact hab)).trans (hcl 2 _ rfl), (hW.cell (by show (ad.add (k * 4)).block < _; rw [block_of_add]; exact hab)).trans (hcl 3 _ rfl)⟩
      have HBd : Hid (Below w.heap.size w wo.drew) := hide HB.out.drew
      have HOd : Hid (wo.drew.ownsRow w.heap.size 68 4 (.slice Av nv cv) nv (acc.map Ed.cells).flatten) := hide (own_below HO.out (Below.refl _ _).drew (Nat.le_refl _))
      clear hcl hq hq'
      go_upto_region 5 with (fail)
      refine wp_region_held_drew (S := (fun W : World => W.cell? (ad.add (k * 4)) = some (.int .i64 ei) ∧ W.cell? ⟨(ad.add (k * 4)).block, (ad.add (k * 4)).off + 1, none⟩ = some (.int .i64 fr) ∧ W.cell? ⟨(ad.add (k * 4)).block, (ad.add (k * 4)).off + 2, none⟩ = some (.int .i64 tt) ∧ W.cell? ⟨(ad.add (k * 4)).block, (ad.add (k * 4)).off + 3, none⟩ = some (.int .i64 cst))) (by kernel_rfl) (HS.out _ HBd.out) (fun hHeld => ?_)
      refine held_run 0 (some 11) (.move (.tmp 3)) ?v5_1_2 (by rfl) (by kernel_rfl) (by kernel_rfl) (by kernel_rfl) (fun _ _ _ h => h) (fun o ho w hS => ?y5_1_2) (by assumption) ?r5_1_2
      case y5_1_2 => (try dsimp only at hS); unfold execOp; simp only [ho]; go_simp; try with_reducible rfl
      try simp only [Act.put, List.setIfInBounds_toArray, List.set_cons_zero, List.set_cons_succ]
      refine held_run 1 (some 12) (.move (.tmp 0)) ?v5_1_3 (by rfl) (by kernel_rfl) (by kernel_rfl) (by kernel_rfl) (fun _ _ _ h => h) (fun o ho w hS => ?y5_1_3) (by assumption) ?r5_1_3
      case y5_1_3 => (try dsimp only at hS); unfold execOp; simp only [ho]; go_simp; try with_reducible rfl
      try simp only [Act.put, List.setIfInBounds_toArray, List.set_cons_zero, List.set_cons_succ]
      refine held_run 2 (some 13) (.move (.tmp 4)) ?v5_1_4 (by rfl) (by kernel_rfl) (by kernel_rfl) (by kernel_rfl) (fun _ _ _ h => h) (fun o ho w hS => ?y5_1_4) (by assumption) ?r5_1_4
      case y5_1_4 => (try dsimp only at hS); unfold execOp; simp only [ho]; go_simp; try with_reducible rfl
      try simp only [Act.put, List.setIfInBounds_toArray, List.set_cons_zero, List.set_cons_succ]
      refine held_run 3 (some 14) (.indexAddr 66 (.tmp 12) (.tmp 13)) ?v5_1_5 (by rfl) (by kernel_rfl) (by kernel_rfl) (by kernel_rfl) (fun _ _ _ h => h) (fun o ho w hS => ?y5_1_5) (by assumption) ?r5_1_5
      case y5_1_5 => (try dsimp only at hS); unfold execOp; simp only [ho]; go_simp; try with_reducible rfl
      try simp only [Act.put, List.setIfInBounds_toArray, List.set_cons_zero, List.set_cons_succ]
      refine held_run 4 (some 15) (.fieldAddr 68 (.tmp 14) 0) ?v5_1_6 (by rfl) (by kernel_rfl) (by kernel_rfl) (by kernel_rfl) (fun _ _ _ h => h) (fun o ho w hS => ?y5_1_6) (by assumption) ?r5_1_6
      case y5_1_6 => (try dsimp only at hS); unfold execOp; simp only [ho]; go_simp; try with_reducible rfl
      try simp only [Act.put, List.setIfInBounds_toArray, List.set_cons_zero, List.set_cons_succ]
      refine held_run 5 (some 16) (.load 3 (.tmp 15)) ?v5_1_7 (by rfl) (by kernel_rfl) (by kernel_rfl) (by kernel_rfl) (fun _ _ _ h => h) (fun o ho w hS => ?y5_1_7) (by assumption) ?r5_1_7
      case y5_1_7 => (try dsimp only at hS); unfold execOp; simp only [ho]; go_simp; try with_reducible rfl
      try simp only [Act.put, List.setIfInBounds_toArray, List.set_cons_zero, List.set_cons_succ]
      refine held_run 6 (some 17) (.move (.tmp 0)) ?v5_1_8 (by rfl) (by kernel_rfl) (by kernel_rfl) (by kernel_rfl) (fun _ _ _ h => h) (fun o ho w hS => ?y5_1_8) (by assumption) ?r5_1_8
      case y5_1_8 => (try dsimp only at hS); unfold execOp; simp only [ho]; go_simp; try with_reducible rfl
      try simp only [Act.put, List.setIfInBounds_toArray, List.set_cons_zero, List.set_cons_succ]
      refine held_run 7 (some 18) (.move (.tmp 4)) ?v5_1_9 (by rfl) (by kernel_rfl) (by kernel_rfl) (by kernel_rfl) (fun _ _ _ h => h) (fun o ho w hS => ?y5_1_9) (by assumption) ?r5_1_9
      case y5_1_9 => (try dsimp only at hS); unfold execOp; simp only [ho]; go_simp; try with_reducible rfl
      try simp only [Act.put, List.setIfInBounds_toArray, List.set_cons_zero, List.set_cons_succ]
      refine held_run 8 (some 19) (.indexAddr 66 (.tmp 17) (.tmp 18)) ?v5_1_10 (by rfl) (by kernel_rfl) (by kernel_rfl) (by kernel_rfl) (fun _ _ _ h => h) (fun o ho w hS => ?y5_1_10) (by assumption) ?r5_1_10
      case y5_1_10 => (try dsimp only at hS); unfold execOp; simp only [ho]; go_simp; try with_reducible rfl
      try simp only [Act.put, List.setIfInBounds_toArray, List.set_cons_zero, List.set_cons_succ]
      refine held_run 9 (some 20) (.fieldAddr 68 (.tmp 19) 2) ?v5_1_11 (by rfl) (by kernel_rfl) (by kernel_rfl) (by kernel_rfl) (fun _ _ _ h => h) (fun o ho w hS => ?y5_1_11) (by assumption) ?r5_1_11
      case y5_1_11 => (try dsimp only at hS); unfold execOp; simp only [ho]; go_simp; try with_reducible rfl
      try simp only [Act.put, List.setIfInBounds_toArray, List.set_cons_zero, List.set_cons_succ]
      refine held_run 10 (some 21) (.load 3 (.tmp 20)) ?v5_1_12 (by rfl) (by kernel_rfl) (by kernel_rfl) (by kernel_rfl) (fun _ _ _ h => h) (fun o ho w hS => ?y5_1_12) (by assumption) ?r5_1_12
      case y5_1_12 => (try dsimp only at hS); unfold execOp; simp only [ho]; go_simp; try with_reducible rfl
      try simp only [Act.put, List.setIfInBounds_toArray, List.set_cons_zero, List.set_cons_succ]
      refine held_run 11 (some 22) (.move (.tmp 0)) ?v5_1_13 (by rfl) (by kernel_rfl) (by kernel_rfl) (by kernel_rfl) (fun _ _ _ h => h) (fun o ho w hS => ?y5_1_13) (by assumption) ?r5_1_13
      case y5_1_13 => (try dsimp only at hS); unfold execOp; simp only [ho]; go_simp; try with_reducible rfl
      try simp only [Act.put, List.setIfInBounds_toArray, List.set_cons_zero, List.set_cons_succ]
      refine held_run 12 (some 23) (.move (.tmp 4)) ?v5_1_14 (by rfl) (by kernel_rfl) (by kernel_rfl) (by kernel_rfl) (fun _ _ _ h => h) (fun o ho w hS => ?y5_1_14) (by assumption) ?r5_1_14
      case y5_1_14 => (try dsimp only at hS); unfold execOp; simp only [ho]; go_simp; try with_reducible rfl
      try simp only [Act.put, List.setIfInBounds_toArray, List.set_cons_zero, List.set_cons_succ]
      refine held_run 13 (some 24) (.indexAddr 66 (.tmp 22) (.tmp 23)) ?v5_1_15 (by rfl) (by kernel_rfl) (by kernel_rfl) (by kernel_rfl) (fun _ _ _ h => h) (fun o ho w hS => ?y5_1_15) (by assumption) ?r5_1_15
      case y5_1_15 => (try dsimp only at hS); unfold execOp; simp only [ho]; go_simp; try with_reducible rfl
      try simp only [Act.put, List.setIfInBounds_toArray, List.set_cons_zero, List.set_cons_succ]
      refine held_run 14 (some 25) (.fieldAddr 68 (.tmp 24) 1) ?v5_1_16 (by rfl) (by kernel_rfl) (by kernel_rfl) (by kernel_rfl) (fun _ _ _ h => h) (fun o ho w hS => ?y5_1_16) (by assumption) ?r5_1_16
      case y5_1_16 => (try dsimp only at hS); unfold execOp; simp only [ho]; go_simp; try with_reducible rfl
      try simp only [Act.put, List.setIfInBounds_toArray, List.set_cons_zero, List.set_cons_succ]
      refine held_run 15 (some 26) (.load 3 (.tmp 25)) ?v5_1_17 (by rfl) (by kernel_rfl) (by kernel_rfl) (by kernel_rfl) (fun _ _ _ h => h) (fun o ho w hS => ?y5_1_17) (by assumption) ?r5_1_17
      case y5_1_17 => (try dsimp only at hS); unfold execOp; simp only [ho]; go_simp; try with_reducible rfl
      try simp only [Act.put, List.setIfInBounds_toArray, List.set_cons_zero, List.set_cons_succ]
      refine held_run 16 (some 27) (.move (.tmp 0)) ?v5_1_18 (by rfl) (by kernel_rfl) (by kernel_rfl) (by kernel_rfl) (fun _ _ _ h => h) (fun o ho w hS => ?y5_1_18) (by assumption) ?r5_1_18
      case y5_1_18 => (try dsimp only at hS); unfold execOp; simp only [ho]; go_simp; try with_reducible rfl
      try simp only [Act.put, List.setIfInBounds_toArray, List.set_cons_zero, List.set_cons_succ]
      refine held_run 17 (some 28) (.move (.tmp 4)) ?v5_1_19 (by rfl) (by kernel_rfl) (by kernel_rfl) (by kernel_rfl) (fun _ _ _ h => h) (fun o ho w hS => ?y5_1_19) (by assumption) ?r5_1_19
      case y5_1_19 => (try dsimp only at hS); unfold execOp; simp only [ho]; go_simp; try with_reducible rfl
      try simp only [Act.put, List.setIfInBounds_toArray, List.set_cons_zero, List.set_cons_succ]
      refine held_run 18 (some 29) (.indexAddr 66 (.tmp 27) (.tmp 28)) ?v5_1_20 (by rfl) (by kernel_rfl) (by kernel_rfl) (by kernel_rfl) (fun _ _ _ h => h) (fun o ho w hS => ?y5_1_20) (by assumption) ?r5_1_20
      case y5_1_20 => (try dsimp only at hS); unfold execOp; simp only [ho]; go_simp; try with_reducible rfl
      try simp only [Act.put, List.setIfInBounds_toArray, List.set_cons_zero, List.set_cons_succ]
      refine held_run 19 (some 30) (.fieldAddr 68 (.tmp 29) 3) ?v5_1_21 (by rfl) (by kernel_rfl) (by kernel_rfl) (by kernel_rfl) (fun _ _ _ h => h) (fun o ho w hS => ?y5_1_21) (by assumption) ?r5_1_21
      case y5_1_21 => (try dsimp only at hS); unfold execOp; simp only [ho]; go_simp; try with_reducible rfl
      try simp only [Act.put, List.setIfInBounds_toArray, List.set_cons_zero, List.set_cons_succ]
      refine held_run 20 (some 31) (.load 3 (.tmp 30)) ?v5_1_22 (by rfl) (by kernel_rfl) (by kernel_rfl) (by kernel_rfl) (fun _ _ _ h => h) (fun o ho w hS => ?y5_1_22) (by assumption) ?r5_1_22
      case y5_1_22 => (try dsimp only at hS); unfold execOp; simp only [ho]; go_simp; try with_reducible rfl
      try simp only [Act.put, List.setIfInBounds_toArray, List.set_cons_zero, List.set_cons_succ]
      refine held_run 21 (some 32) (.build 68 #[(0, (.tmp 16)), (1, (.tmp 21)), (2, (.tmp 26)), (3, (.tmp 31))]) ?v5_1_23 (by rfl) (by kernel_rfl) (by kernel_rfl) (by kernel_rfl) (fun _ _ _ h => h) (fun o ho w hS => ?y5_1_23) (by assumption) ?r5_1_23
      case y5_1_23 => (try dsimp only at hS); unfold execOp; simp only [ho]; go_simp; try with_reducible rfl
      try simp only [Act.put, List.setIfInBounds_toArray, List.set_cons_zero, List.set_cons_succ]
      refine held_one 22 (by kernel_rfl) ?_
      refine op_lit 22 (some 33) 66 68 1 #[(0, .tmp 32)] #[.int .i64 ei, .int .i64 tt, .int .i64 fr, .int .i64 cst] (by rfl) (by simp only [List.map_toArray, List.map_cons, List.map_nil]; exact run_lit1 (P := Try.prog) wo.drew 66 68 _ _ _ _ Try.underlying66 (by kernel_rfl)) ?_
      intro wa hx hb _
      have HBa := Lib.hid (HBd.out.trans (hb.mono HBd.out.size))
      have HLa := Lib.hid hx
      have HOa := Lib.hid (own_below HOd.out hb (Nat.le_refl _))
      clear hx hb
      refine ⟨HS.out _ HBa.out, ?_⟩
      try simp only [Act.put, List.setIfInBounds_toArray, List.set_cons_zero, List.set_cons_succ]
      refine held_one 23 (by kernel_rfl) ?_
      refine op_app ei_edge 23 (some 34) (.tmp 11) (.tmp 33) (by rfl) w.heap.size _ nv (acc.map Ed.cells).flatten rfl (HOa.out) wa.heap.size (some ⟨wo.drew.heap.size, 0, none⟩) 1 1 (Ed.cells ⟨ei, tt, fr, cst⟩) rfl (reads_blk HLa.out rfl) (by simp [Value.oneCell']) (by simp only [maxLen]; omega) (by omega) (HBa.out.size) ?_
      intro v9 w9 hown9 _ hb9 _
      have HO9 : Hid (OwnE w9 w.heap.size v9 (acc ++ [⟨ei, tt, fr, cst⟩])) := hide (OwnE.snoc hown9 (by rw [HLv.out]) rfl)
      have HB9 := Lib.hid (HBa.out.trans hb9)
      have hH9 : (fun W : World => W.cell? (ad.add (k * 4)) = some (.int .i64 ei) ∧ W.cell? ⟨(ad.add (k * 4)).block, (ad.add (k * 4)).off + 1, none⟩ = some (.int .i64 fr) ∧ W.cell? ⟨(ad.add (k * 4)).block, (ad.add (k * 4)).off + 2, none⟩ = some (.int .i64 tt) ∧ W.cell? ⟨(ad.add (k * 4)).block, (ad.add (k * 4)).off + 3, none⟩ = some (.int .i64 cst)) w9 := HS.out _ HB9.out
      clear hown9 hb9
      refine ⟨hH9, ?_⟩
      try simp only [Act.put, List.setIfInBounds_toArray, List.set_cons_zero, List.set_cons_succ]
      refine held_run 24 (some 3) (.assign (.tmp 34)) ?v5_1_26 (by rfl) (by kernel_rfl) (by kernel_rfl) (by kernel_rfl) (fun _ _ _ h => h) (fun o ho w hS => ?y5_1_26) (by assumption) ?r5_1_26
      case y5_1_26 => (try dsimp only at hS); unfold execOp; simp only [ho]; go_simp; try with_reducible rfl
      try simp only [Act.put, List.setIfInBounds_toArray, List.set_cons_zero, List.set_cons_succ]
      refine wpAnyH_done (by kernel_rfl) ?_ _
      go_wp2_with fail
      go_roundw
      case rel => exact ⟨k + 1, _, by omega, by go_num, HN.out.symm, HO9.out, by simp [HLv.out]; omega, HB9.out⟩
      case measure => simp [intOf]; omega
    · obtain rfl : k = n := by omega
      have HE : Hid (acc = es.map trnE) := hide (by rw [HA.out, List.take_of_length_le (by rw [HL.out]; exact Nat.le_refl _)])
      go_wp2_with fail
      try go_ret
      exact HFin.out _ _ _ HO0.out HB.out HE.out

def BkR (es : List Ed) (fs : List Int) (w : World) (e : Ending) (w' : World) : Prop := ∃ (v : Value) (out : List Int), e = .returned v ∧ OwnI w' w.heap.size v out ∧ Below w.heap.size w w' ∧ out.length ≤ fs.length + es.length ∧ ∀ x, x ∈ out ↔ ∃ b ∈ fs, ∃ p, IsW es x p b
set_option maxRecDepth 100000 in
set_option maxHeartbeats 4000000 in
theorem back_any (A F : Option Addr) (n c nf cf : Nat) (es : List Ed) (fs : List Int) (w : World) (hr : Strs Ed.cells 4 w w.heap.size A n es) (hl : es.length = n) (hf : Ints w w.heap.size F nf fs) (hn : n ≤ 1000) (hnf : nf ≤ 1000) :
    Calls Try.prog 39 #[.slice A n c, .slice F nf cf] w (BkR es fs w) := by
  have HR := Lib.hid hr
  have HF := Lib.hid hf
  have HL := Lib.hid hl
  have HFin : Hid (∀ (v : Value) (w' : World) (out : List Int), OwnI w' w.heap.size v out → Below w.heap.size w w' → out.length ≤ fs.length + (es.map trnE).length → (∀ x, x ∈ out ↔ ∃ b ∈ fs, ∃ p, IsW (es.map trnE) b p x) → BkR es fs w (.returned v) w') := fun v w' out h1 h2 h3 h4 => ⟨v, out, rfl, h1, h2, by simpa using h3, fun x => (h4 x).trans ⟨fun ⟨b, hb, p, hp⟩ => ⟨b, hb, walk_turn p b x hp⟩, fun ⟨b, hb, p, hp⟩ => ⟨b, hb, turn_walk p x b hp⟩⟩⟩
  generalize BkR es fs w = RR at *
  clear hr hf hl
  go_enter Try.func39, Try.ntmps39
  go_wp2_with fail
  with_reducible refine (turned_any A n c es w HR.out HL.out hn).mono ?_
  rintro e w1 ⟨v1, rfl, ho1, hb1⟩
  obtain ⟨A1, n1, c1, rfl, HL1, h11, h12, hs1⟩ := ho1.nam
  have hn1 : n1 = n := by rw [← HL1.out, List.length_map, HL.out]
  subst hn1
  have HS1 := Lib.hid hs1
  have HB1 := Lib.hid hb1
  have HF1 := Lib.hid (HF.out.now hb1)
  clear ho1 hs1 hb1
  go_wp2_with fail
  with_reducible refine (reach_any A1 F n1 c1 nf cf (es.map trnE) fs w1 HS1.out HL1.out HF1.out hn hnf).mono ?_
  rintro e w2 ⟨v2, out, rfl, ho2, hb2, hl2, hx2⟩
  have HO2 := Lib.hid (OwnI.mono ho2 HB1.out.size)
  have HB2 := Lib.hid (HB1.out.trans (hb2.mono HB1.out.size))
  have HX2 := Lib.hid hx2
  have HL2 := Lib.hid hl2
  clear ho2 hb2 hx2 hl2
  go_wp2_with fail
  try go_ret
  exact HFin.out _ _ _ HO2.out HB2.out HL2.out HX2.out

def DownR (rs : List Rn) (runs : List Int) (w : World) (e : Ending) (w' : World) : Prop := ∃ v : Value, e = .returned v ∧ OwnE w' w.heap.size v (dnE rs runs) ∧ Below w.heap.size w w'
set_option maxRecDepth 100000 in
set_option maxHeartbeats 4000000 in
theorem down_any (vn vl vr vb : Value) (Ar : Option Addr) (nr cr : Nat) (rs : List Rn) (runs : List Int) (w : World) (hr : StrV Rn.cells 7 w w.heap.size vr rs) (hru : Ints w w.heap.size Ar nr runs) (hnr : nr ≤ 10000) (hrs : rs.length ≤ 64) :
    Calls Try.prog 40 #[.agg #[vn, vl, vr, vb], .slice Ar nr cr] w (DownR rs runs w) := by
  obtain ⟨A, n, c, rfl, HL, hc1, hc2, hr'⟩ := hr.nam
  rw [HL.out] at hrs
  have HR := Lib.hid hr'
  have HRu := Lib.hid hru
  have HFin : Hid (∀ (v : Value) (w' : World) (l : List Ed), OwnE w' w.heap.size v l → Below w.heap.size w w' → l = dnE rs runs → DownR rs runs w (.returned v) w') := fun v w' l h1 h2 h3 => ⟨v, rfl, h3 ▸ h1, h2⟩
  generalize DownR rs runs w = RR at *
  have HHas : Hid (∀ (A : Option Addr) (n c : Nat) (l : List Int) (x : Int) (b : Bool) (W : World), Ints W W.heap.size A n l → n ≤ 10000 → l.contains x = b → Calls Try.prog 52 #[.slice A n c, .int .i64 x] W fun e w' => e = .returned (.bool b) ∧ W = w') := fun A n c l x b W h1 h2 h3 => r5has_any A n c W.heap.size l x b W h1 (by simp only [maxLen]; omega) h3
  simp only [maxLen] at hc2
  clear hr hr' hru
  go_enter Try.func40, Try.ntmps40
  go_wp2_with fail
  have HBwb := (Blk.new w 44 #[vn, vl, .slice A n c, vb])
  have HLwb := (below_new w (.cells #[vn, vl, .slice A n c, vb] 44))
  have hswb : (w.alloc (.cells #[vn, vl, .slice A n c, vb] 44)).heap.size = w.heap.size + 1 := by simp
  generalize w.alloc (.cells #[vn, vl, .slice A n c, vb] 44) = wb at HBwb HLwb hswb ⊢
  replace HBwb := Lib.hid HBwb
  replace HLwb := Lib.hid HLwb
  have hlwb : w.heap.size < wb.heap.size := by omega
  replace hswb := Lib.hid hswb
  have HWb := Lib.hid (HLwb.out)
  have hl0 : w.heap.size ≤ wb.heap.size := HWb.out.size
  have HBb : Hid (Below wb.heap.size wb wb) := hide (Below.refl _ _)
  have hszb : wb.heap.size ≤ wb.heap.size := Nat.le_refl _
  have HX0b : Hid (Blk wb w.heap.size 44 #[vn, vl, .slice A n c, vb]) := hide HBwb.out
  have hxx0 : w.heap.size < wb.heap.size := HX0b.out.lt
  clear HBwb HLwb hswb hlwb
  have HRb := Lib.hid (HR.out.now HWb.out)
  have HRub := Lib.hid (HRu.out.now HWb.out)
  go_loopw [5, 6] (fun v i wr => ∃ (k : Nat) (acc : List Ed), k ≤ n ∧ i = .int .i64 k ∧ OwnE wr wb.heap.size v acc ∧ acc = dnE (rs.take k) runs ∧ acc.length ≤ k ∧ Below wb.heap.size wb wr) (fun _ i _ => n - (intOf i).toNat)
  case atStart => exact ⟨0, [], by omega, rfl, OwnE.nil _ _, rfl, by simp, HBb.out⟩
  case round =>
    obtain ⟨k, acc, hk, rfl, hO, hA, hal, hbr⟩ := hrel
    obtain ⟨Av, nv, cv, rfl, HLv, hv1, hv2, _⟩ := hO.nam
    have hnv : nv ≤ k := by rw [← HLv.out]; exact hal
    have HO := Lib.hid (hO.row HLv.out)
    have HO0 := Lib.hid hO
    have HA := Lib.hid hA
    clear hO hA hal
    obtain ⟨wo, rfl⟩ : ∃ wo : World, wo = wr := ⟨_, rfl⟩
    have HBo := Lib.hid (HBb.out.trans (hbr.mono hszb))
    have HWo := Lib.hid (HWb.out.trans (hbr.mono HWb.out.size))
    have hszo : wb.heap.size ≤ wo.heap.size := Nat.le_trans hszb hbr.size
    have HX0o := Lib.hid (HX0b.out.below hbr (Nat.lt_of_lt_of_le hxx0 hszb))
    have HRo := Lib.hid (HRb.out.now hbr)
    have HRuo := Lib.hid (HRub.out.now hbr)
    clear hbr
    have m0 : wo.cell? ⟨w.heap.size, 0, none⟩ = some (vn) := HX0o.out.cell 0
    have m1 : wo.cell? ⟨w.heap.size, 1, none⟩ = some (vl) := HX0o.out.cell 1
    have m2 : wo.cell? ⟨w.heap.size, 2, none⟩ = some (.slice A n c) := HX0o.out.cell 2
    have m3 : wo.cell? ⟨w.heap.size, 3, none⟩ = some (vb) := HX0o.out.cell 3
    by_cases hlt : k < n
    · obtain ⟨ad, rfl, hab, hcs⟩ := strs_at HRo.out (fun _ => rfl) HL.out hlt rn0
      have HN := Lib.hid (dn_snoc (runs := runs) (show k < rs.length by rw [HL.out]; exact hlt))
      rw [← HA.out] at HN
      generalize rs.getD k rn0 = b at *
      obtain ⟨id, op, fr, tt, gr, zn, ln⟩ := b
      have HCs : Hid (∀ j u, ([.int .i64 id, .int .i64 op, .int .i64 fr, .int .i64 tt, .int .i64 gr, .int .i64 zn, .int .i64 ln] : List Value)[j]? = some u → wo.cell? ((ad.add (k * 7)).add j) = some u) := hcs
      simp only at HN
      clear hcs
      go_upto_region 6 with (refine wpList_load_at 55 (.tmp 18) rfl rfl (ad.add (k * 7)) rfl [.int .i64 id, .int .i64 op, .int .i64 fr, .int .i64 tt, .int .i64 gr, .int .i64 zn, .int .i64 ln] HCs.out _ Try.underlying55 rfl (by kernel_rfl) ?_)
      have HBw3 := (Blk.new wo 55 #[.int .i64 id, .int .i64 op, .int .i64 fr, .int .i64 tt, .int .i64 gr, .int .i64 zn, .int .i64 ln])
      have HLw3 := (below_new wo (.cells #[.int .i64 id, .int .i64 op, .int .i64 fr, .int .i64 tt, .int .i64 gr, .int .i64 zn, .int .i64 ln] 55))
      have hsw3 : (wo.alloc (.cells #[.int .i64 id, .int .i64 op, .int .i64 fr, .int .i64 tt, .int .i64 gr, .int .i64 zn, .int .i64 ln] 55)).heap.size = wo.heap.size + 1 := by simp
      generalize wo.alloc (.cells #[.int .i64 id, .int .i64 op, .int .i64 fr, .int .i64 tt, .int .i64 gr, .int .i64 zn, .int .i64 ln] 55) = w3 at HBw3 HLw3 hsw3 ⊢
      replace HBw3 := Lib.hid HBw3
      replace HLw3 := Lib.hid HLw3
      have hlw3 : wo.heap.size < w3.heap.size := by omega
      replace hsw3 := Lib.hid hsw3
      have hb3 := HLw3.out
      have HY3 := HBw3
      clear HBw3 HLw3 hsw3 hlw3 m0 m1 m2 m3
      have HB3 := Lib.hid (HBo.out.trans (hb3.mono hszo))
      have HW3 := Lib.hid (HWo.out.trans (hb3.mono HWo.out.size))
      have hsz3 : wb.heap.size ≤ w3.heap.size := Nat.le_trans hszo hb3.size
      have HX03 := Lib.hid (HX0o.out.below hb3 (Nat.lt_of_lt_of_le hxx0 hszo))
      have HR3 := Lib.hid (HRo.out.now hb3)
      have HRu3 := Lib.hid (HRuo.out.now hb3)
      have HO3 := Lib.hid (own_below HO.out hb3 (Nat.le_refl _))
      clear hb3
      have y0 : w3.cell? ⟨wo.heap.size, 0, none⟩ = some (.int .i64 id) := HY3.out.cell 0
      have y1 : w3.cell? ⟨wo.heap.size, 1, none⟩ = some (.int .i64 op) := HY3.out.cell 1
      have y2 : w3.cell? ⟨wo.heap.size, 2, none⟩ = some (.int .i64 fr) := HY3.out.cell 2
      have y3 : w3.cell? ⟨wo.heap.size, 3, none⟩ = some (.int .i64 tt) := HY3.out.cell 3
      have y4 : w3.cell? ⟨wo.heap.size, 4, none⟩ = some (.int .i64 gr) := HY3.out.cell 4
      have y5 : w3.cell? ⟨wo.heap.size, 5, none⟩ = some (.int .i64 zn) := HY3.out.cell 5
      have y6 : w3.cell? ⟨wo.heap.size, 6, none⟩ = some (.int .i64 ln) := HY3.out.cell 6
      obtain ⟨ct, hct⟩ : ∃ b, runs.contains id = b := ⟨_, rfl⟩
      rw [hct] at HN
      have HCt := Lib.hid hct
      clear hct
      go_wp2_with fail
      with_reducible refine (HHas.out Ar nr cr runs id ct w3 HRu3.out hnr HCt.out).mono ?_
      rintro e w' ⟨rfl, rfl⟩
      cases ct with
      | true =>
        have HF2 : Hid (acc ++ [⟨id, fr, tt, ln⟩] = dnE (rs.take (k + 1)) runs) := by have h := HN.out; rw [if_pos rfl] at h; exact h.symm
        go_wp2_with
          (first
           | (at_builtin
              refine wpList_app_lit ei_edge rfl (.tmp 24) (.tmp 34) rfl wb.heap.size (.slice Av nv cv) nv (acc.map Ed.cells).flatten rfl HO3.out 1 rfl rfl (by simp [Value.oneCell']) (by simp only [maxLen]; omega) (by omega) hsz3 ?_
              intro v9 w9 hown9 hb9 _ _
              have HO9 : Hid (OwnE w9 wb.heap.size v9 (acc ++ [⟨id, fr, tt, ln⟩])) := hide (OwnE.snoc hown9 (by rw [HLv.out]) rfl)
              have HB9 := Lib.hid (HB3.out.trans hb9)
              clear hown9 hb9))
        go_roundw
        case rel => exact ⟨k + 1, _, by omega, by go_num, HO9.out, HF2.out, by simp [HLv.out]; omega, HB9.out⟩
        case measure => simp [intOf]; omega
      | false =>
        have HF2 : Hid (acc = dnE (rs.take (k + 1)) runs) := by have h := HN.out; rw [if_neg Bool.false_ne_true] at h; exact h.symm
        go_wp2_with fail
        go_roundw
        case rel => exact ⟨k + 1, acc, by omega, by go_num, OwnE.mk' HO3.out HLv.out, HF2.out, by rw [HLv.out]; omega, HB3.out⟩
        case measure => simp [intOf]; omega
    · obtain rfl : k = n := by omega
      have HE : Hid (acc = dnE rs runs) := by have h := HA.out; rw [List.take_of_length_le (by rw [HL.out]; exact Nat.le_refl _)] at h; exact h
      go_wp2_with fail
      try go_ret
      exact HFin.out _ _ _ (OwnE.mono HO0.out hl0) HWo.out HE.out

def HomeR (rs : List Rn) (bs runs : List Int) (w : World) (e : Ending) (w' : World) : Prop := ∃ (v : Value) (out : List Int), e = .returned v ∧ OwnI w' w.heap.size v out ∧ Below w.heap.size w w' ∧ out.length ≤ 200 ∧ ∀ x, x ∈ out ↔ HomeI rs bs runs x
set_option maxRecDepth 100000 in
set_option maxHeartbeats 4000000 in
theorem home_any (vn vl vr vb : Value) (Ar : Option Addr) (nr cr : Nat) (rs : List Rn) (bs runs : List Int) (w : World) (hr : StrV Rn.cells 7 w w.heap.size vr rs) (hb : RowV w w.heap.size vb bs) (hru : Ints w w.heap.size Ar nr runs) (hnr : nr ≤ 10000) (hrs : rs.length ≤ 64) (hbs : bs.length ≤ 64) :
    Calls Try.prog 27 #[.agg #[vn, vl, vr, vb], .slice Ar nr cr] w (HomeR rs bs runs w) := by
  obtain ⟨Ab, nb, cb, rfl, HLb, hd1, hd2, hb'⟩ := hb.nam
  rw [HLb.out] at hbs
  have HR := Lib.hid hr
  have HS := Lib.hid hb'
  have HU := Lib.hid hru
  have HRl := Lib.hid hrs
  have HDl : Hid ((dnE rs runs).length ≤ 64) := hide (by unfold dnE; rw [List.length_map]; exact Nat.le_trans (List.length_filter_le _ _) hrs)
  have HFin : Hid (∀ (v : Value) (w' : World) (out : List Int), OwnI w' w.heap.size v out → Below w.heap.size w w' → out.length ≤ bs.length + (dnE rs runs).length → (∀ x, x ∈ out ↔ ∃ b ∈ bs, ∃ p, IsW (dnE rs runs) x p b) → HomeR rs bs runs w (.returned v) w') := fun v w' out h1 h2 h3 h4 => ⟨v, out, rfl, h1, h2, by have := HDl.out; rw [HLb.out] at h3; omega, h4⟩
  generalize HomeR rs bs runs w = RR at *
  clear hr hb hb' hru hrs
  go_enter Try.func27, Try.ntmps27
  go_wp2_with fail
  have HBwb := (Blk.new w 44 #[vn, vl, vr, .slice Ab nb cb])
  have HLwb := (below_new w (.cells #[vn, vl, vr, .slice Ab nb cb] 44))
  have hswb : (w.alloc (.cells #[vn, vl, vr, .slice Ab nb cb] 44)).heap.size = w.heap.size + 1 := by simp
  generalize w.alloc (.cells #[vn, vl, vr, .slice Ab nb cb] 44) = wb at HBwb HLwb hswb ⊢
  replace HBwb := Lib.hid HBwb
  replace HLwb := Lib.hid HLwb
  have hlwb : w.heap.size < wb.heap.size := by omega
  replace hswb := Lib.hid hswb
  have HWb := Lib.hid (HLwb.out)
  have hl0 : w.heap.size ≤ wb.heap.size := HWb.out.size
  have HBb : Hid (Below wb.heap.size wb wb) := hide (Below.refl _ _)
  have hszb : wb.heap.size ≤ wb.heap.size := Nat.le_refl _
  have HX0b : Hid (Blk wb w.heap.size 44 #[vn, vl, vr, .slice Ab nb cb]) := hide HBwb.out
  have hxx0 : w.heap.size < wb.heap.size := HX0b.out.lt
  clear HBwb HLwb hswb hlwb
  have HRb := Lib.hid (HR.out.now HWb.out)
  have HSb := Lib.hid (HS.out.now HWb.out)
  have HUb := Lib.hid (HU.out.now HWb.out)
  have HSS : Hid (∀ W, Below wb.heap.size wb W → (fun W => Blk W w.heap.size 44 #[vn, vl, vr, .slice Ab nb cb] ∧ W.cell? ⟨w.heap.size, 3, none⟩ = some (.slice Ab nb cb)) W) := fun W hb => ⟨HX0b.out.below hb hxx0, (HX0b.out.below hb hxx0).cell 3⟩
  have HBd : Hid (Below wb.heap.size wb wb.drew) := hide HBb.out.drew
  have HWd : Hid (Below w.heap.size w wb.drew) := hide HWb.out.drew
  have hszd : wb.heap.size ≤ wb.drew.heap.size := hszb
  have h0 := HSS.out _ HBd.out
  have HRd := Lib.hid (HRb.out.now (Below.refl _ _).drew)
  have HSd := Lib.hid (HSb.out.now (Below.refl _ _).drew)
  have HUd := Lib.hid (HUb.out.now (Below.refl _ _).drew)
  have HX0d := Lib.hid (HX0b.out.below (Below.refl _ _).drew hxx0)
  refine wp_region_held_drew (S := fun W => Blk W w.heap.size 44 #[vn, vl, vr, .slice Ab nb cb] ∧ W.cell? ⟨w.heap.size, 3, none⟩ = some (.slice Ab nb cb)) (by kernel_rfl) (h0) (fun hHeld => ?_)
  refine held_load 0 (some 5) 44 (.tmp 2) (by rfl) (by kernel_rfl) (by kernel_rfl) (by kernel_rfl) (w.heap.size) 44 #[vn, vl, vr, .slice Ab nb cb] (fun _ _ _ h => h) (by rfl) (fun _ h => h.1) _ Try.underlying44 rfl (by kernel_rfl) (by assumption) ?_
  try simp only [Act.put, List.setIfInBounds_toArray, List.set_cons_zero, List.set_cons_succ]
  refine held_run 1 (some 6) (.move (.tmp 1)) ?v1_27_29 (by rfl) (by kernel_rfl) (by kernel_rfl) (by kernel_rfl) (fun _ _ _ h => h) (fun o ho w hS => ?y1_27_29) (by assumption) ?r1_27_29
  case y1_27_29 => (try dsimp only at hS); unfold execOp; simp only [ho]; go_simp; try with_reducible rfl
  try simp only [Act.put, List.setIfInBounds_toArray, List.set_cons_zero, List.set_cons_succ]
  refine held_run 3 (some 8) (.fieldAddr 44 (.tmp 2) 3) ?v1_27_30 (by rfl) (by kernel_rfl) (by kernel_rfl) (by kernel_rfl) (fun _ _ _ h => h) (fun o ho w hS => ?y1_27_30) (by assumption) ?r1_27_30
  case y1_27_30 => (try dsimp only at hS); unfold execOp; simp only [ho]; go_simp; try with_reducible rfl
  try simp only [Act.put, List.setIfInBounds_toArray, List.set_cons_zero, List.set_cons_succ]
  refine held_run 4 (some 9) (.load 42 (.tmp 8)) ?v1_27_31 (by rfl) (by kernel_rfl) (by kernel_rfl) (by kernel_rfl) (fun _ _ _ h => h) (fun o ho w hS => ?y1_27_31) (by assumption) ?r1_27_31
  case y1_27_31 => (try dsimp only at hS); unfold execOp; simp only [ho]; go_simp; try with_reducible rfl
  try simp only [Act.put, List.setIfInBounds_toArray, List.set_cons_zero, List.set_cons_succ]
  refine held_call 2 (some 7) 40 [(.tmp 5), (.tmp 6)] #[44, 42] #[.agg #[vn, vl, vr, .slice Ab nb cb], .slice Ar nr cr] (by rfl) (by rfl) (by kernel_rfl) Try.func40 (by rfl) (by rfl) ?_
  refine (down_any vn vl vr (.slice Ab nb cb) Ar nr cr rs runs _ HRd.out HUd.out hnr HRl.out).mono ?_
  rintro e w1 ⟨v1, rfl, ho1, hb1⟩
  obtain ⟨A1, n1, c1, rfl, HL1, h11, h12, hs1⟩ := ho1.nam
  have HE1 := Lib.hid hs1
  have hn1 : n1 ≤ 64 := by rw [← HL1.out]; exact HDl.out
  have HB1 := Lib.hid (HBd.out.trans (hb1.mono hszd))
  have HW1 := Lib.hid (HWd.out.trans (hb1.mono HWd.out.size))
  have hsz1 : wb.heap.size ≤ w1.heap.size := Nat.le_trans hszd hb1.size
  have HX01 := Lib.hid (HX0d.out.below hb1 (Nat.lt_of_lt_of_le hxx0 hszd))
  have HR1 := Lib.hid (HRd.out.now hb1)
  have HS1 := Lib.hid (HSd.out.now hb1)
  have HU1 := Lib.hid (HUd.out.now hb1)
  clear ho1 hs1 hb1 h0
  have h0 := HSS.out _ HB1.out
  refine ⟨_, rfl, h0, ?_⟩
  try simp only [Act.put, List.setIfInBounds_toArray, List.set_cons_zero, List.set_cons_succ]
  refine held_call 5 (some 10) 39 [(.tmp 7), (.tmp 9)] #[66, 42] #[.slice A1 n1 c1, .slice Ab nb cb] (by rfl) (by rfl) (by kernel_rfl) Try.func39 (by rfl) (by rfl) ?_
  refine (back_any A1 Ab n1 c1 nb cb (dnE rs runs) bs _ HE1.out HL1.out HS1.out (by omega) (by omega)).mono ?_
  rintro e w2 ⟨v2, out, rfl, ho2, hb2, hl2, hx2⟩
  have HO2 := Lib.hid (OwnI.mono ho2 HW1.out.size)
  have HX2' := Lib.hid hx2
  have HL2' := Lib.hid hl2
  have HB2 := Lib.hid (HB1.out.trans (hb2.mono hsz1))
  have HW2 := Lib.hid (HW1.out.trans (hb2.mono HW1.out.size))
  have hsz2 : wb.heap.size ≤ w2.heap.size := Nat.le_trans hsz1 hb2.size
  have HX02 := Lib.hid (HX01.out.below hb2 (Nat.lt_of_lt_of_le hxx0 hsz1))
  have HR2 := Lib.hid (HR1.out.now hb2)
  have HS2 := Lib.hid (HS1.out.now hb2)
  have HU2 := Lib.hid (HU1.out.now hb2)
  clear ho2 hx2 hl2 hb2 h0
  have h0 := HSS.out _ HB2.out
  refine ⟨_, rfl, h0, ?_⟩
  try simp only [Act.put, List.setIfInBounds_toArray, List.set_cons_zero, List.set_cons_succ]
  refine held_run 6 (some 4) (.assign (.tmp 10)) ?v1_27_34 (by rfl) (by kernel_rfl) (by kernel_rfl) (by kernel_rfl) (fun _ _ _ h => h) (fun o ho w hS => ?y1_27_34) (by assumption) ?r1_27_34
  case y1_27_34 => (try dsimp only at hS); unfold execOp; simp only [ho]; go_simp; try with_reducible rfl
  try simp only [Act.put, List.setIfInBounds_toArray, List.set_cons_zero, List.set_cons_succ]
  refine wpAnyH_done (by kernel_rfl) ?_ _
  go_wp2_with fail
  try go_ret
  exact HFin.out _ _ _ HO2.out HW2.out HL2'.out HX2'.out
end Go.Proofs.Ytihmboibpjfohaa
