/-
  Right of the reference and of route, and End, walked.
-/
import Derived.Test.YtbegehooefhiiaaRouA
import Derived.Test.YtbegehooefhiiaaReg
import Derived.Test.YtbegehooefhiiaaRegA
import Derived.Test.YtbegehooefhiiaaRegC
import Derived.BigQuiet
namespace Go.Proofs.Ytbegehooefhiiaa
open Go.RowKit

theorem Tks.front {w : World} {B n m : Nat} {A : Option Addr} {l : List Tk} (h : Tks w B A n l) (hm : m ≤ n) : Tks w B A m (l.take m) := by
  obtain ⟨zs, h1, h2, h3, h4⟩ := h
  refine ⟨zs.take m, by rw [List.length_take]; omega, by rw [List.length_take]; omega, ?_, fun i b z hb hz => ?_⟩
  · have hl : ((List.zipWith Tk.cells (l.take m) (zs.take m)).flatten).length = m * 4 := by
      have key : ∀ (rs : List (List Value)), (∀ r ∈ rs, r.length = 4) → rs.flatten.length = rs.length * 4 := by
        intro rs
        induction rs with
        | nil => intro _; rfl
        | cons r rs ih =>
          intro hr
          rw [List.flatten_cons, List.length_append, ih fun x hx => hr x (by simp [hx]), hr r (by simp), List.length_cons]
          omega
      rw [key _ (zip_len _ _), List.length_zipWith, List.length_take, List.length_take]
      have : min (min m l.length) (min m zs.length) = m := by omega
      rw [this]
    refine ⟨hl, fun hpos => ?_⟩
    obtain ⟨ad, e, hb, hc⟩ := h3.2 (by omega)
    refine ⟨ad, e, hb, fun j u hu => hc j u ?_⟩
    have hj := (List.getElem?_eq_some_iff.1 hu).1
    rw [hl] at hj
    have ej : j = j / 4 * 4 + j % 4 := by omega
    rw [ej] at hu ⊢
    rw [flat_at 4 _ (zip_len _ _) (j / 4) (j % 4) (by omega), List.getElem?_zipWith] at hu ⊢
    rw [List.getElem?_take, if_pos (by omega), List.getElem?_take, if_pos (by omega)] at hu
    exact hu
  · rw [List.getElem?_take] at hb hz
    split at hb
    · rename_i hi
      rw [if_pos hi] at hz
      exact h4 i b z hb hz
    · cases hb
theorem runsT_take (ts : List Tk) (k : Nat) : runsT (ts.take k) = (runsT ts).take k := by unfold runsT; rw [List.map_take]
/-- an error, and what its absence says -/
def ErrR (p : Prop) (w : World) (e : Ending) (w' : World) : Prop := ∃ r : Int, e = .returned (.int .i64 r) ∧ (r = 0 → p) ∧ Below w.heap.size w w'
theorem errR_no {p : Prop} {r : Int} {w w' : World} (h : r ≠ 0) (hb : Below w.heap.size w w') : ErrR p w (.returned (.int .i64 r)) w' := ⟨r, rfl, fun h0 => absurd h0 h, hb⟩
theorem errR_ok {p : Prop} {r : Int} {w w' : World} (h : p) (hb : Below w.heap.size w w') : ErrR p w (.returned (.int .i64 r)) w' := ⟨r, rfl, fun _ => h, hb⟩
theorem bool_take {l : List Bool} {k : Nat} (h : k < l.length) : (l.take (k + 1)).contains true = ((l.take k).contains true || l.getD k false) := by
  rw [List.take_succ_eq_append_getElem h]
  rw [Bool.eq_iff_iff]
  simp only [List.contains_iff_mem, List.mem_append, List.mem_singleton, Bool.or_eq_true, show l.getD k false = l[k] by simp [List.getElem?_eq_getElem h]]
  exact ⟨fun h => h.imp id Eq.symm, fun h => h.imp id Eq.symm⟩
structure TaI (ts : List Tk) (any : Bool) (k : Nat) : Prop where
  each : ∀ j, j < k → (1 ≤ (ts.getD j tk0).run ∧ (ts.getD j tk0).run ≤ 9999) ∧ (1 ≤ (ts.getD j tk0).sec ∧ (ts.getD j tk0).sec ≤ 86400) ∧ (ts.getD j tk0).cl.length ≤ 6
  new : ∀ j, j < k → ∀ i, i < j → (ts.getD i tk0).run ≠ (ts.getD j tk0).run
  win : ∀ j, j < k → (ts.getD j tk0).win = true → any = true
theorem TaI.start (ts : List Tk) (any : Bool) : TaI ts any 0 := ⟨fun j hj => by omega, fun j hj => by omega, fun j hj => by omega⟩
theorem TaI.step {ts : List Tk} {any : Bool} {k : Nat} (h : TaI ts any k) (h1 : (1 ≤ (ts.getD k tk0).run ∧ (ts.getD k tk0).run ≤ 9999) ∧ (1 ≤ (ts.getD k tk0).sec ∧ (ts.getD k tk0).sec ≤ 86400) ∧ (ts.getD k tk0).cl.length ≤ 6) (h2 : ∀ i, i < k → (ts.getD i tk0).run ≠ (ts.getD k tk0).run) (h3 : (ts.getD k tk0).win = true → any = true) : TaI ts any (k + 1) := by
  have key : ∀ j, j < k + 1 → j < k ∨ j = k := fun j hj => by omega
  refine ⟨fun j hj => ?_, fun j hj => ?_, fun j hj => ?_⟩
  · rcases key j hj with h4 | rfl
    · exact h.each j h4
    · exact h1
  · rcases key j hj with h4 | rfl
    · exact h.new j h4
    · exact h2
  · rcases key j hj with h4 | rfl
    · exact h.win j h4
    · exact h3
theorem TaI.done {ts : List Tk} {ws : List Bool} (h : TaI ts (ws.contains true) ts.length) (h1 : ts.length ≤ 6) (h2 : 1 ≤ ws.length ∧ ws.length ≤ 3) : RtOK ts ws := by
  have at_ : ∀ t ∈ ts, ∃ j, j < ts.length ∧ ts.getD j tk0 = t := fun t ht => by
    obtain ⟨j, hj, rfl⟩ := List.getElem_of_mem ht
    exact ⟨j, hj, by simp [List.getElem?_eq_getElem hj]⟩
  refine ⟨h1, h2, fun t ht => ?_, ?_, fun t ht hw => ?_⟩
  · obtain ⟨j, hj, rfl⟩ := at_ t ht
    exact h.each j hj
  · unfold runsT
    rw [List.nodup_iff_pairwise_ne, List.pairwise_iff_getElem]
    intro i j hi hj hij
    rw [List.length_map] at hi hj
    have := h.new j hj i hij
    simpa [List.getElem?_eq_getElem hi, List.getElem?_eq_getElem hj] using this
  · obtain ⟨j, hj, rfl⟩ := at_ t ht
    have := h.win j hj hw
    rwa [List.contains_iff_mem] at this

set_option maxRecDepth 100000 in
set_option maxHeartbeats 8000000 in
theorem rright_any (A B : Option Addr) (n c nw cw : Nat) (ts : List Tk) (ws : List Bool) (w : World) (hr : Tks w w.heap.size A n ts) (hw : Bools w w.heap.size B nw ws) (hn : n ≤ maxLen) (hnw : nw ≤ maxLen) :
    Calls Try.prog 5 #[.slice A n c, .slice B nw cw] w (ErrR (RtOK ts ws) w) := by
  simp only [maxLen] at hn hnw
  have HR := Lib.hid hr
  have HW := Lib.hid hw
  have HL := Lib.hid hr.len
  have HWl := Lib.hid hw.boolen
  have HNo : Hid (∀ (r : Int) w', r ≠ 0 → Below w.heap.size w w' → ErrR (RtOK ts ws) w (.returned (.int .i64 r)) w') := fun r w' h1 h2 => errR_no h1 h2
  have HYes : Hid (∀ w', TaI ts (ws.contains true) n → n ≤ 6 → 1 ≤ nw ∧ nw ≤ 3 → Below w.heap.size w w' → ErrR (RtOK ts ws) w (.returned (.int .i64 0)) w') := fun w' h1 h2 h3 h4 => errR_ok (TaI.done (by rw [HL.out]; exact h1) (by rw [HL.out]; exact h2) (by rw [HWl.out]; exact h3)) h4
  generalize ErrR (RtOK ts ws) w = RR at *
  clear hr hw
  go_enter Try.func5, Try.ntmps5
  by_cases h1 : 6 < n
  · have d1 : decide ((n : Int) > 6) = true := decide_eq_true (by omega)
    go_wp2_with fail
    try go_ret
    exact HNo.out _ _ (by decide) (Below.refl _ _)
  have d1 : decide ((n : Int) > 6) = false := decide_eq_false (by omega)
  by_cases h2 : 3 < nw
  · have d2 : decide ((nw : Int) > 3) = true := decide_eq_true (by omega)
    go_wp2_with fail
    try go_ret
    exact HNo.out _ _ (by decide) (Below.refl _ _)
  have d2 : decide ((nw : Int) > 3) = false := decide_eq_false (by omega)
  by_cases h3 : nw = 0
  · have d3 : ((nw : Int) == 0) = true := beq_iff_eq.2 (by omega)
    go_wp2_with fail
    try go_ret
    exact HNo.out _ _ (by decide) (Below.refl _ _)
  have d3 : ((nw : Int) == 0) = false := beq_eq_false_iff_ne.2 (by omega)
  go_wp2_with fail
  go_loopw [5, 6] (fun a i wr => ∃ (k : Nat) (b : Bool), k ≤ nw ∧ i = .int .i64 k ∧ a = .bool b ∧ b = (ws.take k).contains true ∧ Below w.heap.size w wr) (fun _ i _ => nw - (intOf i).toNat)
  case atStart => exact ⟨0, false, by omega, rfl, rfl, rfl, Below.refl _ _⟩
  case round =>
    obtain ⟨k, b, hk, rfl, rfl, hb, hbr⟩ := hrel
    obtain ⟨wo, rfl⟩ : ∃ wo : World, wo = wr := ⟨_, rfl⟩
    have HB := Lib.hid hbr
    have HBb := Lib.hid hb
    clear hb hbr
    by_cases hlt : k < nw
    · obtain ⟨ad, rfl, hab, hc⟩ := (HW.out.now HB.out).bool hlt
      have HN : Hid ((ws.take (k + 1)).contains true = (b || ws.getD k false)) := hide (by rw [bool_take (by rw [HWl.out]; exact hlt), ← HBb.out])
      generalize ws.getD k false = x at *
      cases b with
      | true =>
        go_wp2_with fail
        go_roundw
        case rel => exact ⟨k + 1, true, by omega, by go_num, rfl, by rw [HN.out]; rfl, HB.out⟩
        case measure => simp [intOf]; omega
      | false =>
        go_wp2_with fail
        go_roundw
        case rel => exact ⟨k + 1, x, by omega, by go_num, rfl, by rw [HN.out]; rfl, HB.out⟩
        case measure => simp [intOf]; omega
    · obtain rfl : k = nw := by omega
      have HAny : Hid (b = ws.contains true) := hide (by rw [HBb.out, List.take_of_length_le (by rw [HWl.out]; exact Nat.le_refl _)])
      clear d1 d2 d3
      rw [← HAny.out] at HYes
      clear HBb
      go_wp2_with fail
      go_loopw [7] (fun i wr => ∃ q : Nat, q ≤ n ∧ i = .int .i64 q ∧ TaI ts b q ∧ Below w.heap.size w wr) (fun i _ => n - (intOf i).toNat)
      case atStart => exact ⟨0, by omega, rfl, TaI.start _ _, HB.out⟩
      case round =>
        clear HB
        obtain ⟨q, hq, rfl, hI, hbr⟩ := hrel
        obtain ⟨wo, rfl⟩ : ∃ wo : World, wo = wr := ⟨_, rfl⟩
        have HB := Lib.hid hbr
        have HI := Lib.hid hI
        clear hI hbr
        by_cases hlt2 : q < n
        · have hRo := HR.out.now HB.out
          obtain ⟨ad, z, rfl, hab, hcl, hz⟩ := hRo.at_ hlt2
          have HAll : Hid (∀ i, i < q → (wo.cell? (ad.add (i * 4)) = some (.int .i64 (ts.getD i tk0).run))) := fun i hi => by
            obtain ⟨ad', z', e, _, hcl', _⟩ := hRo.at_ (show i < n by omega)
            injection e with e
            subst e
            have h := hcl' 0 _ rfl
            rwa [add_of_add, Nat.add_zero] at h
          have HN : Hid ((1 ≤ (ts.getD q tk0).run ∧ (ts.getD q tk0).run ≤ 9999) ∧ (1 ≤ (ts.getD q tk0).sec ∧ (ts.getD q tk0).sec ≤ 86400) ∧ (ts.getD q tk0).cl.length ≤ 6 → (∀ i, i < q → (ts.getD i tk0).run ≠ (ts.getD q tk0).run) → ((ts.getD q tk0).win = true → b = true) → TaI ts b (q + 1)) := fun h1 h2 h3 => HI.out.step h1 h2 h3
          obtain ⟨⟨run, sec, win, cl⟩, ht⟩ : ∃ t, ts.getD q tk0 = t := ⟨_, rfl⟩
          rw [ht] at hcl hz HN
          simp only at hz HN
          obtain ⟨Ac, nc, cc, rfl, HLc, _, hcm, _⟩ := hz.nam
          simp only [maxLen] at hcm
          have c0 : wo.cell? (ad.add (q * 4)) = some (.int .i64 run) := by have h := hcl 0 _ rfl; rwa [add_of_add, Nat.add_zero] at h
          have c1 : wo.cell? ⟨(ad.add (q * 4)).block, (ad.add (q * 4)).off + 1, none⟩ = some (.int .i64 sec) := hcl 1 _ rfl
          have c2 : wo.cell? ⟨(ad.add (q * 4)).block, (ad.add (q * 4)).off + 2, none⟩ = some (.bool win) := hcl 2 _ rfl
          have c3 : wo.cell? ⟨(ad.add (q * 4)).block, (ad.add (q * 4)).off + 3, none⟩ = some (.slice Ac nc cc) := hcl 3 _ rfl
          rw [HLc.out] at HN
          clear hcl hz ht hRo
          by_cases e1 : run < 1
          · have d1 : decide (run < 1) = true := decide_eq_true e1
            go_wp2_with fail
            try go_ret
            exact HNo.out _ _ (by decide) HB.out
          have d1 : decide (run < 1) = false := decide_eq_false e1
          by_cases e2 : 9999 < run
          · have d2 : decide (run > 9999) = true := decide_eq_true e2
            go_wp2_with fail
            try go_ret
            exact HNo.out _ _ (by decide) HB.out
          have d2 : decide (run > 9999) = false := decide_eq_false e2
          by_cases e3 : sec < 1
          · have d3 : decide (sec < 1) = true := decide_eq_true e3
            go_wp2_with fail
            try go_ret
            exact HNo.out _ _ (by decide) HB.out
          have d3 : decide (sec < 1) = false := decide_eq_false e3
          by_cases e4 : 86400 < sec
          · have d4 : decide (sec > 86400) = true := decide_eq_true e4
            go_wp2_with fail
            try go_ret
            exact HNo.out _ _ (by decide) HB.out
          have d4 : decide (sec > 86400) = false := decide_eq_false e4
          by_cases e5 : 6 < nc
          · have d5 : decide ((nc : Int) > 6) = true := decide_eq_true (by omega)
            go_wp2_with fail
            try go_ret
            exact HNo.out _ _ (by decide) HB.out
          have d5 : decide ((nc : Int) > 6) = false := decide_eq_false (by omega)
          have HN2 := Lib.hid (HN.out ⟨by omega, by omega, by omega⟩)
          clear HN HI
          go_wp2_with fail
          clear d1 d2 d3 d4 d5 c1 c3
          go_loopw [8] (fun i wr => ∃ k : Nat, k ≤ q ∧ i = .int .i64 k ∧ (∀ j, j < k → (ts.getD j tk0).run ≠ run) ∧ Below wo.heap.size wo wr) (fun i _ => q - (intOf i).toNat)
          case atStart => exact ⟨0, by omega, rfl, fun j hj => by omega, Below.refl _ _⟩
          case round =>
            obtain ⟨k, hk, rfl, hne, hbr⟩ := hrel
            obtain ⟨wi, rfl⟩ : ∃ wi : World, wi = wr := ⟨_, rfl⟩
            have HBi := Lib.hid (HB.out.trans (hbr.mono HB.out.size))
            have HNe := Lib.hid hne
            have HBr := Lib.hid hbr
            have hcq := (hbr.cell (p := ad.add (q * 4)) (by rw [block_of_add]; exact hab)).trans c0
            have hc2 := (hbr.cell (p := ⟨(ad.add (q * 4)).block, (ad.add (q * 4)).off + 2, none⟩) (by show (ad.add (q * 4)).block < _; rw [block_of_add]; exact hab)).trans c2
            by_cases hlt3 : k < q
            · have hck := (hbr.cell (p := ad.add (k * 4)) (by rw [block_of_add]; exact hab)).trans (HAll.out k hlt3)
              have HNk : Hid ((ts.getD k tk0).run ≠ run → ∀ j, j < k + 1 → (ts.getD j tk0).run ≠ run) := fun h j hj => by
                rcases Nat.lt_or_ge j k with h1 | h1
                · exact HNe.out j h1
                · obtain rfl : j = k := by omega
                  exact h
              generalize (ts.getD k tk0).run = y at *
              clear hne hbr c0 c2
              by_cases hy : y = run
              · have d6 : (y == run) = true := beq_iff_eq.2 hy
                clear hy
                go_upto_region 18 with (fail)
                go_quiet (fail)
                go_wp2_with fail
                try go_ret
                exact HNo.out _ _ (by decide) (below_drewN HBi.out _)
              · have d6 : (y == run) = false := beq_eq_false_iff_ne.2 hy
                have HNy := Lib.hid (HNk.out hy)
                clear hy
                go_upto_region 18 with (fail)
                go_quiet (fail)
                go_wp2_with fail
                go_roundw
                case rel => exact ⟨k + 1, by omega, by go_num, HNy.out, below_drewN HBr.out _⟩
                case measure => simp [intOf]; omega
            · obtain rfl : k = q := by omega
              clear hne hbr c0 c2
              by_cases hwn : win = true ∧ b = false
              · obtain ⟨rfl, rfl⟩ := hwn
                go_wp2_with fail
                try go_ret
                exact HNo.out _ _ (by decide) HBi.out
              · have HI3 := Lib.hid (HN2.out HNe.out (fun h => by
                  cases hb' : b with
                  | true => rfl
                  | false => exact absurd ⟨h, hb'⟩ hwn))
                cases win <;> cases b <;> first
                  | (exact absurd ⟨rfl, rfl⟩ hwn)
                  | (clear hwn
                     go_wp2_with fail
                     go_roundw
                     case rel => exact ⟨k + 1, by omega, by go_num, HI3.out, HBi.out⟩
                     case measure => simp [intOf]; omega)
        · obtain rfl : q = n := by omega
          go_wp2_with fail
          try go_ret
          exact HYes.out _ HI.out (by omega) (by omega) HB.out

/-! ### Right of route, for what is right -/
def idxB (x : Bool) : List Bool → Nat → Int
  | [], _ => -1
  | y :: l, k => if x = y then (k : Int) else idxB x l (k + 1)
theorem idxB_at {x : Bool} {l : List Bool} {k : Nat} (h : k < l.length) : idxB x (l.drop k) k = if x = l.getD k false then (k : Int) else idxB x (l.drop (k + 1)) (k + 1) := by
  rw [List.drop_eq_getElem_cons h, idxB]
  simp [List.getElem?_eq_getElem h]
theorem idxB_has (x : Bool) : ∀ (l : List Bool) (k : Nat), decide (0 ≤ idxB x l k) = l.contains x
  | [], _ => rfl
  | y :: l, k => by
    rw [idxB, List.contains_cons]
    by_cases h : x = y
    · rw [if_pos h]; subst h; simp
    · rw [if_neg h, idxB_has x l (k + 1)]
      have : (x == y) = false := beq_eq_false_iff_ne.2 h
      rw [this]
      rfl
set_option maxRecDepth 100000 in
set_option maxHeartbeats 4000000 in
theorem bindex_any (A : Option Addr) (n c : Nat) (l : List Bool) (x : Bool) (w : World) (hr : Bools w w.heap.size A n l) (hn : n ≤ maxLen) :
    Calls Try.prog 30 #[.slice A n c, .bool x] w fun e w' => e = .returned (.int .i64 (idxB x l 0)) ∧ w = w' := by
  simp only [maxLen] at hn
  have HR := Lib.hid hr
  have HL := Lib.hid hr.boolen
  obtain ⟨R, hR⟩ : ∃ R, idxB x l 0 = R := ⟨_, rfl⟩
  have HF0 : Hid (idxB x (l.drop 0) 0 = R) := hide (by rw [List.drop_zero]; exact hR)
  rw [hR]
  clear hr hR
  go_enter Try.func30, Try.ntmps30
  go_wp2_with fail
  go_loop [8] (fun i => ∃ k : Nat, k ≤ n ∧ i = .int .i64 k ∧ idxB x (l.drop k) k = R) (fun i => n - (intOf i).toNat)
  case atStart => exact ⟨0, by omega, rfl, HF0.out⟩
  case round =>
    obtain ⟨k, hk, rfl, hF⟩ := hrel
    have HF := Lib.hid hF
    clear hF
    by_cases hlt : k < n
    · obtain ⟨ad, rfl, hab, hc⟩ := HR.out.bool hlt
      have hf1 := HF.out.symm.trans (idxB_at (x := x) (show k < l.length by rw [HL.out]; exact hlt))
      have HF1 := Lib.hid hf1.symm
      generalize l.getD k false = y at *
      clear hf1
      by_cases hxy : x = y
      · have d1 : (x == y) = true := beq_iff_eq.2 hxy
        have HR2 : Hid ((k : Int) = R) := by have h := HF1.out; rw [if_pos hxy] at h; exact h
        clear hxy
        go_wp2_with fail
        go_ret
        exact ⟨ret_i HR2.out, rfl⟩
      · have d1 : (x == y) = false := beq_eq_false_iff_ne.2 hxy
        have HR2 : Hid (idxB x (l.drop (k + 1)) (k + 1) = R) := by have h := HF1.out; rw [if_neg hxy] at h; exact h
        clear hxy
        go_wp2_with fail
        go_round
        case rel => exact ⟨k + 1, by omega, by go_num, HR2.out⟩
        case measure => simp [intOf]; omega
    · obtain rfl : k = n := by omega
      have HR2 : Hid ((-1 : Int) = R) := by have h := HF.out; rw [List.drop_of_length_le (by rw [HL.out]; exact Nat.le_refl _)] at h; exact h
      go_wp2_with fail
      go_ret
      exact ⟨ret_i HR2.out, rfl⟩
set_option maxRecDepth 100000 in
theorem bcont_any (A : Option Addr) (n c : Nat) (l : List Bool) (x b : Bool) (w : World) (hr : Bools w w.heap.size A n l) (hn : n ≤ maxLen) (hb : l.contains x = b) :
    Calls Try.prog 23 #[.slice A n c, .bool x] w fun e w' => e = .returned (.bool b) ∧ w = w' := by
  have HB : Hid (decide (0 ≤ idxB x l 0) = b) := hide (by rw [← hb]; exact idxB_has x l 0)
  have HC := Lib.hid (bindex_any A n c l x w hr hn)
  clear hb hr
  generalize idxB x l 0 = r at *
  go_enter Try.func23, Try.ntmps23
  go_wp2_with fail
  with_reducible refine HC.out.mono ?_
  rintro e w' ⟨rfl, rfl⟩
  go_wp2_with fail
  go_ret
  exact ⟨ret_bo HB.out, rfl⟩
theorem ind_none {l : List Int} {x : Int} (h : x ∉ l) : indI l x = -1 := by
  rcases indI_spec l x with ⟨h1, _⟩ | ⟨i, h1, _, h3⟩
  · exact h1
  · exact absurd (by rw [← h3]; simp [List.getElem?_eq_getElem h1]) h
theorem RtOK.fresh {ts : List Tk} {ws : List Bool} (h : RtOK ts ws) {k : Nat} (hk : k < ts.length) : indI (runsT (ts.take k)) (ts.getD k tk0).run = -1 := by
  refine ind_none fun hm => ?_
  rw [runsT_take] at hm
  obtain ⟨i, hi, he⟩ := List.getElem_of_mem hm
  rw [List.length_take] at hi
  have hl : (runsT ts).length = ts.length := by unfold runsT; rw [List.length_map]
  have e1 : (runsT ts)[i]'(by omega) = (runsT ts)[k]'(by omega) := by
    rw [List.getElem_take] at he
    rw [he]
    simp [runsT, List.getElem?_eq_getElem hk]
  have := (List.getElem_inj h.nd).1 e1
  omega

set_option maxRecDepth 100000 in
set_option maxHeartbeats 8000000 in
theorem right_any (A B : Option Addr) (n c nw cw : Nat) (ts : List Tk) (ws : List Bool) (w : World) (hr : Tks w w.heap.size A n ts) (hw : Bools w w.heap.size B nw ws) (hc : n ≤ c) (hc2 : c ≤ maxLen) (hok : RtOK ts ws) :
    Calls Try.prog 12 #[.slice A n c, .slice B nw cw] w fun e w' => e = .returned (.int .i64 0) ∧ Below w.heap.size w w' := by
  have HR := Lib.hid hr
  have HW := Lib.hid hw
  have HL := Lib.hid hr.len
  have hn6 : n ≤ 6 := by rw [← hr.len]; exact hok.l1
  have hw1 : 1 ≤ nw ∧ nw ≤ 3 := by rw [← hw.boolen]; exact hok.l2
  obtain ⟨any, hany⟩ : ∃ b, ws.contains true = b := ⟨_, rfl⟩
  have HAny := Lib.hid hany
  have HEa : Hid (∀ k, k < n → (1 ≤ (ts.getD k tk0).run ∧ (ts.getD k tk0).run ≤ 9999) ∧ (1 ≤ (ts.getD k tk0).sec ∧ (ts.getD k tk0).sec ≤ 86400) ∧ (ts.getD k tk0).cl.length ≤ 6) := fun k hk => hok.each _ (tk_mem (by rw [hr.len]; exact hk))
  have HWi : Hid (∀ k, k < n → (ts.getD k tk0).win = true → any = true) := fun k hk h => by
    have := hok.win _ (tk_mem (by rw [hr.len]; exact hk)) h
    rw [← hany, List.contains_iff_mem]
    exact this
  have HFr : Hid (∀ k, k < n → indI (runsT (ts.take k)) (ts.getD k tk0).run = -1) := fun k hk => hok.fresh (by rw [hr.len]; exact hk)
  have HFi : Hid (∀ (k : Nat) (x r : Int) (W : World), k ≤ n → Tks W W.heap.size A n ts → indI (runsT (ts.take k)) x = r → Calls Try.prog 15 #[.slice A k c, .int .i64 x] W fun e w' => e = .returned (.int .i64 r) ∧ Below W.heap.size W w') := fun k x r W hk h h2 => by
    rw [← h2]
    exact rfind_any A k c (ts.take k) x W (h.front hk) (by omega)
  simp only [maxLen] at hc2
  clear hr hw hok hany
  have q1 : decide ((n : Int) > 6) = false := decide_eq_false (by omega)
  have q2 : decide ((nw : Int) > 3) = false := decide_eq_false (by omega)
  have q3 : ((nw : Int) == 0) = false := beq_eq_false_iff_ne.2 (by omega)
  go_enter Try.func12, Try.ntmps12
  go_wp2_with fail
  go_loopw [20] (fun i wr => ∃ k : Nat, k ≤ n ∧ i = .int .i64 k ∧ Below w.heap.size w wr) (fun i _ => n - (intOf i).toNat)
  case atStart => exact ⟨0, by omega, rfl, Below.refl _ _⟩
  case round =>
    obtain ⟨k, hk, rfl, hbr⟩ := hrel
    obtain ⟨wo, rfl⟩ : ∃ wo : World, wo = wr := ⟨_, rfl⟩
    have HB := Lib.hid hbr
    clear hbr
    by_cases hlt : k < n
    · obtain ⟨ad, z, rfl, hab, hcl, hz⟩ := (HR.out.now HB.out).at_ hlt
      have hea := HEa.out k hlt
      have hwi := HWi.out k hlt
      have HFk := Lib.hid (HFr.out k hlt)
      generalize ts.getD k tk0 = t at *
      obtain ⟨run, sec, win, cl⟩ := t
      simp only at hea hwi hz HFk
      obtain ⟨Ac, nc, cc, rfl, HLc, _, hcm, _⟩ := hz.nam
      rw [HLc.out] at hea
      simp only [maxLen] at hcm
      have HCl : Hid (∀ i u, ([.int .i64 run, .int .i64 sec, .bool win, .slice Ac nc cc] : List Value)[i]? = some u → wo.cell? ((ad.add (k * 4)).add i) = some u) := hcl
      clear hcl hz
      go_upto_region 8 with (refine wpList_load_at 34 (.tmp 23) rfl rfl (ad.add (k * 4)) rfl [.int .i64 run, .int .i64 sec, .bool win, .slice Ac nc cc] HCl.out _ Try.underlying34 rfl (by kernel_rfl) ?_)
      have HBw3 := (Blk.new wo 34 #[.int .i64 run, .int .i64 sec, .bool win, .slice Ac nc cc])
      have HLw3 := (below_new wo (.cells #[.int .i64 run, .int .i64 sec, .bool win, .slice Ac nc cc] 34))
      have hsw3 : (wo.alloc (.cells #[.int .i64 run, .int .i64 sec, .bool win, .slice Ac nc cc] 34)).heap.size = wo.heap.size + 1 := by simp
      generalize wo.alloc (.cells #[.int .i64 run, .int .i64 sec, .bool win, .slice Ac nc cc] 34) = w3 at HBw3 HLw3 hsw3 ⊢
      replace HBw3 := Lib.hid HBw3
      replace HLw3 := Lib.hid HLw3
      have hlw3 : wo.heap.size < w3.heap.size := by omega
      replace hsw3 := Lib.hid hsw3
      have HB3 := Lib.hid (HB.out.trans (HLw3.out.mono HB.out.size))
      have HX3 := HBw3
      have hx3 := hlw3
      clear HBw3 HLw3 hsw3 hlw3
      have y0 : w3.cell? ⟨wo.heap.size, 0, none⟩ = some (.int .i64 run) := HX3.out.cell 0
      have y1 : w3.cell? ⟨wo.heap.size, 1, none⟩ = some (.int .i64 sec) := HX3.out.cell 1
      have y2 : w3.cell? ⟨wo.heap.size, 2, none⟩ = some (.bool win) := HX3.out.cell 2
      have y3 : w3.cell? ⟨wo.heap.size, 3, none⟩ = some (.slice Ac nc cc) := HX3.out.cell 3
      obtain ⟨⟨e1, e2⟩, ⟨e3, e4⟩, e5⟩ := hea
      have d1 : decide (run < 1) = false := decide_eq_false (by omega)
      have d2 : decide (run > 9999) = false := decide_eq_false (by omega)
      have d3 : decide (sec < 1) = false := decide_eq_false (by omega)
      have d4 : decide (sec > 86400) = false := decide_eq_false (by omega)
      have d5 : decide ((nc : Int) > 6) = false := decide_eq_false (by omega)
      go_upto_region 10 with (fail)
      clear d1 d2 d3 d4 d5 y1 y2 y3
      have HSS : Hid (∀ W, Below w3.heap.size w3 W → (fun W => W.cell? ⟨wo.heap.size, 0, none⟩ = some (.int .i64 run)) W) := fun W hb => (HX3.out.below hb hx3).cell 0
      have HBd : Hid (Below w3.heap.size w3 w3.drew) := hide (Below.refl _ _).drew
      have h0 := HSS.out _ HBd.out
      have hkc : (k : Int) ≤ (c : Int) := by omega
      refine wp_region_held_drew (S := fun W => W.cell? ⟨wo.heap.size, 0, none⟩ = some (.int .i64 run)) (by kernel_rfl) (h0) (fun hHeld => ?_)
      refine held_run 0 (some 49) (.move (.tmp 0)) ?v10_1_2 (by rfl) (by kernel_rfl) (by kernel_rfl) (by kernel_rfl) (fun _ _ _ h => h) (fun o ho w hS => ?y10_1_2) (by assumption) ?r10_1_2
      case y10_1_2 => (try dsimp only at hS); unfold execOp; simp only [ho]; go_simp; try with_reducible rfl
      try simp only [Act.put, List.setIfInBounds_toArray, List.set_cons_zero, List.set_cons_succ]
      refine held_run 1 (some 50) (.move (.tmp 5)) ?v10_1_3 (by rfl) (by kernel_rfl) (by kernel_rfl) (by kernel_rfl) (fun _ _ _ h => h) (fun o ho w hS => ?y10_1_3) (by assumption) ?r10_1_3
      case y10_1_3 => (try dsimp only at hS); unfold execOp; simp only [ho]; go_simp; try with_reducible rfl
      try simp only [Act.put, List.setIfInBounds_toArray, List.set_cons_zero, List.set_cons_succ]
      refine held_run 2 (some 51) (.slice 22 (.tmp 49) none (some (.tmp 50)) none) ?v10_1_4 (by rfl) (by kernel_rfl) (by kernel_rfl) (by kernel_rfl) (fun _ _ _ h => h) (fun o ho w hS => ?y10_1_4) (by assumption) ?r10_1_4
      case y10_1_4 => (try dsimp only at hS); unfold execOp; simp only [ho]; go_simp; try with_reducible rfl
      try simp only [Act.put, List.setIfInBounds_toArray, List.set_cons_zero, List.set_cons_succ]
      refine held_run 3 (some 52) (.fieldAddr 34 (.tmp 6) 0) ?v10_1_5 (by rfl) (by kernel_rfl) (by kernel_rfl) (by kernel_rfl) (fun _ _ _ h => h) (fun o ho w hS => ?y10_1_5) (by assumption) ?r10_1_5
      case y10_1_5 => (try dsimp only at hS); unfold execOp; simp only [ho]; go_simp; try with_reducible rfl
      try simp only [Act.put, List.setIfInBounds_toArray, List.set_cons_zero, List.set_cons_succ]
      refine held_run 4 (some 53) (.load 3 (.tmp 52)) ?v10_1_6 (by rfl) (by kernel_rfl) (by kernel_rfl) (by kernel_rfl) (fun _ _ _ h => h) (fun o ho w hS => ?y10_1_6) (by assumption) ?r10_1_6
      case y10_1_6 => (try dsimp only at hS); unfold execOp; simp only [ho]; go_simp; try with_reducible rfl
      try simp only [Act.put, List.setIfInBounds_toArray, List.set_cons_zero, List.set_cons_succ]
      refine held_call 5 (some 54) 15 [(.tmp 51), (.tmp 53)] #[22, 3] #[.slice (some ad) k c, .int .i64 run] (by rfl) (by rfl) (by kernel_rfl) Try.func15 (by rfl) (by rfl) ?_
      refine (HFi.out k run (-1) _ hk (HR.out.now (HB3.out.trans (HBd.out.mono HB3.out.size))) HFk.out).mono ?_
      rintro e w4 ⟨rfl, hb⟩
      have hcut := HBd.out.trans hb
      have HB4 := Lib.hid (HB3.out.trans (hcut.mono HB3.out.size))
      have y2 : w4.cell? ⟨wo.heap.size, 2, none⟩ = some (.bool win) := (HX3.out.below hcut hx3).cell 2
      have HW4 := Lib.hid (HW.out.now HB4.out)
      clear hb h0
      have h0 := HSS.out _ hcut
      clear hcut
      refine ⟨_, rfl, h0, ?_⟩
      try simp only [Act.put, List.setIfInBounds_toArray, List.set_cons_zero, List.set_cons_succ]
      refine held_run 6 (some 55) (.binOp .geq 3 (.tmp 54) (.const (.int .i64 0)) 3) ?v10_1_8 (by rfl) (by kernel_rfl) (by kernel_rfl) (by kernel_rfl) (fun _ _ _ h => h) (fun o ho w hS => ?y10_1_8) (by assumption) ?r10_1_8
      case y10_1_8 => (try dsimp only at hS); unfold execOp; simp only [ho]; go_simp; try with_reducible rfl
      try simp only [Act.put, List.setIfInBounds_toArray, List.set_cons_zero, List.set_cons_succ]
      refine wpAnyH_done (by kernel_rfl) ?_ _
      clear h0 HSS HBd y0 hkc
      cases win with
      | false =>
        go_wp2_with fail
        go_roundw
        case rel => exact ⟨k + 1, by omega, by go_num, HB4.out⟩
        case measure => simp [intOf]; omega
      | true =>
        have ha : any = true := hwi rfl
        go_wp2_with fail
        with_reducible refine (bcont_any B nw cw ws true true w4 HW4.out (by simp only [maxLen]; omega) (HAny.out.trans ha)).mono ?_
        rintro e w' ⟨rfl, rfl⟩
        go_wp2_with fail
        go_roundw
        case rel => exact ⟨k + 1, by omega, by go_num, HB4.out⟩
        case measure => simp [intOf]; omega
    · obtain rfl : k = n := by omega
      go_wp2_with fail
      go_ret
      exact ⟨rfl, HB.out⟩

/-! ### End -/
theorem endP_start (l : List Sh) : EndP (l.take 0) 0 := ⟨fun i hi => by simp at hi, .inl ⟨rfl, rfl⟩⟩
theorem sh_take {l : List Sh} {k i : Nat} (hi : i < k) : (l.take k).getD i sh0 = l.getD i sh0 := by
  rw [List.getD_eq_getElem?_getD, List.getD_eq_getElem?_getD, List.getElem?_take, if_pos hi]
theorem endP_yes {l : List Sh} {k : Nat} {t : Int} (h : EndP (l.take k) t) (hk : k < l.length) (hc : k = 0 ∨ t < (l.getD k sh0).tt) : EndP (l.take (k + 1)) (l.getD k sh0).tt := by
  have hl : (l.take (k + 1)).length = k + 1 := by rw [List.length_take]; omega
  have hl0 : (l.take k).length = k := by rw [List.length_take]; omega
  refine ⟨fun i hi => ?_, .inr ⟨k, by omega, by rw [sh_take (by omega)]⟩⟩
  rw [hl] at hi
  rw [sh_take hi]
  rcases Nat.lt_or_ge i k with h1 | h1
  · have h2 := h.1 i (by omega)
    rw [sh_take h1] at h2
    rcases hc with hc | hc
    · omega
    · omega
  · obtain rfl : i = k := by omega
    exact Int.le_refl _
theorem endP_no {l : List Sh} {k : Nat} {t : Int} (h : EndP (l.take k) t) (hk : k < l.length) (h0 : k ≠ 0) (hc : ¬ t < (l.getD k sh0).tt) : EndP (l.take (k + 1)) t := by
  have hl : (l.take (k + 1)).length = k + 1 := by rw [List.length_take]; omega
  have hl0 : (l.take k).length = k := by rw [List.length_take]; omega
  refine ⟨fun i hi => ?_, ?_⟩
  · rw [hl] at hi
    rw [sh_take hi]
    rcases Nat.lt_or_ge i k with h1 | h1
    · have h2 := h.1 i (by omega)
      rwa [sh_take h1] at h2
    · obtain rfl : i = k := by omega
      omega
  · rcases h.2 with ⟨h1, _⟩ | ⟨i, h1, h2⟩
    · omega
    · rw [hl0] at h1
      rw [sh_take h1] at h2
      exact .inr ⟨i, by omega, by rw [sh_take (by omega)]; exact h2⟩
def EndR (l : List Sh) (w : World) (e : Ending) (w' : World) : Prop := ∃ r : Int, e = .returned (.int .i64 r) ∧ EndP l r ∧ Below w.heap.size w w'
set_option maxRecDepth 100000 in
set_option maxHeartbeats 4000000 in
theorem end_any (A : Option Addr) (n c : Nat) (l : List Sh) (w : World) (hr : Strs Sh.cells 4 w w.heap.size A n l) (hl : l.length = n) (hn : n ≤ maxLen) :
    Calls Try.prog 9 #[.slice A n c] w (EndR l w) := by
  simp only [maxLen] at hn
  have HR := Lib.hid hr
  have HL := Lib.hid hl
  have HFin : Hid (∀ (r : Int) (w' : World), EndP l r → Below w.heap.size w w' → EndR l w (.returned (.int .i64 r)) w') := fun r w' h1 h2 => ⟨r, rfl, h1, h2⟩
  generalize EndR l w = RR at *
  clear hr hl
  go_enter Try.func9, Try.ntmps9
  go_wp2_with fail
  go_loopw [3, 8] (fun t i wr => ∃ (k : Nat) (x : Int), k ≤ n ∧ i = .int .i64 k ∧ t = .int .i64 x ∧ EndP (l.take k) x ∧ Below w.heap.size w wr) (fun _ i _ => n - (intOf i).toNat)
  case atStart => exact ⟨0, 0, by omega, rfl, rfl, endP_start l, Below.refl _ _⟩
  case round =>
    obtain ⟨k, x, hk, rfl, rfl, hE, hbr⟩ := hrel
    obtain ⟨wo, rfl⟩ : ∃ wo : World, wo = wr := ⟨_, rfl⟩
    have HB := Lib.hid hbr
    have HE := Lib.hid hE
    clear hbr hE
    by_cases hlt : k < n
    · obtain ⟨ad, rfl, hab, hcl⟩ := strs_at (HR.out.now HB.out) (fun _ => rfl) HL.out hlt sh0
      have HY : Hid (k = 0 ∨ x < (l.getD k sh0).tt → EndP (l.take (k + 1)) (l.getD k sh0).tt) := fun h => endP_yes HE.out (by rw [HL.out]; exact hlt) h
      have HN : Hid (k ≠ 0 → ¬ x < (l.getD k sh0).tt → EndP (l.take (k + 1)) x) := fun h0 h => endP_no HE.out (by rw [HL.out]; exact hlt) h0 h
      generalize l.getD k sh0 = q at *
      obtain ⟨g, run, fr, tt⟩ := q
      have HCl : Hid (∀ i u, ([.int .i64 g, .int .i64 run, .int .i64 fr, .int .i64 tt] : List Value)[i]? = some u → wo.cell? ((ad.add (k * 4)).add i) = some u) := hcl
      simp only at HY HN
      clear hcl
      go_upto_region 5 with (refine wpList_load_at 50 (.tmp 11) rfl rfl (ad.add (k * 4)) rfl [.int .i64 g, .int .i64 run, .int .i64 fr, .int .i64 tt] HCl.out _ Try.underlying50 rfl (by kernel_rfl) ?_)
      have HBw3 := (Blk.new wo 50 #[.int .i64 g, .int .i64 run, .int .i64 fr, .int .i64 tt])
      have HLw3 := (below_new wo (.cells #[.int .i64 g, .int .i64 run, .int .i64 fr, .int .i64 tt] 50))
      have hsw3 : (wo.alloc (.cells #[.int .i64 g, .int .i64 run, .int .i64 fr, .int .i64 tt] 50)).heap.size = wo.heap.size + 1 := by simp
      generalize wo.alloc (.cells #[.int .i64 g, .int .i64 run, .int .i64 fr, .int .i64 tt] 50) = w3 at HBw3 HLw3 hsw3 ⊢
      replace HBw3 := Lib.hid HBw3
      replace HLw3 := Lib.hid HLw3
      have hlw3 : wo.heap.size < w3.heap.size := by omega
      replace hsw3 := Lib.hid hsw3
      have HB3 := Lib.hid (HB.out.trans (HLw3.out.mono HB.out.size))
      have y3 : w3.cell? ⟨wo.heap.size, 3, none⟩ = some (.int .i64 tt) := HBw3.out.cell 3
      clear HBw3 HLw3 hsw3 hlw3
      by_cases h0 : k = 0
      · have d1 : ((k : Int) == 0) = true := beq_iff_eq.2 (by omega)
        have HT := Lib.hid (HY.out (.inl h0))
        clear h0
        go_wp2_with fail
        go_roundw
        case rel => exact ⟨k + 1, tt, by omega, by go_num, rfl, HT.out, HB3.out⟩
        case measure => simp [intOf]; omega
      · have d1 : ((k : Int) == 0) = false := beq_eq_false_iff_ne.2 (by omega)
        by_cases h1 : x < tt
        · have d2 : decide (tt > x) = true := decide_eq_true h1
          have HT := Lib.hid (HY.out (.inr h1))
          go_wp2_with fail
          go_roundw
          case rel => exact ⟨k + 1, tt, by omega, by go_num, rfl, HT.out, HB3.out⟩
          case measure => simp [intOf]; omega
        · have d2 : decide (tt > x) = false := decide_eq_false h1
          have HT := Lib.hid (HN.out h0 h1)
          go_wp2_with fail
          go_roundw
          case rel => exact ⟨k + 1, x, by omega, by go_num, rfl, HT.out, HB3.out⟩
          case measure => simp [intOf]; omega
    · obtain rfl : k = n := by omega
      have HT : Hid (EndP l x) := by have h := HE.out; rw [List.take_of_length_le (by rw [HL.out]; exact Nat.le_refl _)] at h; exact h
      go_wp2_with fail
      try go_ret
      exact HFin.out _ _ HT.out HB.out
end Go.Proofs.Ytbegehooefhiiaa
