/-
  assign.Best of chapter 8, walked: it returns the best assignment.
-/
import Derived.Test.YtbegehooefhiiaaRows
import Derived.Test.YtbegehooefhiiaaMatOwn
import Derived.Test.YtbegehooefhiiaaAssignN
import Derived.Test.YtbegehooefhiiaaRightN
import Derived.Test.YtbegehooefhiiaaTotN
import Derived.Test.YtbegehooefhiiaaBlk
import Derived.Laws.EntriesVeiled
namespace Go.Proofs.Ytbegehooefhiiaa
namespace Asg
open Go.RowKit


theorem ret_int {k : IntKind} {a b : Int} (h : a = b) : Ending.returned (.int k a) = .returned (.int k b) := by rw [h]
theorem ret_bool {a b : Bool} (h : a = b) : Ending.returned (.bool a) = .returned (.bool b) := by rw [h]

theorem err_long1 {rows : List (List Int)} (h : 8 < rows.length) : errR rows = 4 := by unfold errR; rw [if_pos h]
theorem err_long2 {rows : List (List Int)} (h : rows.any longB = true) : errR rows = 4 := by
  unfold errR
  by_cases h8 : 8 < rows.length
  · rw [if_pos h8]
  · rw [if_neg h8, if_pos h]
theorem err_form {rows : List (List Int)} (h : rows.length ≤ 8) (h1 : rows.any longB = false) (h2 : rows.any (formB rows) = true) : errR rows = 3 := by
  unfold errR
  rw [if_neg (by omega), if_neg (by simp [h1]), if_pos h2]
theorem err_range {rows : List (List Int)} (h : rows.length ≤ 8) (h1 : rows.any longB = false) (h2 : rows.any (formB rows) = false) (h3 : rows.any rangeB = true) : errR rows = 2 := by
  unfold errR
  rw [if_neg (by omega), if_neg (by simp [h1]), if_neg (by simp [h2]), if_pos h3]
theorem err_ok {rows : List (List Int)} (h : rows.length ≤ 8) (h1 : rows.any longB = false) (h2 : rows.any (formB rows) = false) (h3 : rows.any rangeB = false) : errR rows = 0 := by
  unfold errR
  rw [if_neg (by omega), if_neg (by simp [h1]), if_neg (by simp [h2]), if_neg (by simp [h3])]

set_option maxHeartbeats 400000 in
theorem right_any (A : Option Addr) (n c B : Nat) (rows : List (List Int)) (w : World) (hm : Mat w B A n rows) (hn : n ≤ 1000) :
    Calls Try.prog 19 #[.slice A n c] w fun e w' => e = .returned (.int .i64 (errR rows)) ∧ w = w' := by
  have HL := Lib.hid hm.len
  have HM := Lib.hid hm
  clear hm
  by_cases h8 : n ≤ 8
  · go_enter Try.func19, Try.ntmps19
    go_wp2_with fail
    go_loop [16] (fun i => ∃ k : Nat, k ≤ n ∧ i = .int .i64 k ∧ (rows.take k).any longB = false) (fun i => n - (intOf i).toNat)
    case atStart => exact ⟨0, by omega, rfl, by simp⟩
    case round =>
      obtain ⟨k, hk, rfl, hall⟩ := hrel
      have HA := Lib.hid hall
      clear hall
      by_cases hlt : k < n
      · obtain ⟨ad, a, rc, rfl, _, hc, hrl, hrc, hri⟩ := HM.out.row hlt
        unfold maxLen at hrc
        have HT := Lib.hid (any_take_succ longB [] rows k (by rw [HL.out]; exact hlt))
        have HAt := Lib.hid (any_of_at longB [] rows k (by rw [HL.out]; exact hlt))
        clear hri
        generalize hr : rows.getD k [] = r at *
        have HR := Lib.hid hr
        clear hr
        by_cases hl8 : 8 < r.length
        · go_wp2
          go_ret
          exact ⟨ret_int (err_long2 (HAt.out (by simp [longB, hl8]))).symm, rfl⟩
        · go_wp2
          go_round
          case rel => exact ⟨k + 1, by omega, by go_num, by rw [HT.out, HA.out]; simp [longB]; omega⟩
          case measure => simp [intOf]; omega
      · have H1 := Lib.hid (any_of_take longB rows k (by rw [HL.out]; omega) HA.out)
        clear HA
        go_wp2_with fail
        go_loop [26] (fun i => ∃ k : Nat, k ≤ n ∧ i = .int .i64 k ∧ (rows.take k).any (formB rows) = false) (fun i => n - (intOf i).toNat)
        case atStart => exact ⟨0, by omega, rfl, by simp⟩
        case round =>
          obtain ⟨k, hk, rfl, hall⟩ := hrel
          have HA := Lib.hid hall
          clear hall
          by_cases hlt : k < n
          · obtain ⟨ad, a, rc, rfl, _, hc, hrl, hrc, hri⟩ := HM.out.row hlt
            obtain ⟨ad', a0, rc0, e0, _, hc0, hrl0, hrc0, hri0⟩ := HM.out.row (k := 0) (by omega)
            injection e0 with e0
            subst e0
            have hc0' : w.cell? ad = some (.slice a0 (rows.getD 0 []).length rc0) := hc0
            clear hc0
            unfold maxLen at hrc hrc0
            have HT := Lib.hid (any_take_succ (formB rows) [] rows k (by rw [HL.out]; exact hlt))
            have HAt := Lib.hid (any_of_at (formB rows) [] rows k (by rw [HL.out]; exact hlt))
            have HF : Hid (formB rows (rows.getD k []) = (decide ((rows.getD k []).length ≠ (rows.getD 0 []).length) || decide ((rows.getD k []).length < n))) := by rw [← HL.out]; rfl
            clear hri hri0
            generalize hr : rows.getD k [] = r at *
            generalize hr0 : rows.getD 0 [] = r0 at *
            have HR := Lib.hid hr
            have HR0 := Lib.hid hr0
            clear hr hr0
            by_cases hf1 : r.length = r0.length
            · have hb1 : ((r.length : Int) != (r0.length : Int)) = false := by rw [bne_eq_false_iff_eq]; omega
              have hb1' : ((r0.length : Int) != (r0.length : Int)) = false := by simp
              by_cases hf2 : r.length < n
              · go_wp2
                go_ret
                exact ⟨ret_int (err_form (by rw [HL.out]; omega) H1.out (HAt.out (by rw [HF.out]; simp [hf2]))).symm, rfl⟩
              · go_wp2
                go_round
                case rel => exact ⟨k + 1, by omega, by go_num, by rw [HT.out, HA.out, HF.out]; simp [hf1]; omega⟩
                case measure => simp [intOf]; omega
            · have hb1 : ((r.length : Int) != (r0.length : Int)) = true := by rw [bne_iff_ne]; omega
              go_wp2
              go_ret
              exact ⟨ret_int (err_form (by rw [HL.out]; omega) H1.out (HAt.out (by rw [HF.out]; simp [hf1]))).symm, rfl⟩
          · have H2 := Lib.hid (any_of_take (formB rows) rows k (by rw [HL.out]; omega) HA.out)
            clear HA
            go_wp2_with fail
            go_loop [47] (fun i => ∃ k : Nat, k ≤ n ∧ i = .int .i64 k ∧ (rows.take k).any rangeB = false) (fun i => n - (intOf i).toNat)
            case atStart => exact ⟨0, by omega, rfl, by simp⟩
            case round =>
              obtain ⟨k, hk, rfl, hall⟩ := hrel
              have HA := Lib.hid hall
              clear hall
              by_cases hlt : k < n
              · obtain ⟨ad, a, rc, rfl, _, hc, hrl, hrc, hri⟩ := HM.out.row hlt
                unfold maxLen at hrc
                have HT := Lib.hid (any_take_succ rangeB [] rows k (by rw [HL.out]; exact hlt))
                have HAt := Lib.hid (any_of_at rangeB [] rows k (by rw [HL.out]; exact hlt))
                generalize hr : rows.getD k [] = r at *
                have HR := Lib.hid hr
                have HRI := Lib.hid hri
                clear hr hri
                go_wp2_with fail
                go_loop [53] (fun i => ∃ j : Nat, j ≤ r.length ∧ i = .int .i64 j ∧ (r.take j).any badB = false) (fun i => r.length - (intOf i).toNat)
                case atStart => exact ⟨0, by omega, rfl, by simp⟩
                case round =>
                  obtain ⟨j, hj, rfl, hallj⟩ := hrel
                  have HAJ := Lib.hid hallj
                  clear hallj
                  by_cases hjl : j < r.length
                  · obtain ⟨ad2, rfl, _, hcj⟩ := HRI.out.int hjl
                    have HTJ := Lib.hid (any_take_succ badB 0 r j hjl)
                    have HAtJ := Lib.hid (any_of_at badB 0 r j hjl)
                    generalize hx : r.getD j 0 = x at *
                    have HX := Lib.hid hx
                    clear hx
                    by_cases hx0 : x < 0
                    · go_wp2
                      go_ret
                      exact ⟨ret_int (err_range (by rw [HL.out]; omega) H1.out H2.out (HAt.out (HAtJ.out (by simp [badB, hx0])))).symm, rfl⟩
                    · by_cases hx1 : 1000000 < x
                      · go_wp2
                        go_ret
                        exact ⟨ret_int (err_range (by rw [HL.out]; omega) H1.out H2.out (HAt.out (HAtJ.out (by simp [badB, hx1])))).symm, rfl⟩
                      · go_wp2
                        go_round
                        case rel => exact ⟨j + 1, by omega, by go_num, by rw [HTJ.out, HAJ.out]; simp [badB]; omega⟩
                        case measure => simp [intOf]; omega
                  · have HJ := Lib.hid (any_of_take badB r j (by omega) HAJ.out)
                    go_wp2
                    go_round
                    case rel => exact ⟨k + 1, by omega, by go_num, by rw [HT.out, HA.out]; exact HJ.out⟩
                    case measure => simp [intOf]; omega
              · have H3 := Lib.hid (any_of_take rangeB rows k (by rw [HL.out]; omega) HA.out)
                go_wp2
                go_ret
                exact ⟨ret_int (err_ok (by rw [HL.out]; omega) H1.out H2.out H3.out).symm, rfl⟩
  · go_enter Try.func19, Try.ntmps19
    go_wp2
    go_ret
    exact ⟨ret_int (err_long1 (by rw [HL.out]; omega)).symm, rfl⟩
def IdxPost (v : Int) (l : List Int) (w : World) (e : Ending) (w' : World) : Prop := ∃ r : Int, e = .returned (.int .i64 r) ∧ (v ∈ l ↔ 0 ≤ r) ∧ w = w'
theorem mem_take_succ (l : List Int) (k : Nat) (v : Int) (h : k < l.length) : v ∈ l.take (k + 1) ↔ v ∈ l.take k ∨ v = l.getD k 0 := by
  have e : l.getD k 0 = l[k] := by simp [List.getElem?_eq_getElem h]
  rw [List.take_succ_eq_append_getElem h, e, List.mem_append, List.mem_singleton]


set_option maxHeartbeats 400000 in
theorem index_any (A : Option Addr) (n c B : Nat) (l : List Int) (v : Int) (w : World) (hr : Ints w B A n l) (hn : n ≤ 1000000) :
    Calls Try.prog 29 #[.slice A n c, .int .i64 v] w (IdxPost v l w) := by
  have HL := Lib.hid hr.ilen
  have HR := Lib.hid hr
  clear hr
  go_enter Try.func29, Try.ntmps29
  go_wp2_with fail
  go_loop [8] (fun i => ∃ k : Nat, k ≤ n ∧ i = .int .i64 k ∧ ¬ v ∈ l.take k) (fun i => n - (intOf i).toNat)
  case atStart => exact ⟨0, by omega, rfl, by simp⟩
  case round =>
    obtain ⟨k, hk, rfl, hno⟩ := hrel
    have HN := Lib.hid hno
    clear hno
    by_cases hlt : k < n
    · obtain ⟨ad, rfl, _, hc⟩ := HR.out.int hlt
      have HT := Lib.hid (mem_take_succ l k v (by rw [HL.out]; exact hlt))
      have HM : Hid (v = l.getD k 0 → v ∈ l) := fun e => by rw [e]; simp [List.getElem?_eq_getElem (show k < l.length by rw [HL.out]; exact hlt)]
      generalize hx : l.getD k 0 = x at *
      have HX := Lib.hid hx
      clear hx
      by_cases he : v = x
      · have hb : (v == x) = true := beq_iff_eq.2 he
        have hb' : (x == x) = true := by simp
        have HE := Lib.hid he
        clear he
        go_wp2
        go_ret
        exact ⟨_, rfl, ⟨fun _ => by omega, fun _ => HM.out HE.out⟩, rfl⟩
      · have hb : (v == x) = false := beq_eq_false_iff_ne.2 he
        have HE := Lib.hid he
        clear he
        go_wp2
        go_round
        case rel => exact ⟨k + 1, by omega, by go_num, fun h => (HT.out.1 h).elim HN.out HE.out⟩
        case measure => simp [intOf]; omega
    · go_wp2
      go_ret
      refine ⟨_, rfl, ⟨fun h => ?_, fun h => by simp at h⟩, rfl⟩
      exact (HN.out (by rw [List.take_of_length_le (by rw [HL.out]; omega)]; exact h)).elim

set_option maxHeartbeats 400000 in
theorem contains_any (b : Bool) (A : Option Addr) (n c B : Nat) (l : List Int) (v : Int) (w : World) (hr : Ints w B A n l) (hn : n ≤ 1000000) (hb : b = decide (v ∈ l)) :
    Calls Try.prog 22 #[.slice A n c, .int .i64 v] w fun e w' => e = .returned (.bool b) ∧ w = w' := by
  have HR := Lib.hid hr
  have HB := Lib.hid hb
  clear hr hb
  go_enter Try.func22, Try.ntmps22
  go_wp2_with fail
  with_reducible refine (index_any _ _ _ _ _ _ _ HR.out hn).mono ?_
  rintro e w' ⟨r, rfl, hiff, rfl⟩
  have HI := Lib.hid hiff
  clear hiff
  go_wp2_with fail
  go_ret
  refine ⟨?_, rfl⟩
  have : decide (0 ≤ r) = b := by rw [HB.out]; exact decide_eq_decide.2 HI.out.symm
  exact ret_bool (by simpa using this)

theorem ei_int : EInfo Try.prog 32 3 1 8 := EInfo.mk' Try.underlying32 (z := .int .i64 0) (by kernel_rfl) rfl (by omega)
set_option maxHeartbeats 400000 in
theorem clone_any (A : Option Addr) (n c B : Nat) (l : List Int) (w : World) (hr : Ints w B A n l) (hn : n ≤ 1000000) (hB : B ≤ w.heap.size) :
    Calls Try.prog 21 #[.slice A n c] w fun e w' => ∃ v, e = .returned v ∧ w'.ownsRow w.heap.size 3 1 v n (l.map (Value.int .i64)) ∧ Below w.heap.size w w' := by
  have HR := Lib.hid hr
  have HL := Lib.hid hr.ilen
  clear hr
  have q : ∀ (w : World) (a : Option Addr) (n c n' c' : Nat), (binOp .eql 32 (.slice a n c) (.slice none n' c')).run Try.prog w = .ok (.bool a.isNone) w := fun w a n c n' c' => Lib.run_eql_slice_nil w _ _ a n c n' c' Try.underlying32
  cases A with
  | none =>
    have hn0 : n = 0 := by
      rcases Nat.eq_zero_or_pos n with h | h
      · exact h
      · obtain ⟨ad, h1, _⟩ := HR.out.2 h
        cases h1
    subst hn0
    go_enter Try.func21, Try.ntmps21
    go_wp2
    go_ret
    refine ⟨_, rfl, ?_, Below.refl _ _⟩
    rw [List.eq_nil_of_length_eq_zero HL.out]
    exact World.ownsRow_nil _ _ _ _
  | some ad =>
    go_enter Try.func21, Try.ntmps21
    go_wp2_with
      (at_builtin
       refine wpList_app _ ei_int rfl (.tmp 5) (.tmp 6) rfl w.heap.size (.slice (some ⟨w.heap.size, 0, none⟩) 0 0) 0 [] rfl (World.ownsRow_lit w #[] 0 (Nat.le_refl _) (by simp [maxLen]) rfl) B (some ad) n c (l.map (Value.int .i64)) rfl (HR.out.alloc hB _) (oneCell_ints l) (by simp only [maxLen]; omega) (by omega) (by simp) ?_
       intro v2 w2 hown2 _ hbw2 _
       have hbw : Below w.heap.size w w2 := ((Below.refl _ _).alloc (Nat.le_refl _) _).trans hbw2
       simp only [Nat.zero_add, List.nil_append] at hown2
       have HO := Lib.hid hown2
       clear hown2 hbw2)
    go_ret
    exact ⟨_, rfl, HO.out, hbw⟩


/-- what the closure's captured variables hold: the prefix P, and what has been found; they lie in the blocks g .. g + 5 -/
structure DSt (w : World) (g : Nat) (A : Option Addr) (n c : Nat) (rows : List (List Int)) (vb vp vf : Value) (least : Int) (found : Bool) (P : List Nat) (st : St) : Prop where
  cost : Blk w g 43 #[.slice A n c]
  best : Blk w (g + 1) 32 #[vb]
  pre : Blk w (g + 2) 32 #[vp]
  lst : Blk w (g + 3) 3 #[.int .i64 least]
  fnd : Blk w (g + 4) 4 #[.bool found]
  fn : Blk w (g + 5) 60 #[vf]
  mat : Mat w g A n rows
  own : w.ownsRow (g + 6) 3 1 vp P.length ((intsN P).map (Value.int .i64))
  none_ : st = none → found = false
  some_ : ∀ b l, st = some (b, l) → found = true ∧ least = l ∧ w.ownsRow (g + 6) 3 1 vb b.length ((intsN b).map (Value.int .i64)) ∧ (vb.ownBlock = none ∨ vb.ownBlock ≠ vp.ownBlock)

section
variable {w : World} {g : Nat} {A : Option Addr} {n c : Nat} {rows : List (List Int)} {vb vp vf : Value} {least : Int} {found : Bool} {P : List Nat} {st : St}

theorem DSt.size (h : DSt w g A n c rows vb vp vf least found P st) : g + 6 ≤ w.heap.size := by have := h.fn.lt; omega
theorem DSt.found_eq (h : DSt w g A n c rows vb vp vf least found P st) : found = st.isSome := by
  rcases st with _ | ⟨b, l⟩
  · rw [h.none_ rfl]; rfl
  · rw [(h.some_ b l rfl).1]; rfl

theorem own_ne_block {w : World} {base : Nat} {e : TypeId} {size m : Nat} {v : Value} {xs : List Value} (h : w.ownsRow base e size v m xs) {k : Nat} (hk : k < base) : v.ownBlock ≠ some k := by
  intro e
  have := (h.lt k e).1
  omega

/-- a column is put behind the prefix -/
theorem DSt.push (h : DSt w g A n c rows vb vp vf least found P st) (k : Nat) (o : Obj) {v' : Value} {w2 : World}
    (hown : w2.ownsRow (g + 6) 3 1 v' (P.length + 1) ((intsN P).map (Value.int .i64) ++ [.int .i64 (k : Int)])) (hg : (w.alloc o).grownBy w2 vp.ownBlock)
    (hat : v'.ownBlock = vp.ownBlock ∨ v'.ownBlock = some (w.alloc o).heap.size) :
    DSt (w2.setCell ⟨g + 2, 0, none⟩ v') g A n c rows vb v' vf least found (P ++ [k]) st := by
  have hsz := h.size
  have hb : ∀ j, j < 6 → some (g + j) ≠ vp.ownBlock := fun j hj e => by
    have := (h.own.lt (g + j) e.symm).1
    omega
  have hbel : Below (g + 6) (w.alloc o) w2 := (Below.refl _ _).grown hg (by simp; omega) (fun k hk => (h.own.lt k hk).1)
  refine ⟨?_, ?_, ?_, ?_, ?_, ?_, ?_, ?_, h.none_, ?_⟩
  · exact ((h.cost.alloc o).grown hg (hb 0 (by omega))).far (p := ⟨g + 2, 0, none⟩) (by simp) _
  · exact ((h.best.alloc o).grown hg (hb 1 (by omega))).far (p := ⟨g + 2, 0, none⟩) (by simp) _
  · exact ((h.pre.alloc o).grown hg (hb 2 (by omega))).set1 _
  · exact ((h.lst.alloc o).grown hg (hb 3 (by omega))).far (p := ⟨g + 2, 0, none⟩) (by simp) _
  · exact ((h.fnd.alloc o).grown hg (hb 4 (by omega))).far (p := ⟨g + 2, 0, none⟩) (by simp) _
  · exact ((h.fn.alloc o).grown hg (hb 5 (by omega))).far (p := ⟨g + 2, 0, none⟩) (by simp) _
  · have h1 := (h.mat.alloc (by omega) o).below (hbel.mono (by omega))
    exact h1.keep fun p hp => World.cell?_setCell_other w2 ⟨g + 2, 0, none⟩ p v' (fun e => by subst e; simp at hp; omega)
  · have h1 := own_setCell hown (p := ⟨g + 2, 0, none⟩) (own_ne_block hown (by simp)) v'
    have e : (intsN P).map (Value.int .i64) ++ [.int .i64 (k : Int)] = (intsN (P ++ [k])).map (Value.int .i64) := by simp [intsN]
    rw [e] at h1
    simpa using h1
  · intro b l hs
    obtain ⟨h1, h2, h3, h4⟩ := h.some_ b l hs
    have hkept := (h3.alloc o).kept hg h4
    refine ⟨h1, h2, own_setCell hkept (own_ne_block hkept (by simp)) _, ?_⟩
    rcases hat with e | e
    · rw [e]; exact h4
    · right
      rw [e]
      intro e2
      have := (h3.lt _ e2).2
      simp at this
      omega

/-- the last column is taken away -/
theorem DSt.pop {k q cap : Nat} (h : DSt w g A n c rows vb (.slice (some ⟨q, 0, none⟩) (P.length + 1) cap) vf least found (P ++ [k]) st) :
    DSt (w.setCell ⟨g + 2, 0, none⟩ (.slice (some ⟨q, 0, none⟩) P.length cap)) g A n c rows vb (.slice (some ⟨q, 0, none⟩) P.length cap) vf least found P st := by
  have hown := h.own
  rw [List.length_append, List.length_singleton] at hown
  have hp := own_pop hown
  have e : ((intsN (P ++ [k])).map (Value.int .i64)).take P.length = (intsN P).map (Value.int .i64) := by
    simp [intsN]
  rw [e] at hp
  refine ⟨?_, ?_, ?_, ?_, ?_, ?_, ?_, ?_, h.none_, ?_⟩
  · exact h.cost.far (p := ⟨g + 2, 0, none⟩) (by simp) _
  · exact h.best.far (p := ⟨g + 2, 0, none⟩) (by simp) _
  · exact h.pre.set1 _
  · exact h.lst.far (p := ⟨g + 2, 0, none⟩) (by simp) _
  · exact h.fnd.far (p := ⟨g + 2, 0, none⟩) (by simp) _
  · exact h.fn.far (p := ⟨g + 2, 0, none⟩) (by simp) _
  · exact h.mat.keep fun p hp => World.cell?_setCell_other w ⟨g + 2, 0, none⟩ p _ (fun e => by subst e; simp at hp; omega)
  · exact own_setCell hp (own_ne_block hp (by simp)) _
  · intro b l hs
    obtain ⟨h1, h2, h3, h4⟩ := h.some_ b l hs
    exact ⟨h1, h2, own_setCell h3 (own_ne_block h3 (by simp)) _, h4⟩

/-- the prefix is an assignment: it is taken as the best one -/
theorem DSt.take (h : DSt w g A n c rows vb vp vf least found P st) (t : Int) {v : Value} {w1 : World} (hown : w1.ownsRow w.heap.size 3 1 v P.length ((intsN P).map (Value.int .i64))) (hbel : Below w.heap.size w w1) :
    DSt (((w1.setCell ⟨g + 1, 0, none⟩ v).setCell ⟨g + 3, 0, none⟩ (.int .i64 t)).setCell ⟨g + 4, 0, none⟩ (.bool true)) g A n c rows v vp vf t true P (some (P, t)) := by
  have hsz := h.size
  have ho1 := own_below h.own hbel (Nat.le_refl _)
  have hn : w1.ownsRow (g + 6) 3 1 v P.length ((intsN P).map (Value.int .i64)) := by
    refine ⟨hown.1, ?_⟩
    rcases hown.2 with h0 | ⟨q, cap, cur, h1, h2, h3⟩
    · exact .inl h0
    · exact .inr ⟨q, cap, cur, h1, by omega, h3⟩
  refine ⟨?_, ?_, ?_, ?_, ?_, ?_, ?_, ?_, fun e => (by cases e), ?_⟩
  · exact (((h.cost.below hbel (by omega)).far (p := ⟨g + 1, 0, none⟩) (by simp) _).far (p := ⟨g + 3, 0, none⟩) (by simp) _).far (p := ⟨g + 4, 0, none⟩) (by simp) _
  · exact (((h.best.below hbel (by omega)).set1 _).far (p := ⟨g + 3, 0, none⟩) (by simp) _).far (p := ⟨g + 4, 0, none⟩) (by simp) _
  · exact (((h.pre.below hbel (by omega)).far (p := ⟨g + 1, 0, none⟩) (by simp) _).far (p := ⟨g + 3, 0, none⟩) (by simp) _).far (p := ⟨g + 4, 0, none⟩) (by simp) _
  · exact (((h.lst.below hbel (by omega)).far (p := ⟨g + 1, 0, none⟩) (by simp) _).set1 _).far (p := ⟨g + 4, 0, none⟩) (by simp) _
  · exact (((h.fnd.below hbel (by omega)).far (p := ⟨g + 1, 0, none⟩) (by simp) _).far (p := ⟨g + 3, 0, none⟩) (by simp) _).set1 _
  · exact (((h.fn.below hbel (by omega)).far (p := ⟨g + 1, 0, none⟩) (by simp) _).far (p := ⟨g + 3, 0, none⟩) (by simp) _).far (p := ⟨g + 4, 0, none⟩) (by simp) _
  · have h1 := h.mat.below (hbel.mono (show g ≤ w.heap.size by omega))
    refine ((h1.keep fun p hp => World.cell?_setCell_other w1 ⟨g + 1, 0, none⟩ p v (fun e => by subst e; simp at hp; omega)).keep fun p hp => World.cell?_setCell_other _ ⟨g + 3, 0, none⟩ p _ (fun e => by subst e; simp at hp; omega)).keep fun p hp => World.cell?_setCell_other _ ⟨g + 4, 0, none⟩ p _ (fun e => by subst e; simp at hp; omega)
  · exact own_setCell (own_setCell (own_setCell ho1 (own_ne_block ho1 (by simp)) _) (own_ne_block ho1 (by simp)) _) (own_ne_block ho1 (by simp)) _
  · intro b l hs
    injection hs with hs
    injection hs with h1 h2
    subst h1
    subst h2
    refine ⟨rfl, rfl, own_setCell (own_setCell (own_setCell hn (own_ne_block hn (by simp)) _) (own_ne_block hn (by simp)) _) (own_ne_block hn (by simp)) _, ?_⟩
    rcases hv : v.ownBlock with _ | q
    · exact .inl rfl
    · right
      intro e
      have h1 := (hown.lt q hv).1
      have h2 := (h.own.lt q (by rw [← e])).2
      omega
end


def vfC (g : Nat) : Value := .func (.func 20) #[] #[.pointer (some ⟨g + 4, 0, none⟩), .pointer (some ⟨g + 3, 0, none⟩), .pointer (some ⟨g + 2, 0, none⟩), .pointer (some ⟨g, 0, none⟩), .pointer (some ⟨g + 1, 0, none⟩), .pointer (some ⟨g + 5, 0, none⟩)]
def TryPost (g : Nat) (A : Option Addr) (n c : Nat) (rows : List (List Int)) (P : List Nat) (st : St) (w : World) (e : Ending) (w' : World) : Prop :=
  e = .returned (.tuple #[]) ∧ Below g w w' ∧ ∃ vb vp least found, DSt w' g A n c rows vb vp (vfC g) least found P st

theorem drop_head {rows : List (List Int)} {m : Nat} {r : List Int} {rs : List (List Int)} (h : rows.drop m = r :: rs) : m < rows.length ∧ rows.getD m [] = r ∧ rows.drop (m + 1) = rs := by
  have hl : m < rows.length := by
    rcases Nat.lt_or_ge m rows.length with h1 | h1
    · exact h1
    · rw [List.drop_eq_nil_of_le h1] at h; cases h
  rw [List.drop_eq_getElem_cons hl] at h
  injection h with h1 h2
  exact ⟨hl, by simp [List.getElem?_eq_getElem hl, h1], h2⟩

def stepK (C : Nat) (rs : List (List Int)) (r : List Int) (P : List Nat) (tot : Int) (st : St) (k : Nat) : St := if k ∈ P then st else dfsA C rs (P ++ [k]) (tot + r.getD k 0) st
def foldK (C : Nat) (rs : List (List Int)) (r : List Int) (P : List Nat) (tot : Int) (st : St) (k : Nat) : St := (List.range k).foldl (stepK C rs r P tot) st
theorem foldK_zero (C : Nat) (rs : List (List Int)) (r : List Int) (P : List Nat) (tot : Int) (st : St) : foldK C rs r P tot st 0 = st := rfl
theorem foldK_succ (C : Nat) (rs : List (List Int)) (r : List Int) (P : List Nat) (tot : Int) (st : St) (k : Nat) : foldK C rs r P tot st (k + 1) = stepK C rs r P tot (foldK C rs r P tot st k) k := by
  unfold foldK
  rw [List.range_succ, List.foldl_append]
  rfl
theorem dfsA_prune (C : Nat) (rs : List (List Int)) (P : List Nat) (tot : Int) (st : St) (h : pruneS st tot = true) : dfsA C rs P tot st = st := by
  cases rs <;> simp [dfsA, h]
theorem dfsA_nil (C : Nat) (P : List Nat) (tot : Int) (st : St) (h : pruneS st tot = false) : dfsA C [] P tot st = some (P, tot) := by simp [dfsA, h]
theorem dfsA_cons (C : Nat) (r : List Int) (rs : List (List Int)) (P : List Nat) (tot : Int) (st : St) (h : pruneS st tot = false) : dfsA C (r :: rs) P tot st = foldK C rs r P tot st C := by
  simp only [dfsA, h]
  rfl

set_option maxHeartbeats 1000000 in
theorem try_end (g : Nat) (A : Option Addr) (n c : Nat) (rows : List (List Int)) (hR : RightM rows) (hn : rows.length = n) (P : List Nat) (tot : Int) (st : St) (w : World) (vb vp : Value) (least : Int) (found : Bool)
    (h : DSt w g A n c rows vb vp (vfC g) least found P st) (hpr : pruneS st tot = true ∨ P.length = n) (st' : St) (hst : (if pruneS st tot then st else some (P, tot)) = st') :
    Calls Try.prog 20 #[.int .i64 tot, .pointer (some ⟨g + 4, 0, none⟩), .pointer (some ⟨g + 3, 0, none⟩), .pointer (some ⟨g + 2, 0, none⟩), .pointer (some ⟨g, 0, none⟩), .pointer (some ⟨g + 1, 0, none⟩), .pointer (some ⟨g + 5, 0, none⟩)] w
      (TryPost g A n c rows P st' w) := by
  have HD := Lib.hid h
  have cf : w.cell? ⟨g + 4, 0, none⟩ = some (.bool found) := h.fnd.cell 0
  have cl : w.cell? ⟨g + 3, 0, none⟩ = some (.int .i64 least) := h.lst.cell 0
  have cp : w.cell? ⟨g + 2, 0, none⟩ = some vp := h.pre.cell 0
  have cc : w.cell? ⟨g, 0, none⟩ = some (.slice A n c) := h.cost.cell 0
  have cb : w.cell? ⟨g + 1, 0, none⟩ = some vb := h.best.cell 0
  have fb : w.frozen? ⟨g + 1, 0, none⟩ = false := h.best.frozen 0
  have fl : w.frozen? ⟨g + 3, 0, none⟩ = false := h.lst.frozen 0
  have ff : w.frozen? ⟨g + 4, 0, none⟩ = false := h.fnd.frozen 0
  by_cases hp : pruneS st tot = true
  · have HP : Hid (st' = st) := by show _ = _; rw [← hst, if_pos hp]
    obtain ⟨b, l, rfl⟩ : ∃ b l, st = some (b, l) := by
      rcases st with _ | ⟨b, l⟩
      · simp [pruneS] at hp
      · exact ⟨b, l, rfl⟩
    obtain ⟨rfl, rfl, _, _⟩ := h.some_ b l rfl
    have hlt : least ≤ tot := by simpa [pruneS] using hp
    clear h hp hpr hst
    go_enter Try.func20, Try.ntmps20
    go_wp2_with fail
    refine bodyPost_ret (results_none rfl _ _ _) rfl ?_
    exact ⟨rfl, Below.refl _ _, _, _, _, _, by rw [HP.out]; exact HD.out⟩
  · have hlen : P.length = n := hpr.resolve_left hp
    have HP : Hid (st' = some (P, tot)) := by show _ = _; rw [← hst, if_neg hp]
    obtain ⟨pA, pc, rfl, hpc, _, hpr'⟩ := own_open h.own
    have hP8 : P.length ≤ 8 := by have := hR.few; omega
    have hcase : found = false ∨ found = true ∧ tot < least := by
      rcases st with _ | ⟨b, l⟩
      · exact .inl (h.none_ rfl)
      · obtain ⟨h1, h2, _⟩ := h.some_ b l rfl
        refine .inr ⟨h1, ?_⟩
        simp [pruneS] at hp
        omega
    have hsz := h.size
    have HPR := Lib.hid hpr'
    have HS := Lib.hid hsz
    clear h hp hpr hpr' hst
    subst hlen
    have hbeq : ((P.length : Int) == (P.length : Int)) = true := by simp
    rcases hcase with rfl | ⟨rfl, hlt⟩
    all_goals
      go_enter Try.func20, Try.ntmps20
      go_wp2_with fail
      with_reducible refine (clone_any _ _ _ _ _ _ HPR.out (by omega) (Nat.le_refl _)).mono ?_
      rintro e w1 ⟨v, rfl, hown, hbel⟩
      obtain ⟨vA, vc, rfl, _, _, _⟩ := own_open hown
      have HT := Lib.hid (HD.out.take tot hown hbel)
      have cb1 := (hbel.cell (p := ⟨g + 1, 0, none⟩) (by have := HS.out; show g + 1 < _; omega)).trans cb
      have fb1 := (hbel.frozen (p := ⟨g + 1, 0, none⟩) (by have := HS.out; show g + 1 < _; omega)).trans fb
      have cl1 := (hbel.cell (p := ⟨g + 3, 0, none⟩) (by have := HS.out; show g + 3 < _; omega)).trans cl
      have fl1 := (hbel.frozen (p := ⟨g + 3, 0, none⟩) (by have := HS.out; show g + 3 < _; omega)).trans fl
      have cf1 := (hbel.cell (p := ⟨g + 4, 0, none⟩) (by have := HS.out; show g + 4 < _; omega)).trans cf
      have ff1 := (hbel.frozen (p := ⟨g + 4, 0, none⟩) (by have := HS.out; show g + 4 < _; omega)).trans ff
      have HB := Lib.hid hbel
      clear hown hbel
      go_wp2_with fail
      refine bodyPost_ret (results_none rfl _ _ _) rfl ?_
      refine ⟨rfl, ?_, _, _, _, _, by rw [HP.out]; exact HT.out⟩
      exact (((HB.out.mono (by have := HS.out; omega)).setCell (p := ⟨g + 1, 0, none⟩) (by show g ≤ g + 1; omega) _).setCell (p := ⟨g + 3, 0, none⟩) (by show g ≤ g + 3; omega) _).setCell (p := ⟨g + 4, 0, none⟩) (by show g ≤ g + 4; omega) _

theorem intsN_mem_iff (P : List Nat) (k : Nat) : (decide (((k : Nat) : Int) ∈ intsN P)) = decide (k ∈ P) := decide_eq_decide.2 (intsN_mem P k)

set_option maxHeartbeats 2000000 in
theorem try_any (g : Nat) (A : Option Addr) (n c : Nat) (rows : List (List Int)) (hR : RightM rows) (hn : rows.length = n) (rs : List (List Int)) :
    ∀ (P : List Nat) (tot : Int) (st : St) (w : World) (vb vp : Value) (least : Int) (found : Bool), DSt w g A n c rows vb vp (vfC g) least found P st → rows.drop P.length = rs → P.length ≤ n → 0 ≤ tot → tot ≤ 1000000 * P.length →
    ∀ st', dfsA (colsR rows) rs P tot st = st' →
    Calls Try.prog 20 #[.int .i64 tot, .pointer (some ⟨g + 4, 0, none⟩), .pointer (some ⟨g + 3, 0, none⟩), .pointer (some ⟨g + 2, 0, none⟩), .pointer (some ⟨g, 0, none⟩), .pointer (some ⟨g + 1, 0, none⟩), .pointer (some ⟨g + 5, 0, none⟩)] w
      (TryPost g A n c rows P st' w) := by
  induction rs with
  | nil =>
    intro P tot st w vb vp least found h hrs hP _ _ st' hst
    have hl : P.length = n := by
      have := congrArg List.length hrs
      simp at this
      omega
    refine try_end g A n c rows hR hn P tot st w vb vp least found h (.inr hl) st' ?_
    rw [← hst]
    by_cases hp : pruneS st tot = true
    · rw [if_pos hp, dfsA_prune _ _ _ _ _ hp]
    · rw [if_neg hp, dfsA_nil _ _ _ _ (by simpa using hp)]
  | cons r rs ih =>
    intro P tot st w vb vp least found h hrs hP ht0 ht1 st' hst
    by_cases hp : pruneS st tot = true
    · refine try_end g A n c rows hR hn P tot st w vb vp least found h (.inl hp) st' ?_
      rw [if_pos hp, ← hst, dfsA_prune _ _ _ _ _ hp]
    · have hp' : pruneS st tot = false := by simpa using hp
      rw [dfsA_cons _ _ _ _ _ _ hp'] at hst
      obtain ⟨hlt, hrow, hdrop⟩ := drop_head hrs
      have hPn : P.length < n := by omega
      have h8 : n ≤ 8 := by rw [← hn]; exact hR.few
      have hrm : r ∈ rows := by
        rw [← hrow]
        simp [List.getElem?_eq_getElem hlt]
      have hC : colsR rows = r.length := (hR.same r hrm).1.symm
      have hcase : found = false ∨ found = true ∧ tot < least := by
        rcases st with _ | ⟨b, l⟩
        · exact .inl (h.none_ rfl)
        · obtain ⟨h1, h2, _⟩ := h.some_ b l rfl
          refine .inr ⟨h1, ?_⟩
          simp [pruneS] at hp
          omega
      have hx : ∀ k, 0 ≤ r.getD k 0 ∧ r.getD k 0 ≤ 1000000 := fun k => ⟨hR.nn r hrm k, hR.le r hrm k⟩
      obtain ⟨ad, a, rc, rfl, hadb, hc, hrl, hrc, hri⟩ := h.mat.row hPn
      rw [hrow] at hc hrl hri
      unfold maxLen at hrc
      have hr8 : r.length ≤ 8 := hR.wide r hrm
      have IH : Hid (∀ (k : Nat) (st2 : St) (W : World) (vb vp : Value) (least : Int) (found : Bool), DSt W g (some ad) n c rows vb vp (vfC g) least found (P ++ [k]) st2 → ∀ st3, dfsA (colsR rows) rs (P ++ [k]) (tot + r.getD k 0) st2 = st3 →
          Calls Try.prog 20 #[.int .i64 (tot + r.getD k 0), .pointer (some ⟨g + 4, 0, none⟩), .pointer (some ⟨g + 3, 0, none⟩), .pointer (some ⟨g + 2, 0, none⟩), .pointer (some ⟨g, 0, none⟩), .pointer (some ⟨g + 1, 0, none⟩), .pointer (some ⟨g + 5, 0, none⟩)] W
            (TryPost g (some ad) n c rows (P ++ [k]) st3 W)) := fun k st2 W vb vp least found hD st3 h3 =>
        ih (P ++ [k]) _ st2 W vb vp least found hD (by simpa using hdrop) (by simp; omega) (by have := (hx k).1; omega) (by have := (hx k).2; rw [List.length_append, List.length_singleton]; omega) st3 h3
      clear ih
      have cf : w.cell? ⟨g + 4, 0, none⟩ = some (.bool found) := h.fnd.cell 0
      have cl : w.cell? ⟨g + 3, 0, none⟩ = some (.int .i64 least) := h.lst.cell 0
      have cc : w.cell? ⟨g, 0, none⟩ = some (.slice (some ad) n c) := h.cost.cell 0
      have cp0 : w.cell? ⟨g + 2, 0, none⟩ = some vp := h.pre.cell 0
      obtain ⟨pA, pc, rfl, hpc, _, _⟩ := own_open h.own
      have HD := Lib.hid h
      have HX := Lib.hid hx
      have HRI := Lib.hid hri
      have HST := Lib.hid hst
      have HC := Lib.hid hC
      have hbeq : ((P.length : Int) == (n : Int)) = false := beq_eq_false_iff_ne.2 (by omega)
      clear h hp hp' hx hri hrs hst hrow hdrop hrm hC
      rcases hcase with rfl | ⟨rfl, hlt2⟩
      all_goals
        go_enter Try.func20, Try.ntmps20
        go_wp2_with fail
        go_loopw [30] (fun i wr => ∃ (k : Nat) (vb vp : Value) (least : Int) (found : Bool), k ≤ r.length ∧ i = .int .i64 k ∧ DSt wr g (some ad) n c rows vb vp (vfC g) least found P (foldK (colsR rows) rs r P tot st k) ∧ Below g w wr) (fun i _ => r.length - (intOf i).toNat)
        case atStart => exact ⟨0, _, _, _, _, by omega, rfl, HD.out, Below.refl _ _⟩
        case round =>
          obtain ⟨k, vb, vp, least, found, hk, rfl, hD, hbr⟩ := hrel
          obtain ⟨wo, rfl⟩ : ∃ wo : World, wo = wr := ⟨_, rfl⟩
          by_cases hkr : k < r.length
          · obtain ⟨ad2, rfl, hadb2, hck⟩ := (HRI.out.below hbr).int hkr
            have HS := Lib.hid (foldK_succ (colsR rows) rs r P tot st k)
            have hxk := HX.out k
            have cp : wo.cell? ⟨g + 2, 0, none⟩ = some vp := hD.pre.cell 0
            obtain ⟨pA2, pc2, rfl, hpc2, _, hpr2⟩ := own_open hD.own
            have hsz := hD.size
            have HPR2 := Lib.hid hpr2
            clear hpr2
            by_cases hmem : k ∈ P
            · have HM : Hid (true = decide (((k : Nat) : Int) ∈ intsN P)) := by show _ = _; rw [intsN_mem_iff]; simp [hmem]
              have HK : Hid (foldK (colsR rows) rs r P tot st (k + 1) = foldK (colsR rows) rs r P tot st k) := by show _ = _; rw [HS.out, stepK, if_pos hmem]
              have HD2 := Lib.hid hD
              generalize hxg : r.getD k 0 = x at *
              have HXG := Lib.hid hxg
              clear hmem hD hxg
              go_wp2_with fail
              with_reducible refine (contains_any true _ _ _ _ _ _ _ HPR2.out (by omega) HM.out).mono ?_
              rintro e w' ⟨rfl, rfl⟩
              go_wp2_with fail
              go_roundw
              case rel => exact ⟨k + 1, _, _, _, _, by omega, by go_num, by rw [HK.out]; exact HD2.out, hbr⟩
              case measure => simp [intOf]; omega
            · have HM : Hid (false = decide (((k : Nat) : Int) ∈ intsN P)) := by show _ = _; rw [intsN_mem_iff]; simp [hmem]
              have HK : Hid (foldK (colsR rows) rs r P tot st (k + 1) = dfsA (colsR rows) rs (P ++ [k]) (tot + r.getD k 0) (foldK (colsR rows) rs r P tot st k)) := by show _ = _; rw [HS.out, stepK, if_neg hmem]
              have IH2 : Hid (∀ (W : World) (vb vp : Value) (least : Int) (found : Bool), DSt W g (some ad) n c rows vb vp (vfC g) least found (P ++ [k]) (foldK (colsR rows) rs r P tot st k) →
                  Calls Try.prog 20 #[.int .i64 (tot + r.getD k 0), .pointer (some ⟨g + 4, 0, none⟩), .pointer (some ⟨g + 3, 0, none⟩), .pointer (some ⟨g + 2, 0, none⟩), .pointer (some ⟨g, 0, none⟩), .pointer (some ⟨g + 1, 0, none⟩), .pointer (some ⟨g + 5, 0, none⟩)] W
                    (TryPost g (some ad) n c rows (P ++ [k]) (foldK (colsR rows) rs r P tot st (k + 1)) W)) := fun W vb vp least found hD3 => IH.out k _ W vb vp least found hD3 _ HK.out.symm
              have fp : wo.frozen? ⟨g + 2, 0, none⟩ = false := hD.pre.frozen 0
              have HD2 := Lib.hid hD
              generalize hxg : r.getD k 0 = x at *
              have HXG := Lib.hid hxg
              clear hmem hD hxg
              go_wp2_with fail
              with_reducible refine (contains_any false _ _ _ _ _ _ _ HPR2.out (by omega) HM.out).mono ?_
              rintro e w' ⟨rfl, rfl⟩
              go_wp2_with
                (at_builtin
                 refine wpList_app _ ei_int rfl (.tmp 39) (.tmp 41) rfl (g + 6) (.slice pA2 P.length pc2) P.length ((intsN P).map (Value.int .i64)) rfl (HD2.out.own.alloc _) (wo.heap.size + 1) (some ⟨wo.heap.size, 0, none⟩) 1 1 [.int .i64 (k : Int)] rfl (Reads.new wo 3 #[.int .i64 (k : Int)] 1 1 rfl) (by simp [Value.oneCell']) (by simp only [maxLen]; omega) (by omega) (by simp; omega) ?_
                 intro v3 w3 hown3 hg3 hbw3 hat3
                 obtain ⟨A3, c3, rfl, _, _, _⟩ := own_open hown3
                 have HP3 := Lib.hid (HD2.out.push k _ hown3 hg3 hat3)
                 have hb3 : Below (g + 6) wo w3 := ((Below.refl _ _).alloc hsz _).trans hbw3
                 have cp3 := (hb3.cell (p := ⟨g + 2, 0, none⟩) (by show g + 2 < _; omega)).trans cp
                 have fp3 := (hb3.frozen (p := ⟨g + 2, 0, none⟩) (by show g + 2 < _; omega)).trans fp
                 have ct3 : (w3.setCell ⟨g + 2, 0, none⟩ (.slice A3 (P.length + 1) c3)).cell? ⟨g + 5, 0, none⟩ = some (vfC g) := HP3.out.fn.cell 0
                 unfold vfC at ct3
                 have HB3 := Lib.hid hb3
                 clear hown3 hg3 hbw3 hat3 hb3)
              with_reducible refine (IH2.out _ _ _ _ _ HP3.out).mono ?_
              rintro e w5 ⟨rfl, hb5, vb5, vp5, l5, f5, hD5⟩
              obtain ⟨q, cap, rfl, _, _, hqc, hqm⟩ := own_form hD5.own (by simp)
              rw [List.length_append, List.length_singleton] at hqc
              unfold maxLen at hqm
              have cp5 : w5.cell? ⟨g + 2, 0, none⟩ = some (.slice (some ⟨q, 0, none⟩) (P.length + 1) cap) := by have := hD5.pre.cell 0; simpa using this
              have fp5 : w5.frozen? ⟨g + 2, 0, none⟩ = false := hD5.pre.frozen 0
              have HP5 : Hid (DSt (w5.setCell ⟨g + 2, 0, none⟩ (.slice (some ⟨q, 0, none⟩) P.length cap)) g (some ad) n c rows vb5 (.slice (some ⟨q, 0, none⟩) P.length cap) (vfC g) l5 f5 P (foldK (colsR rows) rs r P tot st (k + 1))) := DSt.pop (k := k) (by simpa using hD5)
              have HB5 : Hid (Below g w (w5.setCell ⟨g + 2, 0, none⟩ (.slice (some ⟨q, 0, none⟩) P.length cap))) := by
                have h1 : Below g wo w3 := HB3.out.mono (by omega)
                have h2 := h1.setCell (p := ⟨g + 2, 0, none⟩) (by show g ≤ g + 2; omega) (.slice A3 (P.length + 1) c3)
                exact (hbr.trans (h2.trans hb5)).setCell (p := ⟨g + 2, 0, none⟩) (by show g ≤ g + 2; omega) _
              clear hb5 hD5
              go_wp2_with fail
              go_roundw
              case rel => exact ⟨k + 1, _, _, _, _, by omega, by go_num, HP5.out, HB5.out⟩
              case measure => simp [intOf]; omega
          · obtain rfl : k = r.length := by omega
            have HD2 := Lib.hid hD
            clear hD
            go_wp2_with fail
            refine bodyPost_ret (results_none rfl _ _ _) rfl ?_
            exact ⟨rfl, hbr, _, _, _, _, by rw [← HST.out]; have := HD2.out; rwa [← HC.out] at this⟩


theorem World.heap_size_alloc' (w : World) (o : Obj) : (w.alloc o).heap.size = w.heap.size + 1 := by simp
/-- the world in which the search begins -/
def startW (w : World) (A : Option Addr) (n c : Nat) : World :=
  ((((((w.alloc (Obj.cells #[.slice A n c] 43)).alloc (Obj.cells #[.slice none 0 0] 32)).alloc (Obj.cells #[.slice none 0 0] 32)).alloc (Obj.cells #[.int .i64 0] 3)).alloc (Obj.cells #[.bool false] 4)).alloc
    (Obj.cells #[vfC w.heap.size] 60))
theorem startW_DSt (w : World) (A : Option Addr) (n c : Nat) (rows : List (List Int)) (hm : Mat w w.heap.size A n rows) :
    DSt (startW w A n c) w.heap.size A n c rows (.slice none 0 0) (.slice none 0 0) (vfC w.heap.size) 0 false [] none := by
  unfold startW
  refine ⟨?_, ?_, ?_, ?_, ?_, ?_, ?_, ?_, fun _ => rfl, fun _ _ e => (by cases e)⟩
  · exact (((((Blk.new _ _ _).alloc _).alloc _).alloc _).alloc _).alloc _
  · have h := Blk.new (w.alloc (Obj.cells #[.slice A n c] 43)) 32 #[.slice none 0 0]
    simp only [World.heap_size_alloc'] at h
    exact (((h.alloc _).alloc _).alloc _).alloc _
  · have h := Blk.new ((w.alloc (Obj.cells #[.slice A n c] 43)).alloc (Obj.cells #[.slice none 0 0] 32)) 32 #[.slice none 0 0]
    simp only [World.heap_size_alloc'] at h
    exact ((h.alloc _).alloc _).alloc _
  · have h := Blk.new (((w.alloc (Obj.cells #[.slice A n c] 43)).alloc (Obj.cells #[.slice none 0 0] 32)).alloc (Obj.cells #[.slice none 0 0] 32)) 3 #[.int .i64 0]
    simp only [World.heap_size_alloc'] at h
    exact (h.alloc _).alloc _
  · have h := Blk.new ((((w.alloc (Obj.cells #[.slice A n c] 43)).alloc (Obj.cells #[.slice none 0 0] 32)).alloc (Obj.cells #[.slice none 0 0] 32)).alloc (Obj.cells #[.int .i64 0] 3)) 4 #[.bool false]
    simp only [World.heap_size_alloc'] at h
    exact h.alloc _
  · have h := Blk.new (((((w.alloc (Obj.cells #[.slice A n c] 43)).alloc (Obj.cells #[.slice none 0 0] 32)).alloc (Obj.cells #[.slice none 0 0] 32)).alloc (Obj.cells #[.int .i64 0] 3)).alloc (Obj.cells #[.bool false] 4)) 60 #[vfC w.heap.size]
    simp only [World.heap_size_alloc'] at h
    exact h
  · refine (((((hm.alloc ?_ _).alloc ?_ _).alloc ?_ _).alloc ?_ _).alloc ?_ _).alloc ?_ _ <;> (try simp only [World.heap_size_alloc']) <;> omega
  · exact World.ownsRow_nil _ _ _ _

set_option maxHeartbeats 1000000 in
theorem best_ok (A : Option Addr) (n c : Nat) (rows : List (List Int)) (w : World) (hm : Mat w w.heap.size A n rows) (hR : RightM rows) :
    Calls Try.prog 11 #[.slice A n c] w fun e w' => ∃ (p : List Nat) (l : Int) (vA : Option Addr) (vc : Nat), e = .returned (.tuple #[.slice vA p.length vc, .int .i64 l, .int .i64 0]) ∧
      IsBest (colsR rows) rows p l ∧ p.length ≤ vc ∧ vc ≤ maxLen ∧ Ints w' w'.heap.size vA p.length (intsN p) ∧ Below w.heap.size w w' := by
  have HM := Lib.hid hm
  have HL := Lib.hid hm.len
  have h8 : n ≤ 8 := by rw [← hm.len]; exact hR.few
  have HR : Hid (∀ W, Mat W w.heap.size A n rows → Calls Try.prog 19 #[.slice A n c] W fun e w' => e = .returned (.int .i64 0) ∧ W = w') := fun W hW => by
    rw [← errR_of hR]; exact right_any A n c _ rows W hW (by omega)
  have HRM := Lib.hid hR
  clear hm hR
  go_enter Try.func11, Try.ntmps11
  go_wp2_with fail
  with_reducible refine (HR.out _ (HM.out.alloc (Nat.le_refl _) _)).mono ?_
  rintro e w' ⟨rfl, rfl⟩
  go_wp2_with fail
  obtain ⟨st', hst⟩ : ∃ st', dfsA (colsR rows) rows [] 0 none = st' := ⟨_, rfl⟩
  refine (try_any w.heap.size A n c rows HRM.out HL.out rows [] 0 none _ _ _ _ _ (startW_DSt w A n c rows HM.out) rfl (by simp) (by omega) (by simp) st' hst).mono ?_
  rintro e w5 ⟨rfl, hb5, vb, vp, l, f, hD⟩
  obtain ⟨p, m, hbf, hbest⟩ := bestF_isBest (colsR rows) rows HRM.out.nn HRM.out.cols_le.1
  have hst2 : st' = some (p, m) := by rw [← hst]; exact hbf
  subst hst2
  obtain ⟨rfl, rfl, hown, _⟩ := hD.some_ p m rfl
  obtain ⟨vA, vc, rfl, hv1, hv2, hv3⟩ := own_open hown
  have cb : w5.cell? ⟨w.heap.size + 1, 0, none⟩ = some (.slice vA p.length vc) := hD.best.cell 0
  have cl : w5.cell? ⟨w.heap.size + 1 + 1 + 1, 0, none⟩ = some (.int .i64 l) := hD.lst.cell 0
  have HV := Lib.hid hv3
  have HBest := Lib.hid hbest
  have hb0 : Below w.heap.size w (startW w A n c) := by
    unfold startW
    refine ((((((Below.refl _ _).alloc ?_ _).alloc ?_ _).alloc ?_ _).alloc ?_ _).alloc ?_ _).alloc ?_ _ <;> (try simp only [World.heap_size_alloc']) <;> omega
  have HB := Lib.hid (hb0.trans hb5)
  clear hD hown hv3 hbest hb5 hb0 hbf hst
  go_wp2_with fail
  go_quiet (fail)
  go_wp2_with fail
  go_ret3
  exact ⟨p, l, vA, vc, rfl, HBest.out, hv1, hv2, Reads.drewN HV.out _, below_drewN HB.out _⟩
end Asg
end Go.Proofs.Ytbegehooefhiiaa
