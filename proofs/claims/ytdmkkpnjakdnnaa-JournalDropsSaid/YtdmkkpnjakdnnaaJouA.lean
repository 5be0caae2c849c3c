/-
  Chapter 29: the fields of a ride, their ranges, the text of a ride, the bytes of a link; of the program and of its reference, walked.
-/
import Derived.Test.YtdmkkpnjakdnnaaCodecV
import Derived.Test.YtdmkkpnjakdnnaaSealH
import Derived.Test.YtdmkkpnjakdnnaaJouN
import Derived.Test.YtdmkkpnjakdnnaaStV
import Derived.Test.YtdmkkpnjakdnnaaStrO
namespace Go.Proofs.Ytdmkkpnjakdnnaa
open Go.RowKit

/-- the cells of the fields -/
def fsV (r : Rd) : Array Value := (r.fs.map (Value.int .i64)).toArray
theorem fsV_list (r : Rd) : (fsV r).toList = r.fs.map (Value.int .i64) := rfl
theorem fsV_size (r : Rd) : (fsV r).size = 7 := rfl
theorem fs_at (r : Rd) (k : Nat) (hk : k < 7) : (fsV r)[k]? = some (.int .i64 (r.fs.getD k 0)) := by
  have hl : k < r.fs.length := hk
  unfold fsV
  simp [List.getElem?_eq_getElem hl]
theorem fs_index (r : Rd) (k : Nat) (hk : k < 7) (W : World) : (Instr.index 53 (.agg (fsV r)) (.int .i64 (k : Int))).run Try.prog W = .ok (.int .i64 (r.fs.getD k 0)) W := by
  obtain ⟨gate, seq, ser, cnt, prod, lift, att⟩ := r
  match k, hk with
  | 0, _ => show _ = _; kernel_rfl
  | 1, _ => show _ = _; kernel_rfl
  | 2, _ => show _ = _; kernel_rfl
  | 3, _ => show _ = _; kernel_rfl
  | 4, _ => show _ = _; kernel_rfl
  | 5, _ => show _ = _; kernel_rfl
  | 6, _ => show _ = _; kernel_rfl

set_option maxRecDepth 100000 in
theorem fields_any (r : Rd) (w : World) :
    Calls Try.prog 32 #[.agg #[.int .i64 r.gate, .int .i64 r.seq, .int .i64 r.ser, .int .i64 r.cnt, .int .i64 r.prod, .int .i64 r.lift, .int .i64 r.att]] w fun e w' => e = .returned (.agg (fsV r)) ∧ Below w.heap.size w w' := by
  obtain ⟨gate, seq, ser, cnt, prod, lift, att⟩ := r
  have HB : Hid (Blk ((w.alloc (.cells #[.int .i64 gate, .int .i64 seq, .int .i64 ser, .int .i64 cnt, .int .i64 prod, .int .i64 lift, .int .i64 att] 30)).alloc (.cells #[.int .i64 0, .int .i64 0, .int .i64 0, .int .i64 0, .int .i64 0, .int .i64 0, .int .i64 0] 53)) (w.heap.size + 1) 53 #[.int .i64 0, .int .i64 0, .int .i64 0, .int .i64 0, .int .i64 0, .int .i64 0, .int .i64 0]) := by
    have h := Blk.new (w.alloc (.cells #[.int .i64 gate, .int .i64 seq, .int .i64 ser, .int .i64 cnt, .int .i64 prod, .int .i64 lift, .int .i64 att] 30)) 53 #[.int .i64 0, .int .i64 0, .int .i64 0, .int .i64 0, .int .i64 0, .int .i64 0, .int .i64 0]
    have e : ∀ o, (w.alloc o).heap.size = w.heap.size + 1 := fun o => by simp
    rw [e] at h
    exact hide h
  have HL : Hid (Below w.heap.size w ((w.alloc (.cells #[.int .i64 gate, .int .i64 seq, .int .i64 ser, .int .i64 cnt, .int .i64 prod, .int .i64 lift, .int .i64 att] 30)).alloc (.cells #[.int .i64 0, .int .i64 0, .int .i64 0, .int .i64 0, .int .i64 0, .int .i64 0, .int .i64 0] 53))) := hide (((Below.refl _ _).alloc (Nat.le_refl _) _).alloc (by simp) _)
  go_enter Try.func32, Try.ntmps32
  go_wp2_with
    (refine wpList_store_blk rfl 53 (.tmp 2) (.tmp 17) rfl (w.heap.size + 1) #[.int .i64 gate, .int .i64 seq, .int .i64 ser, .int .i64 cnt, .int .i64 prod, .int .i64 lift, .int .i64 att] rfl rfl _ _ HB.out (by kernel_rfl) rfl (by simp [Value.oneCell']) ?_
     intro w5 hx5 hon5
     have HX5 := Lib.hid hx5
     have HL5 := Lib.hid (hon5.below HL.out (Nat.le_succ _))
     clear hx5 hon5)
  refine bodyPost_ret (v := .agg #[.int .i64 gate, .int .i64 seq, .int .i64 ser, .int .i64 cnt, .int .i64 prod, .int .i64 lift, .int .i64 att]) (results_cell_row rfl _ _ (w.heap.size + 1) 53 _ (0, 0) _ rfl HX5.out Try.underlying53 rfl (by kernel_rfl)) rfl ⟨rfl, HL5.out⟩
set_option maxRecDepth 100000 in
theorem rfields_any (r : Rd) (w : World) :
    Calls Try.prog 35 #[.agg #[.int .i64 r.gate, .int .i64 r.seq, .int .i64 r.ser, .int .i64 r.cnt, .int .i64 r.prod, .int .i64 r.lift, .int .i64 r.att]] w fun e w' => e = .returned (.agg (fsV r)) ∧ Below w.heap.size w w' := by
  obtain ⟨gate, seq, ser, cnt, prod, lift, att⟩ := r
  have HB : Hid (Blk ((w.alloc (.cells #[.int .i64 gate, .int .i64 seq, .int .i64 ser, .int .i64 cnt, .int .i64 prod, .int .i64 lift, .int .i64 att] 30)).alloc (.cells #[.int .i64 0, .int .i64 0, .int .i64 0, .int .i64 0, .int .i64 0, .int .i64 0, .int .i64 0] 53)) (w.heap.size + 1) 53 #[.int .i64 0, .int .i64 0, .int .i64 0, .int .i64 0, .int .i64 0, .int .i64 0, .int .i64 0]) := by
    have h := Blk.new (w.alloc (.cells #[.int .i64 gate, .int .i64 seq, .int .i64 ser, .int .i64 cnt, .int .i64 prod, .int .i64 lift, .int .i64 att] 30)) 53 #[.int .i64 0, .int .i64 0, .int .i64 0, .int .i64 0, .int .i64 0, .int .i64 0, .int .i64 0]
    have e : ∀ o, (w.alloc o).heap.size = w.heap.size + 1 := fun o => by simp
    rw [e] at h
    exact hide h
  have HL : Hid (Below w.heap.size w ((w.alloc (.cells #[.int .i64 gate, .int .i64 seq, .int .i64 ser, .int .i64 cnt, .int .i64 prod, .int .i64 lift, .int .i64 att] 30)).alloc (.cells #[.int .i64 0, .int .i64 0, .int .i64 0, .int .i64 0, .int .i64 0, .int .i64 0, .int .i64 0] 53))) := hide (((Below.refl _ _).alloc (Nat.le_refl _) _).alloc (by simp) _)
  go_enter Try.func35, Try.ntmps35
  go_wp2_with
    (refine wpList_store_blk rfl 53 (.tmp 2) (.tmp 17) rfl (w.heap.size + 1) #[.int .i64 gate, .int .i64 seq, .int .i64 ser, .int .i64 cnt, .int .i64 prod, .int .i64 lift, .int .i64 att] rfl rfl _ _ HB.out (by kernel_rfl) rfl (by simp [Value.oneCell']) ?_
     intro w5 hx5 hon5
     have HX5 := Lib.hid hx5
     have HL5 := Lib.hid (hon5.below HL.out (Nat.le_succ _))
     clear hx5 hon5)
  refine bodyPost_ret (v := .agg #[.int .i64 gate, .int .i64 seq, .int .i64 ser, .int .i64 cnt, .int .i64 prod, .int .i64 lift, .int .i64 att]) (results_cell_row rfl _ _ (w.heap.size + 1) 53 _ (0, 0) _ rfl HX5.out Try.underlying53 rfl (by kernel_rfl)) rfl ⟨rfl, HL5.out⟩

/-- the first fields are in their range -/
def okK (r : Rd) (k : Nat) : Bool := (r.fs.take k).all inR
theorem okK_succ (r : Rd) (k : Nat) (hk : k < 7) : okK r (k + 1) = (okK r k && inR (r.fs.getD k 0)) := by
  have hl : k < r.fs.length := hk
  unfold okK
  rw [List.take_succ_eq_append_getElem hl, List.all_append]
  simp [List.getElem?_eq_getElem hl]
theorem okK_end (r : Rd) : okK r 7 = okB r := by
  unfold okK okB
  rw [List.take_of_length_le (by rw [Rd.fs_len]; exact Nat.le_refl _)]
theorem okB_bad {r : Rd} {k : Nat} (hk : k < 7) (h : inR (r.fs.getD k 0) = false) : okB r = false := by
  have hl : k < r.fs.length := hk
  cases hx : okB r with
  | false => rfl
  | true =>
    unfold okB at hx
    have := List.all_eq_true.1 hx (r.fs.getD k 0) (by simp [List.getElem?_eq_getElem hl])
    rw [h] at this
    cases this

set_option maxRecDepth 100000 in
set_option maxHeartbeats 1000000 in
theorem inRange_any (r : Rd) (w : World) :
    Calls Try.prog 24 #[.agg #[.int .i64 r.gate, .int .i64 r.seq, .int .i64 r.ser, .int .i64 r.cnt, .int .i64 r.prod, .int .i64 r.lift, .int .i64 r.att]] w fun e w' => e = .returned (.bool (okB r)) ∧ Below w.heap.size w w' := by
  have HF : Hid (∀ W, Calls Try.prog 32 #[.agg #[.int .i64 r.gate, .int .i64 r.seq, .int .i64 r.ser, .int .i64 r.cnt, .int .i64 r.prod, .int .i64 r.lift, .int .i64 r.att]] W fun e w' => e = .returned (.agg (fsV r)) ∧ Below W.heap.size W w') := fun W => fields_any r W
  have HI : Hid (∀ k : Nat, k < 7 → ∀ W, (Instr.index 53 (.agg (fsV r)) (.int .i64 (k : Int))).run Try.prog W = .ok (.int .i64 (r.fs.getD k 0)) W) := fun k hk W => fs_index r k hk W
  have HS : Hid (∀ k : Nat, k < 7 → okK r (k + 1) = (okK r k && inR (r.fs.getD k 0))) := fun k hk => okK_succ r k hk
  have HE : Hid (okK r 7 = okB r) := okK_end r
  have HBd : Hid (∀ k : Nat, k < 7 → inR (r.fs.getD k 0) = false → okB r = false) := fun k hk h => okB_bad hk h
  have H0 : Hid (okK r 0 = true) := rfl
  generalize fsV r = fv at *
  generalize okK r = ok at *
  generalize okB r = res at *
  generalize hfs : (fun k => r.fs.getD k 0) = fk
  have HK : Hid (∀ k, r.fs.getD k 0 = fk k) := fun k => by rw [← hfs]
  clear hfs
  obtain ⟨gate, seq, ser, cnt, prod, lift, att⟩ := r
  go_enter Try.func24, Try.ntmps24
  go_wp2_with fail
  have HBw0 := (Blk.new w 30 #[.int .i64 gate, .int .i64 seq, .int .i64 ser, .int .i64 cnt, .int .i64 prod, .int .i64 lift, .int .i64 att])
  have HLw0 := (below_new w (.cells #[.int .i64 gate, .int .i64 seq, .int .i64 ser, .int .i64 cnt, .int .i64 prod, .int .i64 lift, .int .i64 att] 30))
  have hsw0 : (w.alloc (.cells #[.int .i64 gate, .int .i64 seq, .int .i64 ser, .int .i64 cnt, .int .i64 prod, .int .i64 lift, .int .i64 att] 30)).heap.size = w.heap.size + 1 := by simp
  generalize w.alloc (.cells #[.int .i64 gate, .int .i64 seq, .int .i64 ser, .int .i64 cnt, .int .i64 prod, .int .i64 lift, .int .i64 att] 30) = w0 at HBw0 HLw0 hsw0 ⊢
  replace HBw0 := Lib.hid HBw0
  replace HLw0 := Lib.hid HLw0
  have hlw0 : w.heap.size < w0.heap.size := by omega
  replace hsw0 := Lib.hid hsw0
  have c0 : w0.cell? ⟨w.heap.size, 0, none⟩ = some (.int .i64 gate) := HBw0.out.cell 0
  have c1 : w0.cell? ⟨w.heap.size, 1, none⟩ = some (.int .i64 seq) := HBw0.out.cell 1
  have c2 : w0.cell? ⟨w.heap.size, 2, none⟩ = some (.int .i64 ser) := HBw0.out.cell 2
  have c3 : w0.cell? ⟨w.heap.size, 3, none⟩ = some (.int .i64 cnt) := HBw0.out.cell 3
  have c4 : w0.cell? ⟨w.heap.size, 4, none⟩ = some (.int .i64 prod) := HBw0.out.cell 4
  have c5 : w0.cell? ⟨w.heap.size, 5, none⟩ = some (.int .i64 lift) := HBw0.out.cell 5
  have c6 : w0.cell? ⟨w.heap.size, 6, none⟩ = some (.int .i64 att) := HBw0.out.cell 6
  go_wp2_with fail
  with_reducible refine (HF.out _).mono ?_
  rintro e w1 ⟨rfl, hb1⟩
  have HB1 := Lib.hid (HLw0.out.trans (hb1.mono HLw0.out.size))
  clear hb1 c0 c1 c2 c3 c4 c5 c6
  go_wp2_with fail
  go_loopw [7] (fun i wr => ∃ k : Nat, k ≤ 7 ∧ i = .int .i64 k ∧ ok k = true ∧ wr = w1) (fun i _ => 7 - (intOf i).toNat)
  case atStart => exact ⟨0, by omega, rfl, H0.out, rfl⟩
  case round =>
    obtain ⟨k, hk, rfl, hok, rfl⟩ := hrel
    have HOk := Lib.hid hok
    clear hok
    by_cases hlt : k < 7
    · have hidx := HI.out k hlt
      have hs := HS.out k hlt
      have hbd := HBd.out k hlt
      rw [HK.out k] at hidx hs hbd
      generalize fk k = z at *
      by_cases h1 : z < 0
      · have hd : decide (z < 0) = true := decide_eq_true h1
        have HR : Hid (res = false) := hbd (by unfold inR; simp; omega)
        clear hs hbd
        go_wp2_with fail
        go_ret
        exact ⟨by rw [HR.out]; rfl, HB1.out⟩
      · have hd : decide (z < 0) = false := decide_eq_false h1
        by_cases h2 : 20000000 < z
        · have HR : Hid (res = false) := hbd (by unfold inR; simp; omega)
          clear hs hbd
          go_wp2_with fail
          go_ret
          exact ⟨by rw [HR.out]; rfl, HB1.out⟩
        · have hd2 : decide (20000000 < z) = false := decide_eq_false h2
          have HN : Hid (ok (k + 1) = true) := by
            show _ = _
            rw [hs, HOk.out]
            unfold inR
            simp; omega
          clear hs hbd
          go_wp2_with fail
          go_roundw
          case rel => exact ⟨k + 1, by omega, by go_num, HN.out, trivial⟩
          case measure => simp [intOf]; omega
    · obtain rfl : k = 7 := by omega
      have HR : Hid (res = true) := by rw [← HE.out]; exact HOk
      go_wp2_with fail
      go_ret
      exact ⟨by rw [HR.out]; rfl, HB1.out⟩

set_option maxRecDepth 100000 in
set_option maxHeartbeats 1000000 in
theorem rRight_any (r : Rd) (w : World) :
    Calls Try.prog 26 #[.agg #[.int .i64 r.gate, .int .i64 r.seq, .int .i64 r.ser, .int .i64 r.cnt, .int .i64 r.prod, .int .i64 r.lift, .int .i64 r.att]] w fun e w' => e = .returned (.bool (okB r)) ∧ Below w.heap.size w w' := by
  have HF : Hid (∀ W, Calls Try.prog 35 #[.agg #[.int .i64 r.gate, .int .i64 r.seq, .int .i64 r.ser, .int .i64 r.cnt, .int .i64 r.prod, .int .i64 r.lift, .int .i64 r.att]] W fun e w' => e = .returned (.agg (fsV r)) ∧ Below W.heap.size W w') := fun W => rfields_any r W
  have HI : Hid (∀ k : Nat, k < 7 → (fsV r)[k]? = some (.int .i64 (r.fs.getD k 0))) := fun k hk => fs_at r k hk
  have HS : Hid (∀ k : Nat, k < 7 → okK r (k + 1) = (okK r k && inR (r.fs.getD k 0))) := fun k hk => okK_succ r k hk
  have HE : Hid (okK r 7 = okB r) := okK_end r
  have HBd : Hid (∀ k : Nat, k < 7 → inR (r.fs.getD k 0) = false → okB r = false) := fun k hk h => okB_bad hk h
  have H0 : Hid (okK r 0 = true) := rfl
  have HSz : Hid ((fsV r).size = 7) := fsV_size r
  have H1 : Hid ((fsV r).all (·.oneCell') = true) := by show _ = _; simp [fsV, Rd.fs, Value.oneCell']
  generalize fsV r = fv at *
  generalize okK r = ok at *
  generalize okB r = res at *
  generalize hfs : (fun k => r.fs.getD k 0) = fk
  have HK : Hid (∀ k, r.fs.getD k 0 = fk k) := fun k => by rw [← hfs]
  clear hfs
  obtain ⟨gate, seq, ser, cnt, prod, lift, att⟩ := r
  go_enter Try.func26, Try.ntmps26
  go_wp2_with fail
  have HBw0 := (Blk.new w 30 #[.int .i64 gate, .int .i64 seq, .int .i64 ser, .int .i64 cnt, .int .i64 prod, .int .i64 lift, .int .i64 att])
  have HLw0 := (below_new w (.cells #[.int .i64 gate, .int .i64 seq, .int .i64 ser, .int .i64 cnt, .int .i64 prod, .int .i64 lift, .int .i64 att] 30))
  have hsw0 : (w.alloc (.cells #[.int .i64 gate, .int .i64 seq, .int .i64 ser, .int .i64 cnt, .int .i64 prod, .int .i64 lift, .int .i64 att] 30)).heap.size = w.heap.size + 1 := by simp
  generalize w.alloc (.cells #[.int .i64 gate, .int .i64 seq, .int .i64 ser, .int .i64 cnt, .int .i64 prod, .int .i64 lift, .int .i64 att] 30) = w0 at HBw0 HLw0 hsw0 ⊢
  replace HBw0 := Lib.hid HBw0
  replace HLw0 := Lib.hid HLw0
  have hlw0 : w.heap.size < w0.heap.size := by omega
  replace hsw0 := Lib.hid hsw0
  have c0 : w0.cell? ⟨w.heap.size, 0, none⟩ = some (.int .i64 gate) := HBw0.out.cell 0
  have c1 : w0.cell? ⟨w.heap.size, 1, none⟩ = some (.int .i64 seq) := HBw0.out.cell 1
  have c2 : w0.cell? ⟨w.heap.size, 2, none⟩ = some (.int .i64 ser) := HBw0.out.cell 2
  have c3 : w0.cell? ⟨w.heap.size, 3, none⟩ = some (.int .i64 cnt) := HBw0.out.cell 3
  have c4 : w0.cell? ⟨w.heap.size, 4, none⟩ = some (.int .i64 prod) := HBw0.out.cell 4
  have c5 : w0.cell? ⟨w.heap.size, 5, none⟩ = some (.int .i64 lift) := HBw0.out.cell 5
  have c6 : w0.cell? ⟨w.heap.size, 6, none⟩ = some (.int .i64 att) := HBw0.out.cell 6
  go_wp2_with fail
  with_reducible refine (HF.out _).mono ?_
  rintro e w1 ⟨rfl, hb1⟩
  have HB1 := Lib.hid (HLw0.out.trans (hb1.mono HLw0.out.size))
  have hl1 : w.heap.size ≤ w1.heap.size := HB1.out.size
  clear hb1 c0 c1 c2 c3 c4 c5 c6
  go_wp2_with
    (refine wpList_store_blk rfl 53 (.tmp 3) (.tmp 6) rfl w1.heap.size fv rfl rfl _ _ (Blk.new w1 53 #[.int .i64 0, .int .i64 0, .int .i64 0, .int .i64 0, .int .i64 0, .int .i64 0, .int .i64 0]) (by rw [HSz.out]; kernel_rfl) (by rw [HSz.out]; rfl) H1.out ?_
     intro w2 hx2 hon2
     have HX2 := Lib.hid hx2
     have HB2 := Lib.hid (hon2.below (HB1.out.trans ((below_new w1 _).mono HB1.out.size)) HB1.out.size)
     clear hx2 hon2)
  go_loopw [4] (fun i wr => ∃ k : Nat, k ≤ 7 ∧ i = .int .i64 k ∧ ok k = true ∧ wr = w2) (fun i _ => 7 - (intOf i).toNat)
  case atStart => exact ⟨0, by omega, rfl, H0.out, rfl⟩
  case round =>
    obtain ⟨k, hk, rfl, hok, rfl⟩ := hrel
    have HOk := Lib.hid hok
    clear hok
    by_cases hlt : k < 7
    · have hidx := HI.out k hlt
      have hs := HS.out k hlt
      have hbd := HBd.out k hlt
      rw [HK.out k] at hidx hs hbd
      have hcl := (HX2.out.cell k).trans hidx
      clear hidx
      generalize fk k = z at *
      by_cases h1 : z < 0
      · have hd : decide (z < 0) = true := decide_eq_true h1
        have HR : Hid (res = false) := hbd (by unfold inR; simp; omega)
        clear hs hbd
        go_wp2_with fail
        go_ret
        exact ⟨by rw [HR.out]; rfl, HB2.out⟩
      · have hd : decide (z < 0) = false := decide_eq_false h1
        by_cases h2 : 20000000 < z
        · have HR : Hid (res = false) := hbd (by unfold inR; simp; omega)
          clear hs hbd
          go_wp2_with fail
          go_ret
          exact ⟨by rw [HR.out]; rfl, HB2.out⟩
        · have hd2 : decide (20000000 < z) = false := decide_eq_false h2
          have HN : Hid (ok (k + 1) = true) := by
            show _ = _
            rw [hs, HOk.out]
            unfold inR
            simp; omega
          clear hs hbd
          go_wp2_with fail
          go_roundw
          case rel => exact ⟨k + 1, by omega, by go_num, HN.out, trivial⟩
          case measure => simp [intOf]; omega
    · obtain rfl : k = 7 := by omega
      have HR : Hid (res = true) := by rw [← HE.out]; exact HOk
      go_wp2_with fail
      go_ret
      exact ⟨by rw [HR.out]; rfl, HB2.out⟩
end Go.Proofs.Ytdmkkpnjakdnnaa
