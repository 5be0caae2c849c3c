/-
  Chapter 29: the text of a ride, the bytes of a link, the frame of a ride; of the program and of its reference, walked.
-/
import Derived.Test.YtdmkkpnjakdnnaaJouA
namespace Go.Proofs.Ytdmkkpnjakdnnaa
open Go.RowKit

/-- the byte with number k of a link, the lowest one is 0 -/
def beB (T k : Nat) : UInt8 := UInt8.ofNat (T / 2 ^ (8 * k))
def beL (T : Nat) : Nat → List UInt8
  | 0 => []
  | k + 1 => beL T k ++ [beB T (7 - k)]
theorem beL_len (T : Nat) : ∀ k, (beL T k).length = k
  | 0 => rfl
  | k + 1 => by simp [beL, beL_len T k]
theorem beL_8 (T : Nat) : beL T 8 = be8 T := by
  simp [beL, beB, be8]
theorem beB_form (T k : Nat) (e : Nat) (he : e = 8 * k) : Value.int .u8 (((T : Int) / 2 ^ e) % 256) = B8 (beB T k) := by
  subst he
  have h : ((T : Int) / 2 ^ (8 * k)) % 256 = (((T / 2 ^ (8 * k)) % 256 : Nat) : Int) := by
    rw [Int.natCast_emod, Int.natCast_ediv, Int.natCast_pow]
    rfl
  rw [h, B8_of _ (Nat.mod_lt _ (by omega))]
  congr 1
  apply toNat_ext
  rw [beB, UInt8.toNat_ofNat', UInt8.toNat_ofNat']
  omega
theorem putsN_next (l : List Int) (k : Nat) (h : k < l.length) : putsN (l.take (k + 1)) = putsN (l.take k) ++ putN (l.getD k 0).toNat := by
  rw [List.take_succ_eq_append_getElem h, putsN_append]
  simp [putsN, List.getElem?_eq_getElem h]
/-- the text of the first fields -/
def txtK (r : Rd) (k : Nat) : List UInt8 := putsN (r.fs.take k)
theorem txtK_succ (r : Rd) (k : Nat) (hk : k < 7) : txtK r (k + 1) = txtK r k ++ putN (r.fs.getD k 0).toNat := putsN_next _ _ hk
theorem txtK_end (r : Rd) : txtK r 7 = textR r := by
  unfold txtK textR
  rw [List.take_of_length_le (by rw [Rd.fs_len]; exact Nat.le_refl _)]
theorem txtK_len (r : Rd) (k : Nat) : (txtK r k).length ≤ 70 := by
  have h := putsN_len (r.fs.take k)
  have h2 : (r.fs.take k).length ≤ 7 := by rw [List.length_take, Rd.fs_len]; omega
  unfold txtK
  omega
theorem fs_bd {r : Rd} (h : okB r = true) (k : Nat) (hk : k < 7) : 0 ≤ r.fs.getD k 0 ∧ r.fs.getD k 0 ≤ 20000000 := by
  have hl : k < r.fs.length := hk
  exact okB_iff.1 h _ (by simp [List.getElem?_eq_getElem hl])

set_option maxRecDepth 100000 in
set_option maxHeartbeats 1000000 in
theorem rText_any (r : Rd) (w : World) (hok : okB r = true) :
    Calls Try.prog 36 #[.agg #[.int .i64 r.gate, .int .i64 r.seq, .int .i64 r.ser, .int .i64 r.cnt, .int .i64 r.prod, .int .i64 r.lift, .int .i64 r.att]] w fun e w' => ∃ v, e = .returned v ∧ OwnB w' w.heap.size v (textR r) ∧ Below w.heap.size w w' := by
  have HF : Hid (∀ W, Calls Try.prog 35 #[.agg #[.int .i64 r.gate, .int .i64 r.seq, .int .i64 r.ser, .int .i64 r.cnt, .int .i64 r.prod, .int .i64 r.lift, .int .i64 r.att]] W fun e w' => e = .returned (.agg (fsV r)) ∧ Below W.heap.size W w') := fun W => rfields_any r W
  have HI : Hid (∀ k : Nat, k < 7 → (fsV r)[k]? = some (.int .i64 (r.fs.getD k 0))) := fun k hk => fs_at r k hk
  have HS : Hid (∀ k : Nat, k < 7 → txtK r (k + 1) = txtK r k ++ putN (r.fs.getD k 0).toNat) := fun k hk => txtK_succ r k hk
  have HE : Hid (txtK r 7 = textR r) := txtK_end r
  have H0 : Hid (txtK r 0 = []) := rfl
  have HLn : Hid (∀ k, (txtK r k).length ≤ 70) := txtK_len r
  have HBd : Hid (∀ k : Nat, k < 7 → 0 ≤ r.fs.getD k 0 ∧ r.fs.getD k 0 ≤ 20000000) := fun k hk => fs_bd hok k hk
  have HSz : Hid ((fsV r).size = 7) := fsV_size r
  have H1 : Hid ((fsV r).all (·.oneCell') = true) := by show _ = _; simp [fsV, Rd.fs, Value.oneCell']
  clear hok
  generalize fsV r = fv at *
  generalize txtK r = tx at *
  generalize textR r = res at *
  generalize hfs : (fun k => r.fs.getD k 0) = fk
  have HK : Hid (∀ k, r.fs.getD k 0 = fk k) := fun k => by rw [← hfs]
  clear hfs
  obtain ⟨gate, seq, ser, cnt, prod, lift, att⟩ := r
  go_enter Try.func36, Try.ntmps36
  go_wp2_with fail
  have HBw0 := (Blk.new w 30 #[.int .i64 gate, .int .i64 seq, .int .i64 ser, .int .i64 cnt, .int .i64 prod, .int .i64 lift, .int .i64 att])
  have HLw0 := (below_new w (.cells #[.int .i64 gate, .int .i64 seq, .int .i64 ser, .int .i64 cnt, .int .i64 prod, .int .i64 lift, .int .i64 att] 30))
  have hsw0 : (w.alloc (.cells #[.int .i64 gate, .int .i64 seq, .int .i64 ser, .int .i64 cnt, .int .i64 prod, .int .i64 lift, .int .i64 att] 30)).heap.size = w.heap.size + 1 := by simp
  generalize w.alloc (.cells #[.int .i64 gate, .int .i64 seq, .int .i64 ser, .int .i64 cnt, .int .i64 prod, .int .i64 lift, .int .i64 att] 30) = w0 at HBw0 HLw0 hsw0 ⊢
  replace HBw0 := Lib.hid HBw0
  replace HLw0 := Lib.hid HLw0
  have hlw0 : w.heap.size < w0.heap.size := by omega
  replace hsw0 := Lib.hid hsw0
  have c0 : w0.cell? ⟨w.heap.size, 0, none⟩ = some (.int .i64 gate) := HBw0.out.cell 0
  have c1 : w0.cell? ⟨w.heap.size, 1, none⟩ = some (.int .i64 seq) := HBw0.out.cell 1
  have c2 : w0.cell? ⟨w.heap.size, 2, none⟩ = some (.int .i64 ser) := HBw0.out.cell 2
  have c3 : w0.cell? ⟨w.heap.size, 3, none⟩ = some (.int .i64 cnt) := HBw0.out.cell 3
  have c4 : w0.cell? ⟨w.heap.size, 4, none⟩ = some (.int .i64 prod) := HBw0.out.cell 4
  have c5 : w0.cell? ⟨w.heap.size, 5, none⟩ = some (.int .i64 lift) := HBw0.out.cell 5
  have c6 : w0.cell? ⟨w.heap.size, 6, none⟩ = some (.int .i64 att) := HBw0.out.cell 6
  go_wp2_with fail
  with_reducible refine (HF.out _).mono ?_
  rintro e w1 ⟨rfl, hb1⟩
  have HB1 := Lib.hid (HLw0.out.trans (hb1.mono HLw0.out.size))
  have hl1 : w.heap.size ≤ w1.heap.size := HB1.out.size
  clear hb1 c0 c1 c2 c3 c4 c5 c6
  go_wp2_with
    (refine wpList_store_blk rfl 53 (.tmp 4) (.tmp 7) rfl w1.heap.size fv rfl rfl _ _ (Blk.new w1 53 #[.int .i64 0, .int .i64 0, .int .i64 0, .int .i64 0, .int .i64 0, .int .i64 0, .int .i64 0]) (by rw [HSz.out]; kernel_rfl) (by rw [HSz.out]; rfl) H1.out ?_
     intro w2 hx2 hon2
     have HX2 := Lib.hid hx2
     have HB2 := Lib.hid (hon2.below (HB1.out.trans ((below_new w1 _).mono HB1.out.size)) HB1.out.size)
     have HS2 : Hid (w1.heap.size < w2.heap.size) := hx2.lt
     clear hx2 hon2)
  go_loopw [3, 5] (fun v i wr => ∃ k : Nat, k ≤ 7 ∧ i = .int .i64 k ∧ OwnB wr w2.heap.size v (tx k) ∧ Blk wr w1.heap.size 53 fv ∧ Below w2.heap.size w2 wr) (fun _ i _ => 7 - (intOf i).toNat)
  case atStart => exact ⟨0, by omega, rfl, by rw [H0.out]; exact OwnB.nil _ _, HX2.out, Below.refl _ _⟩
  case round =>
    obtain ⟨k, hk, rfl, hown, hblk, hbr⟩ := hrel
    obtain ⟨wo, rfl⟩ : ∃ wo : World, wo = wr := ⟨_, rfl⟩
    obtain ⟨A, n, c, rfl, HN, hc1, hc2, hr⟩ := hown.nam
    have HO := Lib.hid hown
    have HR := Lib.hid hr
    have HB := Lib.hid hbr
    have HBk := Lib.hid hblk
    have hn70 : n ≤ 70 := by rw [← HN.out]; exact HLn.out k
    have hsz := hbr.size
    clear hown hr hbr hblk
    by_cases hlt : k < 7
    · have hidx := HI.out k hlt
      have hs := HS.out k hlt
      have hz := HBd.out k hlt
      rw [HK.out k] at hidx hs hz
      have hcl := (HBk.out.cell k).trans hidx
      have HT := Lib.hid hs
      clear hidx hs
      generalize fk k = z at *
      go_wp2_with fail
      with_reducible refine (rPut_any A n c _ _ z z.toNat _ HR.out (by omega) (Nat.le_refl _) (by omega) rfl).mono ?_
      rintro e w3 ⟨v3, rfl, hown3, hb3⟩
      have HO3 : Hid (OwnB w3 w2.heap.size v3 (tx (k + 1))) := by
        show OwnB _ _ _ _
        rw [HT.out]
        exact hown3.mono hsz
      have HB3 := Lib.hid (HB.out.trans (hb3.mono hsz))
      have HBk3 := Lib.hid (HBk.out.below hb3 HBk.out.lt)
      clear hown3 hb3
      go_wp2_with fail
      go_roundw
      case rel => exact ⟨k + 1, by omega, by go_num, HO3.out, HBk3.out, HB3.out⟩
      case measure => simp [intOf]; omega
    · obtain rfl : k = 7 := by omega
      have HO7 : Hid (OwnB wo w.heap.size (.slice A n c) res) := by
        show OwnB _ _ _ _
        rw [← HE.out]
        exact HO.out.mono HB2.out.size
      have HB7 := Lib.hid (HB2.out.trans (HB.out.mono HB2.out.size))
      go_wp2_with fail
      go_ret
      exact ⟨_, rfl, HO7.out, HB7.out⟩

set_option maxRecDepth 100000 in
set_option maxHeartbeats 1000000 in
theorem rtail_any (T : Nat) (hT : T < 18446744073709551616) (w : World) :
    Calls Try.prog 39 #[.int .u64 (T : Int)] w fun e w' => ∃ v, e = .returned v ∧ OwnB w' w.heap.size v (be8 T) ∧ Below w.heap.size w w' := by
  go_enter Try.func39, Try.ntmps39
  go_wp2_with fail
  go_loopw [3, 4] (fun v i wr => ∃ k : Nat, k ≤ 8 ∧ i = .int .i64 (56 - 8 * (k : Int)) ∧ OwnB wr w.heap.size v (beL T k) ∧ Below w.heap.size w wr) (fun _ i _ => (intOf i + 8).toNat)
  case atStart => exact ⟨0, by omega, rfl, OwnB.nil _ _, Below.refl _ _⟩
  case round =>
    obtain ⟨k, hk, rfl, hown, hbr⟩ := hrel
    obtain ⟨wo, rfl⟩ : ∃ wo : World, wo = wr := ⟨_, rfl⟩
    have HB := Lib.hid hbr
    obtain ⟨A, n, c, rfl, HN, hc1, hc2, hr⟩ := hown.nam
    have hn : n = k := by rw [← HN.out, beL_len]
    have HO := Lib.hid (hown.row HN.out)
    have hsz := hbr.size
    clear hown hbr hr hc1
    by_cases hlt : k < 8
    · obtain ⟨j, hj⟩ : ∃ j : Nat, 56 - 8 * (k : Int) = 8 * (j : Int) := ⟨7 - k, by omega⟩
      rw [hj]
      have hj7 : j ≤ 7 := by omega
      have hjk : j = 7 - k := by omega
      have hu : IntKind.u64.wrap (8 * (j : Int)) = 8 * (j : Int) := IntWalk.u64_in _ (by omega)
      have hu2 : (8 * (j : Int)).toNat = 8 * j := by omega
      have HJ := Lib.hid hj
      have HJK := Lib.hid hjk
      clear hj hjk
      go_wp2_with
        (at_builtin
         refine wpList_app_lit ei_byte rfl (.tmp 9) (.tmp 15) rfl w.heap.size (.slice A n c) n ((beL T k).map B8) rfl HO.out 1 rfl rfl (by simp [Value.oneCell']) (by simp only [maxLen]; omega) (by omega) (by omega) ?_
         intro v4 w4 hown4 hb4 hg4 hat4
         have HO4 := Lib.hid hown4
         have HB4 := Lib.hid (HB.out.trans hb4)
         clear hown4 hb4 hg4 hat4)
      go_roundw
      case rel =>
        have hF := beB_form T j (8 * j) rfl
        have hJ := HJK.out
        subst hJ
        refine ⟨k + 1, by omega, ?_, ?_, HB4.out⟩
        · have := HJ.out
          congr 1
          omega
        · refine OwnB.mk' HO4.out ?_ ?_
          · rw [beL_len, hn]
          · show _ ++ [_] = _
            rw [hF, beL]
            simp
      case measure => simp [intOf]; omega
    · obtain rfl : k = 8 := by omega
      go_wp2_with fail
      go_ret
      refine ⟨_, rfl, ?_, HB.out⟩
      rw [← beL_8]
      exact OwnB.mk' HO.out (by rw [beL_len]; exact hn) rfl
end Go.Proofs.Ytdmkkpnjakdnnaa
