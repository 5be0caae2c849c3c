/-
  assign of chapter 21, walked.
-/
import Derived.Test.YtbegehooefhiiaaRscB
import Derived.Test.YtbegehooefhiiaaRouF
namespace Go.Proofs.Ytbegehooefhiiaa
open Go.RowKit

theorem wpList_make_blk {P : Program} {w : World} {ops : Array Oper} {rest : List Oper} {o : Oper} {a : Act} {Q : Exit → Act → World → Prop} (t : TypeId) (l c : Operand) (ho : o.op = .makeSlice t l c) (hw : Region.wanted o (yielded ops a.tmps) = true) (G : Nat) (hG : w.heap.size = G)
    {e : TypeId} (hu : P.underlying t = some (.slice e)) {z : Value} {size bytes : Nat} (hinf : (P.info? e).map (fun i => (i.zero, i.size, i.bytes)) = some (some z, size, bytes)) (n : Nat) (hl : a.eval l = .int .i64 (n : Int)) (hc : a.eval c = .int .i64 (n : Int)) (hb : bytes * n ≤ 281474976710656 ∧ n ≤ 1000000)
    (h : ∀ w', Blk w' G e (madeCells z.cells (n * size)) → Below G w w' → w'.heap.size = G + 1 → wpList P ops Q rest (a.put o.dst (.slice (some ⟨G, 0, none⟩) n n)) w') : wpList P ops Q (o :: rest) a w := by
  refine wpList_want hw fun K hK => ?_
  obtain ⟨inf, h1, h2, h3, h4⟩ := info_parts hinf
  subst h3 h4 hG
  have hb' : (inf.bytes : Int) * (n : Int) ≤ 281474976710656 := by
    have h : ((inf.bytes * n : Nat) : Int) ≤ 281474976710656 := by omega
    rwa [Int.natCast_mul] at h
  have hr := run_make (P := P) w t e inf z hu h1 h2 .i64 .i64 n n (by omega) (Int.le_refl _) hb' (by omega)
  simp only [Int.toNat_natCast] at hr
  unfold Oper.wp
  simp [execOp, ho, hl, hc, hr, Result.andThen]
  exact hK _ _ (h _ (Blk.new w e _) (below_new w _) (by simp))
theorem made_iv (n : Nat) : madeCells (Value.int .i64 0).cells (n * 1) = iv (List.replicate n 0) := by
  apply Array.toList_inj.1
  rw [made_flat (Value.int .i64 0).cells n 1 rfl (by omega)]
  simp [iv, Value.cells, List.map_replicate]
theorem inf_int : (Try.prog.info? 3).map (fun i => (i.zero, i.size, i.bytes)) = some (some (.int .i64 0), 1, 8) := by kernel_rfl
def s0B (n : Nat) : BS := ⟨-1, [0, 0, 0, 0], List.replicate n 0, List.replicate n 0⟩
def AsgR (n : Nat) (R : BS) (w : World) (e : Ending) (w' : World) : Prop := ∃ gb, e = .returned (.tuple #[.slice (some ⟨gb, 0, none⟩) n n, .int .i64 R.e]) ∧ Ints w' w'.heap.size (some ⟨gb, 0, none⟩) n R.y ∧ Below w.heap.size w w'
theorem alloc_nm {w w' : World} {G : Nat} {cs : Array Value} {t : TypeId} (hG : w.heap.size = G) (hw : w.alloc (Obj.cells cs t) = w') : Blk w' G t cs ∧ w'.heap.size = G + 1 ∧ Below G w w' := by
  subst hG hw
  exact ⟨Blk.new w t cs, by simp, below_new w _⟩
set_option maxRecDepth 100000 in
set_option maxHeartbeats 4000000 in
theorem rassign_any (A : Option Addr) (c n tm : Nat) (L : List Sec) (w : World) (hr : Strs Sec.cells 3 w w.heap.size A n L) (hn : 0 < n ∧ n ≤ 8) (htm : tm ≤ 3) (hlen : L.length = n) (hnc : n ≤ c ∧ c ≤ maxLen) (hL : ∀ i, 0 ≤ (L.getD i sec0).se ∧ (L.getD i sec0).se ≤ 1000) (R : BS) (hR : tryB L tm n 0 (s0B n) = R) :
    Calls Try.prog 18 #[.slice A n c, .int .i64 (tm : Int)] w (AsgR n R w) := by
  have hy : R.y.length = n := by
    rw [← hR]
    exact (tryB_ln L tm n 0 _ ⟨rfl, by simp [s0B], by simp [s0B]⟩ : LnB n _).y
  have HY := Lib.hid hy
  obtain ⟨g, hg⟩ : ∃ g, w.heap.size = g := ⟨_, rfl⟩
  have HT : Hid (∀ W, RSt W g A c n tm L (s0B n) → Calls Try.prog 27 #[.int .i64 0, .pointer (some ⟨g, 0, none⟩), .pointer (some ⟨g + 7, 0, none⟩), .pointer (some ⟨g + 6, 0, none⟩), .pointer (some ⟨g + 5, 0, none⟩), .pointer (some ⟨g + 3, 0, none⟩), .pointer (some ⟨g + 1, 0, none⟩), .pointer (some ⟨g + 8, 0, none⟩)] W (RTry g A c n tm L R W)) := fun W h =>
    rtry_any g A c n tm L hn htm hlen hnc hL n 0 (s0B n) W (by omega) h ⟨rfl, by simp [s0B], by simp [s0B]⟩ (fun j => by
      have : (s0B n).b.getD j 0 = 0 := by unfold s0B; rcases j with _ | _ | _ | _ | j <;> rfl
      rw [this]
      omega) R hR
  have HFin : Hid (∀ w' gb, Ints w' w'.heap.size (some ⟨gb, 0, none⟩) n R.y → Below g w w' → AsgR n R w (.returned (.tuple #[.slice (some ⟨gb, 0, none⟩) n n, .int .i64 R.e])) w') := fun w' gb h1 h2 => ⟨gb, rfl, h1, by rw [hg]; exact h2⟩
  have HSr : Hid (Strs Sec.cells 3 w g A n L) := by rw [← hg]; exact hide hr
  generalize AsgR n R w = RR at *
  have HB0 : Hid (Below g w w) := hide (Below.refl _ _)
  clear hr hy hlen hL hR
  go_enter Try.func18, Try.ntmps18
  go_upto_region 1 with (fail)
  obtain ⟨w0, hw0⟩ : ∃ W, w.alloc (Obj.cells #[Value.slice A n c] 40) = W := ⟨_, rfl⟩
  rw [hw0]
  obtain ⟨HA1, hs0, hb0⟩ := alloc_nm hg hw0
  obtain ⟨w1, hw1⟩ : ∃ W, w0.alloc (Obj.cells #[Value.int .i64 (tm : Int)] 3) = W := ⟨_, rfl⟩
  rw [hw1]
  obtain ⟨hA2, hs1', hb1⟩ := alloc_nm hs0 hw1
  have hs1 : w1.heap.size = g + 2 := hs1'
  have HBl1 : Hid (Below g w w1) := hide (hb0.trans (hb1.mono (by omega)))
  have HA1 : Hid (Blk w1 g 40 #[.slice A n c]) := hide (HA1.below hb1 (by omega))
  have HA2 : Hid (Blk w1 (g + 1) 3 #[.int .i64 (tm : Int)]) := hide hA2
  have c1 : w1.cell? ⟨g, 0, none⟩ = some (.slice A n c) := HA1.out.cell 0
  clear hw1 hg hw0 hs0 hb0 hA2 hs1' hb1
  go_upto_region 2 with
    (at_make
     refine wpList_make_blk 32 (.tmp 12) (.tmp 12) rfl rfl (g + 2) hs1 Try.underlying32 inf_int n rfl rfl (by omega) ?_
     intro w2 hb2 hbel2 hs2'
     rw [made_iv] at hb2
     have HX2 := Lib.hid hb2
     have HBl2 : Hid (Below (g + 2) w1 w2) := hbel2
     have hs2 : w2.heap.size = g + 3 := hs2'
     clear hb2 hbel2 hs2')
  obtain ⟨w3, hw3⟩ : ∃ W, w2.alloc (Obj.cells #[Value.slice (some ⟨g + 2, 0, none⟩) n n] 32) = W := ⟨_, rfl⟩
  rw [hw3]
  obtain ⟨hA, hs3', hb⟩ := alloc_nm hs2 hw3
  have HA3 := Lib.hid hA
  have HBl3 : Hid (Below (g + 3) w2 w3) := hb
  have hs3 : w3.heap.size = g + 4 := hs3'
  have c3 : w3.cell? ⟨g, 0, none⟩ = some (.slice A n c) := ((HA1.out.below HBl2.out (by omega)).below HBl3.out (by omega)).cell 0
  clear hA hb hs3' hw3 hs2 hs1 c1
  go_upto_region 3 with
    (at_make
     refine wpList_make_blk 32 (.tmp 15) (.tmp 15) rfl rfl (g + 4) hs3 Try.underlying32 inf_int n rfl rfl (by omega) ?_
     intro w4 hb2 hbel2 hs2'
     rw [made_iv] at hb2
     have HX4 := Lib.hid hb2
     have HBl4 : Hid (Below (g + 4) w3 w4) := hbel2
     have hs4 : w4.heap.size = g + 5 := hs2'
     clear hb2 hbel2 hs2')
  obtain ⟨w5, hw5⟩ : ∃ W, w4.alloc (Obj.cells #[Value.slice (some ⟨g + 4, 0, none⟩) n n] 32) = W := ⟨_, rfl⟩
  rw [hw5]
  obtain ⟨hA, hs5', hb⟩ := alloc_nm hs4 hw5
  have HA5 := Lib.hid hA
  have HBl5 : Hid (Below (g + 5) w4 w5) := hb
  have hs5 : w5.heap.size = g + 6 := hs5'
  clear hA hb hs5' hw5 hs4 hs3 c3
  go_upto_region 4 with (fail)
  obtain ⟨w6, hw6⟩ : ∃ W, w5.alloc (Obj.cells #[Value.int .i64 (-1)] 3) = W := ⟨_, rfl⟩
  rw [hw6]
  obtain ⟨hA, hs6', hb⟩ := alloc_nm hs5 hw6
  have HA6 := Lib.hid hA
  have HBl6 : Hid (Below (g + 6) w5 w6) := hb
  have hs6 : w6.heap.size = g + 7 := hs6'
  clear hA hb hs6' hw6 hs5
  go_upto_region 5 with (fail)
  obtain ⟨w7, hw7⟩ : ∃ W, w6.alloc (Obj.cells #[Value.int .i64 0, Value.int .i64 0, Value.int .i64 0, Value.int .i64 0] 56) = W := ⟨_, rfl⟩
  rw [hw7]
  obtain ⟨hA, hs7', hb⟩ := alloc_nm hs6 hw7
  have HA7 := Lib.hid hA
  have HBl7 : Hid (Below (g + 7) w6 w7) := hb
  have hs7 : w7.heap.size = g + 8 := hs7'
  clear hA hb hs7' hw7 hs6
  go_upto_region 6 with (fail)
  obtain ⟨w8, hw8⟩ : ∃ W, w7.alloc (Obj.cells #[Value.nilFunc] 60) = W := ⟨_, rfl⟩
  rw [hw8]
  obtain ⟨hA, hs8', hb⟩ := alloc_nm hs7 hw8
  have HA8n := Lib.hid hA
  have HBl8n : Hid (Below (g + 8) w7 w8) := hb
  clear hA hb hs8' hw8 hs7
  go_upto_region 7 with
    (refine wpList_store_field 60 (.tmp 10) (.tmp 17) rfl rfl (g + 8) 0 (vfR g) rfl rfl 60 #[Value.nilFunc] HA8n.out (by kernel_rfl) (by decide) rfl rfl ?_
     intro w9 hb9 ho9
     have HA8 : Hid (Blk w9 (g + 8) 60 #[vfR g]) := hide hb9
     have HBl8 : Hid (Below (g + 8) w7 w9) := hide (ho9.below HBl8n.out (Nat.le_refl _))
     clear hb9 ho9 HA8n HBl8n)
  have HD9 : Hid (RSt w9 g A c n tm L (s0B n)) := by
    have b78 := HBl8.out
    have b68 := HBl7.out.trans (b78.mono (show g + 7 ≤ g + 8 by omega))
    have b58 := HBl6.out.trans (b68.mono (show g + 6 ≤ g + 7 by omega))
    have b48 := HBl5.out.trans (b58.mono (show g + 5 ≤ g + 6 by omega))
    have b38 := HBl4.out.trans (b48.mono (show g + 4 ≤ g + 5 by omega))
    have b28 := HBl3.out.trans (b38.mono (show g + 3 ≤ g + 4 by omega))
    have b18 := HBl2.out.trans (b28.mono (show g + 2 ≤ g + 3 by omega))
    have b08 := HBl1.out.trans (b18.mono (show g ≤ g + 2 by omega))
    exact ⟨HA1.out.below b18 (by omega), HA2.out.below b18 (by omega), HX2.out.below b28 (by omega), HA3.out.below b38 (by omega), HX4.out.below b48 (by omega), HA5.out.below b58 (by omega), HA6.out.below b68 (by omega), HA7.out.below b78 (by omega), HA8.out, HSr.out.keep fun p hp => b08.cell hp⟩
  have HB9 : Hid (Below g w w9) := by
    have b78 := HBl8.out
    have b68 := HBl7.out.trans (b78.mono (show g + 7 ≤ g + 8 by omega))
    have b58 := HBl6.out.trans (b68.mono (show g + 6 ≤ g + 7 by omega))
    have b48 := HBl5.out.trans (b58.mono (show g + 5 ≤ g + 6 by omega))
    have b38 := HBl4.out.trans (b48.mono (show g + 4 ≤ g + 5 by omega))
    have b28 := HBl3.out.trans (b38.mono (show g + 3 ≤ g + 4 by omega))
    have b18 := HBl2.out.trans (b28.mono (show g + 2 ≤ g + 3 by omega))
    have b08 := HBl1.out.trans (b18.mono (show g ≤ g + 2 by omega))
    exact hide b08
  clear HA1 HA2 HA3 HX2 HX4 HA5 HA6 HA7 HA8 HBl1 HBl2 HBl3 HBl4 HBl5 HBl6 HBl7 HBl8
  have c9 : w9.cell? ⟨g + 8, 0, none⟩ = some (vfR g) := HD9.out.fn.cell 0
  unfold vfR at c9
  have HT9 := Lib.hid (HT.out w9 HD9.out)
  go_wp2_with fail
  with_reducible refine HT9.out.mono ?_
  rintro e wa ⟨rfl, hba, hDa⟩
  have HDa := Lib.hid hDa
  have HBa : Hid (Below g w wa) := hide (HB9.out.trans hba)
  have cb : wa.cell? ⟨g + 5, 0, none⟩ = some (.slice (some ⟨g + 4, 0, none⟩) n n) := hDa.bstp.cell 0
  have ce : wa.cell? ⟨g + 6, 0, none⟩ = some (.int .i64 R.e) := hDa.end_.cell 0
  clear hDa hba
  go_wp2_with fail
  go_quiet (fail)
  go_wp2_with fail
  have HI : Ints wa wa.heap.size (some ⟨g + 4, 0, none⟩) n R.y := by
    have := reads_blk (n := n) (s := 1) HDa.out.bstr (by rw [iv_size, HY.out]; omega)
    simpa using this
  exact HFin.out (wa.drewN nq) (g + 4) (Reads.drewN HI _) (below_drewN HBa.out _)
end Go.Proofs.Ytbegehooefhiiaa
