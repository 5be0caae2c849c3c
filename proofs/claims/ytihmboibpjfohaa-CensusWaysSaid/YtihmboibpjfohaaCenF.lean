/-
  Flows in memory; room of the program, walked.
-/
import Derived.Test.YtihmboibpjfohaaCenA
import Derived.Test.YtihmboibpjfohaaFloN
import Derived.Test.YtihmboibpjfohaaEdgM
import Derived.Test.YtihmboibpjfohaaMapI
import Derived.Test.YtihmboibpjfohaaQue
import Derived.BigQuiet
import Derived.IntWalk
namespace Go.Proofs.Ytihmboibpjfohaa
open Go.RowKit

def enM (m : Mv) : Value := .agg #[.int .i64 (m.edge : Int), .bool m.fwd]
theorem enM_inj (x y : Mv) (h : enM x = enM y) : x = y := by
  obtain ⟨a, b⟩ := x
  obtain ⟨c, d⟩ := y
  unfold enM at h
  simp only [Value.agg.injEq, Array.mk.injEq, List.cons.injEq, Value.int.injEq, Value.bool.injEq, and_true, true_and] at h
  obtain ⟨h1, rfl⟩ := h
  obtain rfl : a = c := by omega
  rfl
/-- the numbers of a flow are in their bounds -/
structure Bnd (es : List Ed) (f : List Int) : Prop where
  len : f.length = es.length
  bnd : ∀ i, i < es.length → 0 ≤ f.getD i 0 ∧ f.getD i 0 ≤ (es.getD i ed0).cst ∧ (es.getD i ed0).cst ≤ 1000000

set_option maxRecDepth 100000 in
theorem room_any (A F : Option Addr) (n c c2 : Nat) (es : List Ed) (f : List Int) (m : Mv) (w : World) (hr : Strs Ed.cells 4 w w.heap.size A n es) (hl : es.length = n) (hc : n ≤ c) (hc2 : c ≤ maxLen) (hf : Ints w w.heap.size F n f) (hd : n ≤ c2) (hd2 : c2 ≤ maxLen) (hB : Bnd es f) (hm : m.edge < n) :
    Calls Try.prog 57 #[.slice A n c, .slice F n c2, enM m] w fun e w' => e = .returned (.int .i64 (roomN es f m)) ∧ Below w.heap.size w w' := by
  obtain ⟨k, fw⟩ := m
  simp only at hm
  have HB := hB.bnd k (by rw [hl]; exact hm)
  obtain ⟨ad, rfl, hab, hcl⟩ := strs_at hr (fun _ => rfl) hl hm ed0
  obtain ⟨af, rfl, hafb, hfc⟩ := hf.int hm
  have HE : Hid (roomN es f ⟨k, fw⟩ = if fw = true then (es.getD k ed0).cst - f.getD k 0 else f.getD k 0) := hide rfl
  generalize roomN es f ⟨k, fw⟩ = res at *
  obtain ⟨⟨ei, fr, tt, cst⟩, hq⟩ : ∃ q, es.getD k ed0 = q := ⟨_, rfl⟩
  rw [hq] at hcl HB HE
  generalize f.getD k 0 = x at *
  simp only at HB HE
  have hp3 : w.cell? ⟨(ad.add (k * 4)).block, (ad.add (k * 4)).off + 3, none⟩ = some (.int .i64 cst) := hcl 3 _ rfl
  have hwr : IntKind.i64.wrap (cst - x) = cst - x := IntWalk.i64_in _ (by omega)
  have hm' := Int.ofNat_le.2 (show n ≤ maxLen by omega)
  simp only [maxLen] at hc2
  have hkw : IntKind.i64.wrap (k : Int) = (k : Int) := IntWalk.i64_in _ (by omega)
  clear hq hcl hr hf hB
  show Calls Try.prog 57 #[.slice (some ad) n c, .slice (some af) n c2, .agg #[.int .i64 (k : Int), .bool fw]] w _
  cases fw with
  | true =>
    rw [if_pos rfl] at HE
    go_enter Try.func57, Try.ntmps57
    go_wp2_with fail
    have HBw0 := (Blk.new w 85 #[.int .i64 (k : Int), .bool true])
    have HLw0 := (below_new w (.cells #[.int .i64 (k : Int), .bool true] 85))
    have hsw0 : (w.alloc (.cells #[.int .i64 (k : Int), .bool true] 85)).heap.size = w.heap.size + 1 := by simp
    generalize w.alloc (.cells #[.int .i64 (k : Int), .bool true] 85) = w0 at HBw0 HLw0 hsw0 ⊢
    replace HBw0 := Lib.hid HBw0
    replace HLw0 := Lib.hid HLw0
    have hlw0 : w.heap.size < w0.heap.size := by omega
    replace hsw0 := Lib.hid hsw0
    have p3 : w0.cell? ⟨(ad.add (k * 4)).block, (ad.add (k * 4)).off + 3, none⟩ = some (.int .i64 cst) := (HLw0.out.cell (by rw [block_of_add]; exact hab)).trans hp3
    have pf : w0.cell? (af.add k) = some (.int .i64 x) := (HLw0.out.cell (by rw [block_of_add]; exact hafb)).trans hfc
    have z0 : w0.cell? ⟨w.heap.size, 0, none⟩ = some (.int .i64 (k : Int)) := HBw0.out.cell 0
    clear hp3 hfc
    go_quiet (fail)
    go_wp2_with fail
    go_ret
    exact ⟨ret_int HE.out.symm, below_drewN HLw0.out _⟩
  | false =>
    rw [if_neg (by decide)] at HE
    clear hwr hkw hp3
    have hl0 := hab
    have pf : (w.alloc (.cells #[.int .i64 (k : Int), .bool false] 85)).cell? (af.add k) = some (.int .i64 x) := ((below_new w _).cell (by rw [block_of_add]; exact hafb)).trans hfc
    clear hfc
    go_enter Try.func57, Try.ntmps57
    go_wp2_with fail
    go_ret
    exact ⟨ret_int HE.out.symm, below_new _ _⟩
end Go.Proofs.Ytihmboibpjfohaa
