/-
  Results of which some lie in variables: over any program.
-/
import Derived.Test.YtedeggjefnpjgaaStr
namespace Go.Proofs.Ytedeggjefnpjgaa
open Go.RowKit

theorem res_ct2 {P : Program} {fn : Func} {p u1 u2 : Tmp} {ty : TypeId} (h : fn.results = #[.cell p ty, .tmp u1, .tmp u2]) (tmps : Array Value) (w : World) (a : Addr) (v v1 v2 : Value)
    (hp : tmps.getD p undef = .pointer (some a)) (hl : (loadVar ty a).run P w = .ok v w) (h1 : tmps.getD u1 undef = v1) (h2 : tmps.getD u2 undef = v2) :
    (results fn tmps).run P w = .ok (.tuple #[v, v1, v2]) w := by
  subst h1 h2
  simp only [Array.getD_eq_getD_getElem?] at hp
  simp [results, h, hp, asAddr, Sem.run_bind, hl]
theorem res_ct3 {P : Program} {fn : Func} {p u1 u2 u3 : Tmp} {ty : TypeId} (h : fn.results = #[.cell p ty, .tmp u1, .tmp u2, .tmp u3]) (tmps : Array Value) (w : World) (a : Addr) (v v1 v2 v3 : Value)
    (hp : tmps.getD p undef = .pointer (some a)) (hl : (loadVar ty a).run P w = .ok v w) (h1 : tmps.getD u1 undef = v1) (h2 : tmps.getD u2 undef = v2) (h3 : tmps.getD u3 undef = v3) :
    (results fn tmps).run P w = .ok (.tuple #[v, v1, v2, v3]) w := by
  subst h1 h2 h3
  simp only [Array.getD_eq_getD_getElem?] at hp
  simp [results, h, hp, asAddr, Sem.run_bind, hl]
theorem res_ccc {P : Program} {fn : Func} {p1 p2 p3 : Tmp} {t1 t2 t3 : TypeId} (h : fn.results = #[.cell p1 t1, .cell p2 t2, .cell p3 t3]) (tmps : Array Value) (w : World) (a1 a2 a3 : Addr) (v1 v2 v3 : Value)
    (hp1 : tmps.getD p1 undef = .pointer (some a1)) (hp2 : tmps.getD p2 undef = .pointer (some a2)) (hp3 : tmps.getD p3 undef = .pointer (some a3))
    (hl1 : (loadVar t1 a1).run P w = .ok v1 w) (hl2 : (loadVar t2 a2).run P w = .ok v2 w) (hl3 : (loadVar t3 a3).run P w = .ok v3 w) :
    (results fn tmps).run P w = .ok (.tuple #[v1, v2, v3]) w := by
  simp only [Array.getD_eq_getD_getElem?] at hp1 hp2 hp3
  simp [results, h, hp1, hp2, hp3, asAddr, Sem.run_bind, hl1, hl2, hl3]
theorem load_blk {P : Program} {w : World} {g : Nat} {t ty : TypeId} {cs : Array Value} (hB : Blk w g t cs) {d : TypeDesc} (hu : P.underlying ty = some d) (hd : (match d with | .struct _ | .array _ _ => true | _ => false) = true) (hn : (P.info? ty).map (·.size) = some cs.size) :
    (loadVar ty ⟨g, 0, none⟩).run P w = .ok (.agg cs) w := run_loadVar_row w g t ty cs (0, 0) d hB hu hd hn
theorem load_one {P : Program} {w : World} {a : Addr} {ty : TypeId} {v : Value} {d : TypeDesc} (hu : P.underlying ty = some d) (hd : (match d with | .struct _ | .array _ _ => true | _ => false) = false) (hn : (P.info? ty).map (·.size) = some 1) (hc : w.cell? a = some v) :
    (loadVar ty a).run P w = .ok v w := by
  cases hq : P.info? ty with
  | none => rw [hq] at hn; cases hn
  | some i =>
    have hs : i.size = 1 := by simpa [hq] using hn
    have hagg : (isAgg ty).run P w = .ok false w := by
      unfold isAgg
      rw [Sem.run_bind, run_underlying hu w]
      cases d <;> simp_all
    simp [loadVar, Sem.run_bind, hagg, sizeOf, typeInfo, hq, hs, hc]
end Go.Proofs.Ytedeggjefnpjgaa
