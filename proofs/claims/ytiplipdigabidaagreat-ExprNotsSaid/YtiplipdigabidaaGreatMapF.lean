/- A map with int keys that a call makes: its entries known whole; an insertion, a look. -/
import Derived.MapKept
import Derived.Below
import Derived.ProofKit
import Derived.WalkKit
set_option linter.unusedVariables false
set_option linter.unusedSimpArgs false
namespace Go.Proofs.YtiplipdigabidaaGreat
open Go.RowKit

theorem insert_int {P : Program} {w : World} {t kt et : TypeId} {r n : Nat} {es : Array MapEntry} (ht : P.underlying t = some (.map kt et)) (hk : P.underlying kt = some (.int .i64)) (hb : w.heap[r]? = some (.map es n)) (k : Int) (v : Value)
    (hne : Instr.findNow (.int .i64) (.int .i64 k) es.toList 0 = some none) :
    ∃ w', (Instr.mapUpdate t (.map (some r)) (.int .i64 k) v).run P w = .ok () w' ∧ w'.heap[r]? = some (.map (es.push ⟨.int .i64 k, v, n⟩) (n + 1)) ∧ (∀ b, b ≠ r → w'.heap[b]? = w.heap[b]?) ∧ Below r w w' := by
  refine ⟨{ w with heap := w.heap.setIfInBounds r (.map (es.push ⟨.int .i64 k, v, n⟩) (n + 1)) }, ?_, (Go.MapKept.heap_set hb).1, (Go.MapKept.heap_set hb).2, ⟨rfl, rfl, rfl, by simp, fun b hbr => (Go.MapKept.heap_set hb).2 b (by omega)⟩⟩
  have h1 := Go.MapKept.run_getObj_map (P := P) hb
  have h2 := Go.MapKept.run_setObj_map (P := P) (.map (es.push ⟨.int .i64 k, v, n⟩) (n + 1)) hb
  have h3 := Go.MapKept.run_checkKey (P := P) (w := w) hk (k := .int .i64 k) (by simp [Go.MapKept.IsKey]) false 9999
  have h4 := Go.MapKept.run_findKey (P := P) (w := w) hk hne
  unfold Instr.mapUpdate
  simp only [Sem.run_bind, run_underlying ht, Result.andThen, h1, h3, h4, h2]
theorem lookup_int {P : Program} {w : World} {t kt et : TypeId} {r n i : Nat} {es : Array MapEntry} (ht : P.underlying t = some (.map kt et)) (hk : P.underlying kt = some (.int .i64)) (hb : w.heap[r]? = some (.map es n)) (k : Int) (v : Value)
    (hf : Instr.findNow (.int .i64) (.int .i64 k) es.toList 0 = some (some (i, v))) :
    (Instr.lookup t (.map (some r)) (.int .i64 k) false).run P w = .ok v w := by
  have h1 := Go.MapKept.run_getObj_map (P := P) hb
  have h3 := fun e => Go.MapKept.run_checkKey (P := P) (w := w) hk (k := .int .i64 k) (by simp [Go.MapKept.IsKey]) e 9999
  have h4 := Go.MapKept.run_findKey (P := P) (w := w) hk hf
  unfold Instr.lookup
  simp only [Sem.run_bind, run_underlying ht, Result.andThen, h1, h3, h4, Sem.run_pure]
  rfl
end Go.Proofs.YtiplipdigabidaaGreat
