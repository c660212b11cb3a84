/-
  Plain data for the statements of this seat (terms, predicates, rules ..) and what it means that cells of memory read as such data. No Go text is walked here.
-/
import Derived.Test.YtiplipdigabidaaMix
import Derived.WalkKit
import Derived.ProofKit
set_option linter.unusedVariables false
set_option linter.unusedSimpArgs false
namespace Go.Proofs.Ytiplipdigabidaa
open Go.ChangeShapes Go.WideShapes Go.ChangeAt Go.RowKit

/-- A function that has a body is entered. -/
theorem ent {P : Program} {f : FuncId} {fn : Func} {c : Code} (hf : P.funcs[f]? = some fn) (hname : (fn.name == "runtime.NumGoroutine") = false) (hb : fn.body = some c) (args : Array Value) (w : World) :
    (callFunc f args).run P w = .ok (.enter f args) w := by
  have h1 : fn.name ≠ "runtime.NumGoroutine" := by simpa using hname
  simp [callFunc, hf, h1, hb, mark]

/-- A term. -/
structure Tm where
  kind : Int
  n : Int
  s : ByteArray
  l : List Tm

/-- A row of n elements of k cells each at A; element i's cells satisfy P i. -/
def RowOf (w : World) (B k : Nat) (A : Option Addr) (n : Nat) (P : Nat → List Value → Prop) : Prop :=
  0 < n → ∃ b off, A = some ⟨b, off, none⟩ ∧ b < B ∧ ∀ i, i < n → ∃ vs : List Value, vs.length = k ∧ P i vs ∧ ∀ j v, vs[j]? = some v → w.cell? ⟨b, off + i * k + j, none⟩ = some v

theorem RowOf.mono {w : World} {B k n : Nat} {A : Option Addr} {P Q : Nat → List Value → Prop} (h : RowOf w B k A n P) (hpq : ∀ i vs, i < n → P i vs → Q i vs) : RowOf w B k A n Q := fun hn => by
  obtain ⟨b, off, e, hb, hc⟩ := h hn
  refine ⟨b, off, e, hb, fun i hi => ?_⟩
  obtain ⟨vs, hl, hp, hv⟩ := hc i hi
  exact ⟨vs, hl, hpq i vs hi hp, hv⟩

theorem RowOf.more {w : World} {B B' k n : Nat} {A : Option Addr} {P : Nat → List Value → Prop} (h : RowOf w B k A n P) (hB : B ≤ B') : RowOf w B' k A n P := fun hn => by
  obtain ⟨b, off, e, hb, hc⟩ := h hn
  exact ⟨b, off, e, by omega, hc⟩

theorem RowOf.below {w w' : World} {B C k n : Nat} {A : Option Addr} {P : Nat → List Value → Prop} (h : RowOf w B k A n P) (hw : Below C w w') (hB : B ≤ C) : RowOf w' B k A n P := fun hn => by
  obtain ⟨b, off, e, hb, hc⟩ := h hn
  refine ⟨b, off, e, hb, fun i hi => ?_⟩
  obtain ⟨vs, hl, hp, hv⟩ := hc i hi
  exact ⟨vs, hl, hp, fun j v hj => (hw.cell (p := ⟨b, off + i * k + j, none⟩) (by show b < C; omega)).trans (hv j v hj)⟩

theorem RowOf.tail {w : World} {B k n : Nat} {A : Option Addr} {P : Nat → List Value → Prop} (h : RowOf w B k A n P) {m : Nat} (hm : m ≤ n) : RowOf w B k A m P := fun hn => by
  obtain ⟨b, off, e, hb, hc⟩ := h (by omega)
  exact ⟨b, off, e, hb, fun i hi => hc i (by omega)⟩

/-- The bounds of an int64. -/
def I64 (n : Int) : Prop := -9223372036854775808 ≤ n ∧ n ≤ 9223372036854775807

/-- Four cells read as a term, with at most d lists in one another. -/
def RTm (w : World) (B : Nat) : Nat → Tm → List Value → Prop
  | 0, _, _ => False
  | d + 1, t, vs => ∃ A c, vs = [.int .i64 t.kind, .int .i64 t.n, .string t.s, .slice A t.l.length c] ∧ t.l.length ≤ c ∧ (t.l.length * 40 ≤ 140737488351232 ∧ c ≤ 9223372036854775807) ∧ t.s.size ≤ 140737488351232 ∧ I64 t.kind ∧ I64 t.n ∧
      RowOf w B 4 A t.l.length (fun i vs => ∃ x, t.l[i]? = some x ∧ RTm w B d x vs)

/-- A slice of terms. -/
def RTms (w : World) (B d : Nat) (ts : List Tm) (A : Option Addr) : Prop := RowOf w B 4 A ts.length (fun i vs => ∃ x, ts[i]? = some x ∧ RTm w B d x vs)

theorem RTm.below {w w' : World} {B C : Nat} (hw : Below C w w') (hB : B ≤ C) : ∀ {d : Nat} {t : Tm} {vs : List Value}, RTm w B d t vs → RTm w' B d t vs
  | 0, _, _, h => h.elim
  | d + 1, t, vs, ⟨A, c, e, h1, h2, h3, h4, h5, h6⟩ => ⟨A, c, e, h1, h2, h3, h4, h5, (h6.below hw hB).mono fun i vs _ ⟨x, hx, hr⟩ => ⟨x, hx, RTm.below hw hB hr⟩⟩

theorem RTm.more {w : World} {B B' : Nat} (hB : B ≤ B') : ∀ {d : Nat} {t : Tm} {vs : List Value}, RTm w B d t vs → RTm w B' d t vs
  | 0, _, _, h => h.elim
  | d + 1, t, vs, ⟨A, c, e, h1, h2, h3, h4, h5, h6⟩ => ⟨A, c, e, h1, h2, h3, h4, h5, (h6.more hB).mono fun i vs _ ⟨x, hx, hr⟩ => ⟨x, hx, RTm.more hB hr⟩⟩

theorem RTms.below {w w' : World} {B C d : Nat} {ts : List Tm} {A : Option Addr} (h : RTms w B d ts A) (hw : Below C w w') (hB : B ≤ C) : RTms w' B d ts A :=
  (RowOf.below h hw hB).mono fun i vs _ ⟨x, hx, hr⟩ => ⟨x, hx, RTm.below hw hB hr⟩

theorem RTms.more {w : World} {B B' d : Nat} {ts : List Tm} {A : Option Addr} (h : RTms w B d ts A) (hB : B ≤ B') : RTms w B' d ts A :=
  (RowOf.more h hB).mono fun i vs _ ⟨x, hx, hr⟩ => ⟨x, hx, RTm.more hB hr⟩
end Go.Proofs.Ytiplipdigabidaa
