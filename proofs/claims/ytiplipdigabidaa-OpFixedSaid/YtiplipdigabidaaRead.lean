/- Readers: what it means that cells read as a datum of some type; rows of such. -/
import Derived.Test.YtiplipdigabidaaTerm5
set_option linter.unusedVariables false
set_option linter.unusedSimpArgs false
namespace Go.Proofs.Ytiplipdigabidaa
open Go.ChangeShapes Go.WideShapes Go.ChangeAt Go.RowKit

/-- How k cells read as a datum, in a world, below block B; it outlives what happens from there on. -/
structure Reader (α : Type) where
  k : Nat
  rd : World → Nat → α → List Value → Prop
  keep : ∀ {w w' : World} {B C : Nat} {x : α} {vs : List Value}, Below C w w' → B ≤ C → rd w B x vs → rd w' B x vs
  wide : ∀ {w : World} {B B' : Nat} {x : α} {vs : List Value}, B ≤ B' → rd w B x vs → rd w B' x vs
  len : ∀ {w : World} {B : Nat} {x : α} {vs : List Value}, rd w B x vs → vs.length = k

/-- A slice at A reads as a list. -/
def RL {α : Type} (R : Reader α) (w : World) (B : Nat) (xs : List α) (A : Option Addr) : Prop := RowOf w B R.k A xs.length (fun i vs => ∃ x, xs[i]? = some x ∧ R.rd w B x vs)

section
variable {α : Type} {R : Reader α} {w wr w' : World} {B B' C : Nat} {xs : List α} {A : Option Addr}
theorem RL.keep (h : RL R w B xs A) (hw : Below C w w') (hB : B ≤ C) : RL R w' B xs A :=
  (RowOf.below h hw hB).mono fun _ _ _ ⟨x, hx, hr⟩ => ⟨x, hx, R.keep hw hB hr⟩
theorem RL.wide (h : RL R w B xs A) (hB : B ≤ B') : RL R w B' xs A :=
  (RowOf.more h hB).mono fun _ _ _ ⟨x, hx, hr⟩ => ⟨x, hx, R.wide hB hr⟩
theorem RL.base (h : RL R w B xs A) (hbw : Below w.heap.size w wr) (hB : B ≤ w.heap.size) (hk : 0 < xs.length) : ∃ b off, A = some ⟨b, off, none⟩ ∧ b < wr.heap.size := by
  obtain ⟨b, off, rfl, hb, _⟩ := h hk
  exact ⟨b, off, rfl, by have := hbw.size; omega⟩
theorem RL.at_ {b off k : Nat} (h : RL R w B xs (some ⟨b, off, none⟩)) (hbw : Below w.heap.size w wr) (hB : B ≤ w.heap.size) (hk : k < xs.length) :
    ∃ x vs, xs[k]? = some x ∧ vs.length = R.k ∧ (∀ j v, vs[j]? = some v → wr.cell? ⟨b, off + k * R.k + j, none⟩ = some v) ∧ R.rd wr B x vs := by
  obtain ⟨b', off', e, hb, hc⟩ := h (by omega)
  simp only [Option.some.injEq, Addr.mk.injEq, and_true] at e
  obtain ⟨rfl, rfl⟩ := e
  obtain ⟨vs, hl, ⟨x, hx, hr⟩, hcell⟩ := hc k hk
  have hlt : b < w.heap.size := by omega
  exact ⟨x, vs, hx, hl, fun j v hv => (hbw.cell (p := ⟨b, off + k * R.k + j, none⟩) hlt).trans (hcell j v hv), R.keep hbw hB hr⟩
end

section
variable {α : Type} {R : Reader α} {w wr : World} {B : Nat} {xs : List α}
/-- The same, with the element's reading in the first world. -/
theorem RL.at0 {b off k : Nat} (h : RL R w B xs (some ⟨b, off, none⟩)) (hbw : Below w.heap.size w wr) (hB : B ≤ w.heap.size) (hk : k < xs.length) :
    ∃ x vs, xs[k]? = some x ∧ vs.length = R.k ∧ (∀ j v, vs[j]? = some v → wr.cell? ⟨b, off + k * R.k + j, none⟩ = some v) ∧ R.rd w B x vs := by
  obtain ⟨b', off', e, hb, hc⟩ := h (by omega)
  simp only [Option.some.injEq, Addr.mk.injEq, and_true] at e
  obtain ⟨rfl, rfl⟩ := e
  obtain ⟨vs, hl, ⟨x, hx, hr⟩, hcell⟩ := hc k hk
  have hlt : b < w.heap.size := by omega
  exact ⟨x, vs, hx, hl, fun j v hv => (hbw.cell (p := ⟨b, off + k * R.k + j, none⟩) hlt).trans (hcell j v hv), hr⟩
end

def TmR (d : Nat) : Reader Tm where
  k := 4
  rd := fun w B t vs => RTm w B d t vs
  keep := fun hw hB h => RTm.below hw hB h
  wide := fun hB h => RTm.more hB h
  len := fun h => by obtain ⟨_, _, rfl, _⟩ := RTm.cells h; rfl

theorem RTms.rl {w : World} {B d : Nat} {ts : List Tm} {A : Option Addr} (h : RTms w B d ts A) : RL (TmR d) w B ts A := h

/-- Old cells read as before. -/
theorem bcell {W w1 : World} (hb : Below W.heap.size W w1) : ∀ b o, b < W.heap.size → w1.cell? ⟨b, o, none⟩ = W.cell? ⟨b, o, none⟩ := fun b o h => hb.cell (p := ⟨b, o, none⟩) h

/-- The first place at which p holds; -1: none. -/
def idxF {α : Type} (p : α → Bool) (xs : List α) : Int := if xs.findIdx p < xs.length then (xs.findIdx p : Int) else -1

theorem idxF_none {α : Type} {p : α → Bool} {xs : List α} (h : ∀ i (hi : i < xs.length), p xs[i] = false) : idxF p xs = -1 := by
  unfold idxF
  rw [if_neg]
  rw [List.findIdx_lt_length]
  rintro ⟨x, hx, hp⟩
  obtain ⟨i, hi, rfl⟩ := List.getElem_of_mem hx
  rw [h i hi] at hp
  cases hp
theorem idxF_some {α : Type} {p : α → Bool} {xs : List α} {k : Nat} (hk : k < xs.length) (hp : p xs[k] = true) (h : ∀ i (hi : i < k), p (xs[i]'(by omega)) = false) : idxF p xs = k := by
  have e : xs.findIdx p = k := (List.findIdx_eq hk).2 ⟨hp, fun j hj => h j hj⟩
  unfold idxF
  rw [e, if_pos hk]
theorem idxF_any {α : Type} (p : α → Bool) (xs : List α) : decide (0 ≤ idxF p xs) = xs.any p := by
  rw [Bool.eq_iff_iff, decide_eq_true_eq, List.any_eq_true]
  unfold idxF
  by_cases h : xs.findIdx p < xs.length
  · rw [if_pos h]
    have := List.findIdx_lt_length.1 h
    simp only [this, iff_true]
    omega
  · rw [if_neg h]
    rw [List.findIdx_lt_length] at h
    simp only [h, iff_false]
    omega

/-- Function number F, with what it captured, tells p of each datum that is read so; it makes at most new memory. -/
def Tells (P : Program) {α : Type} (R : Reader α) (val : List Value → Value) (B : Nat) (w : World) (F : FuncId) (cap : Array Value) (p : α → Bool) : Prop :=
  ∀ (x : α) (vs : List Value) (w1 : World), Below w.heap.size w w1 → R.rd w1 B x vs → Calls P F (#[val vs] ++ cap) w1 fun e w' => e = .returned (.bool (p x)) ∧ Below w1.heap.size w1 w'

theorem Tells.later {P : Program} {α : Type} {R : Reader α} {val : List Value → Value} {B : Nat} {w w' : World} {F : FuncId} {cap : Array Value} {p : α → Bool} (h : Tells P R val B w F cap p) (hb : Below w.heap.size w w') : Tells P R val B w' F cap p :=
  fun x vs w1 h1 hr => h x vs w1 (hb.trans (h1.mono hb.size)) hr

def aggOf (vs : List Value) : Value := .agg vs.toArray
def oneOf (vs : List Value) : Value := vs.getD 0 undef
end Go.Proofs.Ytiplipdigabidaa
