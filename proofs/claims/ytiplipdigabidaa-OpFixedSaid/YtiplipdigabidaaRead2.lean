/- Readers of predicates, operations, expressions, scopes, rules, checks, policies, blocks. -/
import Derived.Test.YtiplipdigabidaaFnTerm
set_option linter.unusedVariables false
set_option linter.unusedSimpArgs false
namespace Go.Proofs.Ytiplipdigabidaa
open Go.ChangeShapes Go.WideShapes Go.ChangeAt Go.RowKit

structure Pr where
  name : ByteArray
  terms : List Tm

structure OpD where
  kind : Int
  term : Tm
  code : Int
  skip : Int

structure Sc where
  kind : Int
  key : ByteArray

structure Ru where
  head : Pr
  body : List Pr
  exprs : List (List OpD)
  scopes : List Sc

structure Ck where
  all : Bool
  queries : List Ru

structure Bk where
  facts : List Pr
  rules : List Ru
  checks : List Ck
  scopes : List Sc

/-- A slice whose elements are read by R. -/
def RSl {α : Type} (R : Reader α) (w : World) (B : Nat) (xs : List α) (v : Value) : Prop := ∃ A c, v = .slice A xs.length c ∧ xs.length ≤ c ∧ (xs.length * (8 * R.k) ≤ 140737488351232 ∧ c ≤ 9223372036854775807) ∧ RL R w B xs A

section
variable {α : Type} {R : Reader α} {w w' : World} {B B' C : Nat} {xs : List α} {v : Value}
theorem RSl.keep (h : RSl R w B xs v) (hw : Below C w w') (hB : B ≤ C) : RSl R w' B xs v := by
  obtain ⟨A, c, rfl, h1, h2, h3⟩ := h
  exact ⟨A, c, rfl, h1, h2, h3.keep hw hB⟩
theorem RSl.wide (h : RSl R w B xs v) (hB : B ≤ B') : RSl R w B' xs v := by
  obtain ⟨A, c, rfl, h1, h2, h3⟩ := h
  exact ⟨A, c, rfl, h1, h2, h3.wide hB⟩
end

def StrR : Reader ByteArray where
  k := 1
  rd := fun _ _ s vs => vs = [.string s] ∧ s.size ≤ 140737488351232
  keep := fun _ _ h => h
  wide := fun _ h => h
  len := fun h => by rw [h.1]; rfl

def PrR (d : Nat) : Reader Pr where
  k := 2
  rd := fun w B p vs => ∃ v, vs = [.string p.name, v] ∧ p.name.size ≤ 140737488351232 ∧ RSl (TmR d) w B p.terms v
  keep := fun hw hB ⟨v, e, h1, h2⟩ => ⟨v, e, h1, h2.keep hw hB⟩
  wide := fun hB ⟨v, e, h1, h2⟩ => ⟨v, e, h1, h2.wide hB⟩
  len := fun ⟨_, e, _⟩ => by rw [e]; rfl

def OpR (d : Nat) : Reader OpD where
  k := 7
  rd := fun w B o vs => ∃ ts, vs = .int .i64 o.kind :: (ts ++ [.int .i64 o.code, .int .i64 o.skip]) ∧ I64 o.kind ∧ I64 o.code ∧ I64 o.skip ∧ RTm w B d o.term ts
  keep := fun hw hB ⟨ts, e, h1, h2, h3, h⟩ => ⟨ts, e, h1, h2, h3, RTm.below hw hB h⟩
  wide := fun hB ⟨ts, e, h1, h2, h3, h⟩ => ⟨ts, e, h1, h2, h3, RTm.more hB h⟩
  len := fun ⟨ts, e, _, _, _, h⟩ => by
    obtain ⟨_, _, rfl, _⟩ := RTm.cells h
    rw [e]; rfl

def ExR (d : Nat) : Reader (List OpD) where
  k := 1
  rd := fun w B e vs => ∃ v, vs = [v] ∧ RSl (OpR d) w B e v
  keep := fun hw hB ⟨v, e, h⟩ => ⟨v, e, h.keep hw hB⟩
  wide := fun hB ⟨v, e, h⟩ => ⟨v, e, h.wide hB⟩
  len := fun ⟨_, e, _⟩ => by rw [e]; rfl

def ScR : Reader Sc where
  k := 2
  rd := fun _ _ s vs => vs = [.int .i64 s.kind, .string s.key] ∧ I64 s.kind ∧ s.key.size ≤ 140737488351232
  keep := fun _ _ h => h
  wide := fun _ h => h
  len := fun h => by rw [h.1]; rfl

def RuR (d : Nat) : Reader Ru where
  k := 5
  rd := fun w B r vs => ∃ v0 v1 v2 v3, vs = [.string r.head.name, v0, v1, v2, v3] ∧ r.head.name.size ≤ 140737488351232 ∧ RSl (TmR d) w B r.head.terms v0 ∧ RSl (PrR d) w B r.body v1 ∧ RSl (ExR d) w B r.exprs v2 ∧ RSl ScR w B r.scopes v3
  keep := fun hw hB ⟨a, b, c, d, e, h, h0, h1, h2, h3⟩ => ⟨a, b, c, d, e, h, h0.keep hw hB, h1.keep hw hB, h2.keep hw hB, h3.keep hw hB⟩
  wide := fun hB ⟨a, b, c, d, e, h, h0, h1, h2, h3⟩ => ⟨a, b, c, d, e, h, h0.wide hB, h1.wide hB, h2.wide hB, h3.wide hB⟩
  len := fun ⟨_, _, _, _, e, _⟩ => by rw [e]; rfl

def CkR (d : Nat) : Reader Ck where
  k := 2
  rd := fun w B c vs => ∃ v, vs = [.bool c.all, v] ∧ RSl (RuR d) w B c.queries v
  keep := fun hw hB ⟨v, e, h⟩ => ⟨v, e, h.keep hw hB⟩
  wide := fun hB ⟨v, e, h⟩ => ⟨v, e, h.wide hB⟩
  len := fun ⟨_, e, _⟩ => by rw [e]; rfl

def BkR (d : Nat) : Reader Bk where
  k := 4
  rd := fun w B b vs => ∃ v0 v1 v2 v3, vs = [v0, v1, v2, v3] ∧ RSl (PrR d) w B b.facts v0 ∧ RSl (RuR d) w B b.rules v1 ∧ RSl (CkR d) w B b.checks v2 ∧ RSl ScR w B b.scopes v3
  keep := fun hw hB ⟨a, b, c, d, e, h0, h1, h2, h3⟩ => ⟨a, b, c, d, e, h0.keep hw hB, h1.keep hw hB, h2.keep hw hB, h3.keep hw hB⟩
  wide := fun hB ⟨a, b, c, d, e, h0, h1, h2, h3⟩ => ⟨a, b, c, d, e, h0.wide hB, h1.wide hB, h2.wide hB, h3.wide hB⟩
  len := fun ⟨_, _, _, _, e, _⟩ => by rw [e]; rfl
end Go.Proofs.Ytiplipdigabidaa
