/- An expression, a binding as arguments, opened to plain data. -/
import Derived.Test.YtiplipdigabidaaGreatOpenT
import Derived.Test.YtiplipdigabidaaGreatFound
set_option linter.unusedVariables false
set_option linter.unusedSimpArgs false
namespace Go.Proofs.YtiplipdigabidaaGreat
open Go.ChangeShapes Go.WideShapes Go.ChangeAt Go.RowKit

theorem cells_Ops : Tryz.prog.cellsOf 22 = 1 := by kernel_rfl
theorem cells_Op : Tryz.prog.cellsOf 35 = 7 := by kernel_rfl
theorem cells_Expr : Tryz.prog.cellsOf 24 = 1 := by kernel_rfl
theorem cells_Strs : Tryz.prog.cellsOf 25 = 1 := by kernel_rfl
theorem cells_Bind : Tryz.prog.cellsOf 28 = 2 := by kernel_rfl

section
variable {H : Type} {enc : TypeId × Value → H} {w : World} {base : Nat} {held : Bool}

set_option maxRecDepth 100000 in
theorem op_open {n D : Nat} {cs : List Value} {x : DataW H × List MemPlace} (h : DataW.trod enc Tryz.prog w base (fun _ => true) held n 35 cs = some x) (ho : Ok Tryz.prog 35 x.1) (hD : n ≤ D) : ∃ o, (OpR D).rd w w.heap.size o cs := by
  obtain ⟨hc, n', hn, hf⟩ := open_fields (Tryz.underlying35) h ho
  have hcl := hc.trans cells_Op
  match cs, hcl with
  | [c0, c1, c2, c3, c4, c5, c6], _ =>
    obtain ⟨_, h0, _⟩ := hf 0 _ _ _ _ rfl rfl rfl cells_int
    obtain ⟨_, h1, o1⟩ := hf 1 _ _ _ _ rfl rfl rfl cells_Term
    obtain ⟨_, h2, _⟩ := hf 2 _ _ _ _ rfl rfl rfl cells_int
    obtain ⟨_, h3, _⟩ := hf 3 _ _ _ _ rfl rfl rfl cells_int
    obtain ⟨k0, e0, i0⟩ := open_int (Tryz.underlying3) h0
    obtain ⟨k2, e2, i2⟩ := open_int (Tryz.underlying3) h2
    obtain ⟨k3, e3, i3⟩ := open_int (Tryz.underlying3) h3
    obtain ⟨t, ht⟩ := tm_open _ _ _ h1 o1
    replace e0 : [c0] = _ := e0
    replace e2 : [c5] = _ := e2
    replace e3 : [c6] = _ := e3
    replace ht : RTm w w.heap.size n' t [c1, c2, c3, c4] := ht
    simp only [List.cons.injEq, and_true] at e0 e2 e3
    subst e0 e2 e3
    exact ⟨⟨k0, t, k2, k3⟩, _, rfl, i0, i2, i3, RTm.deeper (by omega) ht⟩

theorem ops_open {n D : Nat} {cs : List Value} {x : DataW H × List MemPlace} (h : DataW.trod enc Tryz.prog w base (fun _ => true) held n 22 cs = some x) (ho : Ok Tryz.prog 22 x.1) (hD : n ≤ D) : ∃ ts v, cs = [v] ∧ RSl (OpR D) w w.heap.size ts v :=
  open_row (OpR D) (D := D) (B := 80) (Tryz.underlying22) cells_Op (by simp [OpR]) (by simp [OpR]) (by kernel_rfl) h ho (by omega) (fun m hm cs x hx ho => op_open hx ho hm)

set_option maxRecDepth 100000 in
theorem expr_open {n D : Nat} {cs : List Value} {x : DataW H × List MemPlace} (h : DataW.trod enc Tryz.prog w base (fun _ => true) held n 24 cs = some x) (ho : Ok Tryz.prog 24 x.1) (hD : n ≤ D) : ∃ o, (ExR D).rd w w.heap.size o cs := by
  obtain ⟨hc, n', hn, hf⟩ := open_fields (Tryz.underlying24) h ho
  have hcl := hc.trans cells_Expr
  match cs, hcl with
  | [c0], _ =>
    obtain ⟨_, h0, o0⟩ := hf 0 _ _ _ _ rfl rfl rfl cells_Ops
    obtain ⟨xs, v, e0, g⟩ := ops_open (D := D) h0 o0 (by omega)
    exact ⟨xs, v, e0, g⟩

theorem strs_open {n : Nat} {cs : List Value} {x : DataW H × List MemPlace} (h : DataW.trod enc Tryz.prog w base (fun _ => true) held n 25 cs = some x) (ho : Ok Tryz.prog 25 x.1) : ∃ ts v, cs = [v] ∧ RSl StrR w w.heap.size ts v :=
  open_row StrR (D := n) (B := 16) (Tryz.underlying25) cells_string (by simp [StrR]) (by simp [StrR]) (by kernel_rfl) h ho (by omega) (fun m hm cs x hx ho => by
    obtain ⟨s, e, i⟩ := open_string (Tryz.underlying9) hx ho
    exact ⟨s, e, i⟩)

/-- A binding's two rows. -/
def BindAt (D : Nat) (w : World) (B : Nat) (b : Bd) (cs : List Value) : Prop :=
  ∃ An cn At ct, cs = [.slice An b.names.length cn, .slice At b.terms.length ct] ∧ RL StrR w B (b.names.map mkS) An ∧ RL (TmR D) w B b.terms At ∧ b.names.length ≤ cn ∧ b.terms.length ≤ ct ∧ b.names.length * 8 ≤ 140737488351232 ∧ b.terms.length * 32 ≤ 140737488351232 ∧ cn ≤ 9223372036854775807 ∧ ct ≤ 9223372036854775807
set_option maxRecDepth 100000 in
theorem bind_open {n D : Nat} {cs : List Value} {x : DataW H × List MemPlace} (h : DataW.trod enc Tryz.prog w base (fun _ => true) held n 28 cs = some x) (ho : Ok Tryz.prog 28 x.1) (hD : n ≤ D) : ∃ b, BindAt D w w.heap.size b cs := by
  obtain ⟨hc, n', hn, hf⟩ := open_fields (Tryz.underlying28) h ho
  have hcl := hc.trans cells_Bind
  match cs, hcl with
  | [c0, c1], _ =>
    obtain ⟨_, h0, o0⟩ := hf 0 _ _ _ _ rfl rfl rfl cells_Strs
    obtain ⟨_, h1, o1⟩ := hf 1 _ _ _ _ rfl rfl rfl cells_Terms
    obtain ⟨xs, v0, e0, g0⟩ := strs_open h0 o0
    obtain ⟨ts, v1, e1, g1⟩ := terms_open (D := D) h1 o1 (by omega)
    replace e0 : [c0] = _ := e0
    replace e1 : [c1] = _ := e1
    simp only [List.cons.injEq, and_true] at e0 e1
    subst e0 e1
    obtain ⟨An, cn, rfl, a1, a2, a3⟩ := g0
    obtain ⟨At, ct, rfl, b1, b2, b3⟩ := g1
    have hm : (xs.map bs).map mkS = xs := by
      rw [List.map_map]
      conv => rhs; rw [← List.map_id xs]
      apply List.map_congr_left
      intro s _
      exact mkS_bs s
    refine ⟨⟨xs.map bs, ts⟩, An, cn, At, ct, by simp, by rw [hm]; exact a3, b3, by simpa using a1, b1, ?_, ?_, a2.2, b2.2⟩
    · simpa [StrR] using a2.1
    · simpa [TmR] using b2.1
end
end Go.Proofs.YtiplipdigabidaaGreat
