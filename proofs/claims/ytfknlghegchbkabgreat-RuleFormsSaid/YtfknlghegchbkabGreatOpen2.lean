/- Opening a statement's argument: rules, checks, blocks. -/
import Derived.Test.YtfknlghegchbkabGreatOpen
set_option linter.unusedVariables false
set_option linter.unusedSimpArgs false
namespace Go.Proofs.YtfknlghegchbkabGreat
open Go.ChangeShapes Go.WideShapes Go.ChangeAt Go.RowKit

section
variable {H : Type} {enc : TypeId × Value → H} {w : World} {base : Nat} {held : Bool}
theorem cells_Rules : Tryz.prog.cellsOf 23 = 1 := by kernel_rfl
theorem cells_bool : Tryz.prog.cellsOf 4 = 1 := by kernel_rfl
theorem cells_Checks : Tryz.prog.cellsOf 24 = 1 := by kernel_rfl
theorem cells_Check : Tryz.prog.cellsOf 35 = 2 := by kernel_rfl
theorem cells_Block : Tryz.prog.cellsOf 27 = 4 := by kernel_rfl

theorem rules_open {n D : Nat} {cs : List Value} {x : DataW H × List MemPlace} (h : DataW.trod enc Tryz.prog w base (fun _ => true) held n 23 cs = some x) (ho : Ok Tryz.prog 23 x.1) (hD : n ≤ D) : ∃ ts v, cs = [v] ∧ RSl (RuR D) w w.heap.size ts v :=
  open_row (RuR D) (D := D) (B := 112) (Tryz.underlying23) cells_Rule (by simp [RuR]) (by simp [RuR]) (by kernel_rfl) h ho (by omega) (fun m hm cs x hx ho => rule_open hx ho hm)

set_option maxRecDepth 100000 in
theorem check_open {n D : Nat} {cs : List Value} {x : DataW H × List MemPlace} (h : DataW.trod enc Tryz.prog w base (fun _ => true) held n 35 cs = some x) (ho : Ok Tryz.prog 35 x.1) (hD : n ≤ D) : ∃ c, (CkR D).rd w w.heap.size c cs := by
  obtain ⟨hc, n', hn, hf⟩ := open_fields (Tryz.underlying35) h ho
  have hcl := hc.trans cells_Check
  match cs, hcl with
  | [c0, c1], _ =>
    obtain ⟨_, h0, o0⟩ := hf 0 _ _ _ _ rfl rfl rfl cells_bool
    obtain ⟨_, h1, o1⟩ := hf 1 _ _ _ _ rfl rfl rfl cells_Rules
    obtain ⟨bb, e0, _⟩ := DataW.trod_bool (Tryz.underlying4) h0
    obtain ⟨rs, v1, e1, g1⟩ := rules_open (D := D) h1 o1 (by omega)
    replace e0 : [c0] = _ := e0
    replace e1 : [c1] = _ := e1
    simp only [List.cons.injEq, and_true] at e0 e1
    subst e0 e1
    exact ⟨⟨bb, rs⟩, _, rfl, g1⟩

theorem checks_open {n D : Nat} {cs : List Value} {x : DataW H × List MemPlace} (h : DataW.trod enc Tryz.prog w base (fun _ => true) held n 24 cs = some x) (ho : Ok Tryz.prog 24 x.1) (hD : n ≤ D) : ∃ ts v, cs = [v] ∧ RSl (CkR D) w w.heap.size ts v :=
  open_row (CkR D) (D := D) (B := 32) (Tryz.underlying24) cells_Check (by simp [CkR]) (by simp [CkR]) (by kernel_rfl) h ho (by omega) (fun m hm cs x hx ho => check_open hx ho hm)

set_option maxRecDepth 100000 in
theorem block_open {n D : Nat} {cs : List Value} {x : DataW H × List MemPlace} (h : DataW.trod enc Tryz.prog w base (fun _ => true) held n 27 cs = some x) (ho : Ok Tryz.prog 27 x.1) (hD : n ≤ D) : ∃ b, (BkR D).rd w w.heap.size b cs := by
  obtain ⟨hc, n', hn, hf⟩ := open_fields (Tryz.underlying27) h ho
  have hcl := hc.trans cells_Block
  match cs, hcl with
  | [c0, c1, c2, c3], _ =>
    obtain ⟨_, h0, o0⟩ := hf 0 _ _ _ _ rfl rfl rfl cells_Preds
    obtain ⟨_, h1, o1⟩ := hf 1 _ _ _ _ rfl rfl rfl cells_Rules
    obtain ⟨_, h2, o2⟩ := hf 2 _ _ _ _ rfl rfl rfl cells_Checks
    obtain ⟨_, h3, o3⟩ := hf 3 _ _ _ _ rfl rfl rfl cells_Scopes
    obtain ⟨fs, v0, e0, g0⟩ := preds_open (D := D) h0 o0 (by omega)
    obtain ⟨rs, v1, e1, g1⟩ := rules_open (D := D) h1 o1 (by omega)
    obtain ⟨ks, v2, e2, g2⟩ := checks_open (D := D) h2 o2 (by omega)
    obtain ⟨ss, v3, e3, g3⟩ := scopes_open h3 o3
    replace e0 : [c0] = _ := e0
    replace e1 : [c1] = _ := e1
    replace e2 : [c2] = _ := e2
    replace e3 : [c3] = _ := e3
    simp only [List.cons.injEq, and_true] at e0 e1 e2 e3
    subst e0 e1 e2 e3
    exact ⟨⟨fs, rs, ks, ss⟩, _, _, _, _, rfl, g0, g1, g2, g3⟩
end
end Go.Proofs.YtfknlghegchbkabGreat
