/- ExprJoins: for every input the call returns true, and each argument reads afterwards as it read before. No conditions: every input of the given row. -/
import Derived.Test.YtiplipdigabidaaGreatUniq
import Derived.Test.YtiplipdigabidaaGreatOp5
import Derived.Test.YtiplipdigabidaaGreatRef1
import Derived.Test.YtiplipdigabidaaGreatEv4
import Derived.Test.YtiplipdigabidaaGreatLJoins
import Derived.HandedShaped
import Derived.Shelf.Vars
import Derived.ChangeMaps5
import Derived.Test.YtiplipdigabidaaGreatRows
import Derived.ProofKit
set_option linter.unusedVariables false
set_option linter.unusedSimpArgs false
namespace Go.Proofs.YtiplipdigabidaaGreat
open Go.ChangeShapes Go.WideShapes Go.ChangeAt Go.RowKit
theorem cells_Ops : Tryz.prog.cellsOf 22 = 1 := by kernel_rfl
theorem cells_Op : Tryz.prog.cellsOf 35 = 7 := by kernel_rfl
theorem cells_Expr : Tryz.prog.cellsOf 24 = 1 := by kernel_rfl
theorem cells_Strs : Tryz.prog.cellsOf 25 = 1 := by kernel_rfl
theorem cells_Bind : Tryz.prog.cellsOf 28 = 2 := by kernel_rfl
section
variable {H : Type} {enc : TypeId × Value → H} {w : World} {base : Nat} {held : Bool}
set_option maxRecDepth 100000 in
theorem op_open {n D : Nat} {cs : List Value} {x : DataW H × List MemPlace} (h : DataW.trod enc Tryz.prog w base (fun _ => true) held n 35 cs = some x) (ho : Ok Tryz.prog 35 x.1) (hD : n ≤ D) : ∃ o, (OpR D).rd w w.heap.size o cs := by
 obtain ⟨hc, n', hn, hf⟩ := open_fields (Tryz.underlying35) h ho
 have hcl := hc.trans cells_Op
 match cs, hcl with
 | [c0, c1, c2, c3, c4, c5, c6], _ =>
   obtain ⟨_, h0, _⟩ := hf 0 _ _ _ _ rfl rfl rfl cells_int
   obtain ⟨_, h1, o1⟩ := hf 1 _ _ _ _ rfl rfl rfl cells_Term
   obtain ⟨_, h2, _⟩ := hf 2 _ _ _ _ rfl rfl rfl cells_int
   obtain ⟨_, h3, _⟩ := hf 3 _ _ _ _ rfl rfl rfl cells_int
   obtain ⟨k0, e0, i0⟩ := open_int (Tryz.underlying3) h0
   obtain ⟨k2, e2, i2⟩ := open_int (Tryz.underlying3) h2
   obtain ⟨k3, e3, i3⟩ := open_int (Tryz.underlying3) h3
   obtain ⟨t, ht⟩ := tm_open _ _ _ h1 o1
   replace e0 : [c0] = _ := e0
   replace e2 : [c5] = _ := e2
   replace e3 : [c6] = _ := e3
   replace ht : RTm w w.heap.size n' t [c1, c2, c3, c4] := ht
   simp only [List.cons.injEq, and_true] at e0 e2 e3
   subst e0 e2 e3
   exact ⟨⟨k0, t, k2, k3⟩, _, rfl, i0, i2, i3, RTm.deeper (by omega) ht⟩
theorem ops_open {n D : Nat} {cs : List Value} {x : DataW H × List MemPlace} (h : DataW.trod enc Tryz.prog w base (fun _ => true) held n 22 cs = some x) (ho : Ok Tryz.prog 22 x.1) (hD : n ≤ D) : ∃ ts v, cs = [v] ∧ RSl (OpR D) w w.heap.size ts v :=
 open_row (OpR D) (D := D) (B := 80) (Tryz.underlying22) cells_Op (by simp [OpR]) (by simp [OpR]) (by kernel_rfl) h ho (by omega) (fun m hm cs x hx ho => op_open hx ho hm)
set_option maxRecDepth 100000 in
theorem expr_open {n D : Nat} {cs : List Value} {x : DataW H × List MemPlace} (h : DataW.trod enc Tryz.prog w base (fun _ => true) held n 24 cs = some x) (ho : Ok Tryz.prog 24 x.1) (hD : n ≤ D) : ∃ o, (ExR D).rd w w.heap.size o cs := by
 obtain ⟨hc, n', hn, hf⟩ := open_fields (Tryz.underlying24) h ho
 have hcl := hc.trans cells_Expr
 match cs, hcl with
 | [c0], _ =>
   obtain ⟨_, h0, o0⟩ := hf 0 _ _ _ _ rfl rfl rfl cells_Ops
   obtain ⟨xs, v, e0, g⟩ := ops_open (D := D) h0 o0 (by omega)
   exact ⟨xs, v, e0, g⟩
theorem strs_open {n : Nat} {cs : List Value} {x : DataW H × List MemPlace} (h : DataW.trod enc Tryz.prog w base (fun _ => true) held n 25 cs = some x) (ho : Ok Tryz.prog 25 x.1) : ∃ ts v, cs = [v] ∧ RSl StrR w w.heap.size ts v :=
 open_row StrR (D := n) (B := 16) (Tryz.underlying25) cells_string (by simp [StrR]) (by simp [StrR]) (by kernel_rfl) h ho (by omega) (fun m hm cs x hx ho => by
   obtain ⟨s, e, i⟩ := open_string (Tryz.underlying9) hx ho
   exact ⟨s, e, i⟩)
def BindAt (D : Nat) (w : World) (B : Nat) (b : Bd) (cs : List Value) : Prop :=
 ∃ An cn At ct, cs = [.slice An b.names.length cn, .slice At b.terms.length ct] ∧ RL StrR w B (b.names.map mkS) An ∧ RL (TmR D) w B b.terms At ∧ b.names.length ≤ cn ∧ b.terms.length ≤ ct ∧ b.names.length * 8 ≤ 140737488351232 ∧ b.terms.length * 32 ≤ 140737488351232 ∧ cn ≤ 9223372036854775807 ∧ ct ≤ 9223372036854775807
set_option maxRecDepth 100000 in
theorem bind_open {n D : Nat} {cs : List Value} {x : DataW H × List MemPlace} (h : DataW.trod enc Tryz.prog w base (fun _ => true) held n 28 cs = some x) (ho : Ok Tryz.prog 28 x.1) (hD : n ≤ D) : ∃ b, BindAt D w w.heap.size b cs := by
 obtain ⟨hc, n', hn, hf⟩ := open_fields (Tryz.underlying28) h ho
 have hcl := hc.trans cells_Bind
 match cs, hcl with
 | [c0, c1], _ =>
   obtain ⟨_, h0, o0⟩ := hf 0 _ _ _ _ rfl rfl rfl cells_Strs
   obtain ⟨_, h1, o1⟩ := hf 1 _ _ _ _ rfl rfl rfl cells_Terms
   obtain ⟨xs, v0, e0, g0⟩ := strs_open h0 o0
   obtain ⟨ts, v1, e1, g1⟩ := terms_open (D := D) h1 o1 (by omega)
   replace e0 : [c0] = _ := e0
   replace e1 : [c1] = _ := e1
   simp only [List.cons.injEq, and_true] at e0 e1
   subst e0 e1
   obtain ⟨An, cn, rfl, a1, a2, a3⟩ := g0
   obtain ⟨At, ct, rfl, b1, b2, b3⟩ := g1
   have hm : (xs.map bs).map mkS = xs := by
     rw [List.map_map]
     conv => rhs; rw [← List.map_id xs]
     apply List.map_congr_left
     intro s _
     exact mkS_bs s
   refine ⟨⟨xs.map bs, ts⟩, An, cn, At, ct, by simp, by rw [hm]; exact a3, b3, by simpa using a1, b1, ?_, ?_, a2.2, b2.2⟩
   · simpa [StrR] using a2.1
   · simpa [TmR] using b2.1
end
open Go.ChangeShapes Go.WideShapes Go.ChangeAt Go.RowKit
theorem own : ownKnob Tryz.prog.godebug = none := by kernel_rfl
theorem laidOut : laidOutB Tryz.prog = true := by kernel_rfl
theorem ok_of {H : Type} {P : Program} {ts : List TypeId} {ds : List (DataW H)} (h : (DataW.weightsEach P ts ds).all (· ≤ reachBytes) = true) {j : Nat} {t : TypeId} {d : DataW H} (ht : ts[j]? = some t) (hd : ds[j]? = some d) : Ok P t d := fun n hn => by
 have := List.all_eq_true.1 h n (DataW.weights_mem_each ht hd n hn)
 simpa using this
theorem i64_wf {n : Int} (hwf : (Lit.int .i64 n).wf = true) : I64 n := by
 simp only [Lit.wf] at hwf
 unfold I64
 revert hwf
 have e1 : IntKind.i64.signed = true := rfl
 have e2 : IntKind.i64.bits = 64 := rfl
 simp [IntKind.min, IntKind.max, e1, e2]
set_option maxRecDepth 100000 in
theorem exprJoins_lifted (os : Os) (started : os.Started) (H : Type) (enc : TypeId × Value → H) :
   ReturnsInHanded {} Tryz.checked os 4 .any (Rows.exprJoinsSpec.pre6 enc Tryz.prog Tryz.f4 Rows.exprJoinsRow.domain false) (Rows.exprJoinsSpec.post enc Tryz.prog Tryz.f4 false true false false) := by
 refine returnsInHanded_of_change_shaped (C := Tryz.checked) own started (by kernel_rfl) Tryz.func4
   (ChangeSpec.witness6 (enc := enc) (C := Tryz.checked) false ⟨#[], #[.agg #[.slice none 0 0], .agg #[.slice none 0 0], .int .i64 0, .agg #[.slice none 0 0, .slice none 0 0]], []⟩ 8 (by kernel_rfl) (by kernel_rfl) (by kernel_rfl) (by kernel_rfl)) ?_
 intro W base args ds gs before hval0 hW _ hsz0 hsh _
 have hsz : (DataW.weightsEach Tryz.prog (Tryz.f4.params.toList ++ Rows.exprJoinsSpec.plain.varTypes Tryz.prog) (ds ++ gs)).all (· ≤ reachBytes) = true := hsz0
 clear hsz0
 have hval : ∀ (j : Nat) t v, Tryz.f4.params[j]? = some t → args[j]? = some v → Value.okWide Tryz.prog W .any base t v := hval0
 have hW' := hW
 obtain ⟨p, q, hA0, hV, rfl, hfz, hnd⟩ := hW
 have hA : DataW.TrodAll enc Tryz.prog W 0 (fun _ => true) true Tryz.f4.params.toList args.toList ds p := hA0
 rw [Tryz.params4] at hA hval hsz
 obtain ⟨v0, v1, v2, v3, d0, d1, d2, d3, p0, p1, p2, p3, rfl, rfl, rfl, h0, h1, h2, h3⟩ := trodAll_four hA
 obtain ⟨rfl, rfl⟩ := trodVars_none hV
 obtain ⟨cs0, rfl, _⟩ := okWide_struct Tryz.underlying24 (hval 0 24 v0 rfl rfl)
 obtain ⟨cs1, rfl, _⟩ := okWide_struct Tryz.underlying24 (hval 1 24 v1 rfl rfl)
 obtain ⟨cs3, rfl, _⟩ := okWide_struct Tryz.underlying28 (hval 3 28 v3 rfl rfl)
 have k0 := h0
 have lt0 : ∀ x ∈ (p0 : List MemPlace), x.block < W.heap.size := by obtain ⟨m, hm⟩ := k0; exact DataW.trod_lt m _ _ _ hm
 have k1 := h1
 have lt1 : ∀ x ∈ (p1 : List MemPlace), x.block < W.heap.size := by obtain ⟨m, hm⟩ := k1; exact DataW.trod_lt m _ _ _ hm
 obtain ⟨x2, rfl, rfl, rfl, hw2⟩ := Go.ChangeShapes.open_int Tryz.underlying3 (hval 2 3 v2 rfl rfl) h2
 have i2 : I64 x2 := i64_wf hw2
 have k2 := h2
 have lt2 : ∀ x ∈ ([] : List MemPlace), x.block < W.heap.size := by obtain ⟨m, hm⟩ := k2; exact DataW.trod_lt m _ _ _ hm
 have k3 := h3
 have lt3 : ∀ x ∈ (p3 : List MemPlace), x.block < W.heap.size := by obtain ⟨m, hm⟩ := k3; exact DataW.trod_lt m _ _ _ hm
 obtain ⟨n0, t0⟩ := h0
 obtain ⟨n1, t1⟩ := h1
 obtain ⟨n3, t3⟩ := h3
 obtain ⟨D, hD⟩ : ∃ D, n0 ≤ D + 1 ∧ n1 ≤ D + 1 ∧ n3 ≤ D + 1 := ⟨(max (max n0 n1) n3), by omega⟩
 obtain ⟨r0, hr0⟩ := expr_open (D := D + 1) t0 (ok_of hsz (j := 0) rfl rfl) (by omega)
 obtain ⟨r1, hr1⟩ := expr_open (D := D + 1) t1 (ok_of hsz (j := 1) rfl rfl) (by omega)
 obtain ⟨r3, hr3⟩ := bind_open (D := D + 1) t3 (ok_of hsz (j := 3) rfl rfl) (by omega)
 obtain ⟨m0, hm0⟩ := cell_of_shapedOpen_int (g := 0) (t := 3) (zero := #[.int .i64 0]) hsh (of_decide_eq_true (by kernel_rfl)) (by kernel_rfl) rfl (by kernel_rfl) (by kernel_rfl) Tryz.underlying3
 have h00 : 0 < W.heap.size := block_lt_of_cell hm0
 clear hA0 hval0
 obtain ⟨cs0⟩ := cs0
 obtain ⟨cs1⟩ := cs1
 obtain ⟨cs3⟩ := cs3
 obtain ⟨An, cn, At, ct, e3, hbn, hbt, _, _, hbn1, hbt1, _, _⟩ := hr3
 subst e3
 refine (exprJoins_any  hr0 hr1 hbn hbt hbn1 hbt1 (Nat.le_refl _) hm0 h00).mono fun e W' ⟨he, bel⟩ => ?_
 subst he
 exact ⟨_, rfl, _, _, _, [], _, [], hW', trodAll_mk1 (shut_bool Tryz.underlying4 _), trodAll_mk4 (Below.trod laidOut (by kernel_rfl) (of_decide_eq_true (by kernel_rfl)) k0 bel lt0) (Below.trod laidOut (by kernel_rfl) (of_decide_eq_true (by kernel_rfl)) k1 bel lt1) (Below.trod laidOut (by kernel_rfl) (of_decide_eq_true (by kernel_rfl)) k2 bel lt2) (Below.trod laidOut (by kernel_rfl) (of_decide_eq_true (by kernel_rfl)) k3 bel lt3), rfl, bel.frame _, fun h => by cases h⟩
theorem exprJoins_over : Rows.exprJoinsRow.holds Tryz.pinned (OpenSpec.ofChange Rows.exprJoinsSpec) :=
 OpenClaim.holds_of_wide 4 Tryz.f4 rfl rfl rfl rfl rfl rfl rfl ⟨rfl, rfl, rfl, rfl, rfl⟩ rfl rfl rfl rfl rfl (by kernel_rfl) Tryz.func4 (by kernel_rfl)
   (of_decide_eq_true (by kernel_rfl)) (by unfold Func.isWrapper; first | (rw [if_pos (by decide +kernel)]; kernel_rfl) | (rw [if_neg (by decide +kernel)]; exact ⟨rfl, rfl⟩))
   (fun os started H enc _ => exprJoins_lifted os started H enc)
theorem exprJoins_holds : Rows.ExprJoinsSaid := exprJoins_over
end Go.Proofs.YtiplipdigabidaaGreat
