/- viaticumlaw12.awake. -/
import Derived.Test.YtiplipdigabidaaGreatTrue
set_option linter.unusedVariables false
set_option linter.unusedSimpArgs false
namespace Go.Proofs.YtiplipdigabidaaGreat
open Go.ChangeShapes Go.WideShapes Go.ChangeAt Go.RowKit

/-- An operation that is told: its cells lie in a block of the call's own. -/
theorem ret_op {fn : Func} {tmps : Array Value} {p : Tmp} {g : Nat} {w : World} {cs : Array Value} (h : fn.results = #[.cell p 35]) (hp : tmps.getD p undef = .pointer (some ⟨g, 0, none⟩)) (hb : Blk w g cs) (hn : cs.size = 7) :
    (results fn tmps).run Tryz.prog w = .ok (.agg cs) w := by
  obtain ⟨T, hb⟩ := hb
  exact results_cell_row h tmps w g T cs (0, 0) _ hp hb Tryz.underlying35 rfl (by rw [hn]; kernel_rfl)
/-- A row that is known whole. -/
theorem Blk.rls {α : Type} {R : Reader α} {w : World} {B b : Nat} {xs : List α} {cells : Array Value} (h : Blk w b cells) (hf : Flat R w B xs cells.toList) (hb : b < B) : RL R w B xs (some ⟨b, 0, none⟩) := fun _ =>
  ⟨b, 0, rfl, hb, fun i hi => ⟨_, R.len (hf.2 i hi), ⟨xs[i], List.getElem?_eq_getElem hi, hf.2 i hi⟩, fun j v hj => by
    rw [List.getElem?_take] at hj
    split at hj
    · rw [List.getElem?_drop] at hj
      rw [Nat.zero_add, h.cell, ← Array.getElem?_toList]
      exact hj
    · cases hj⟩⟩
def opT (n : Int) : OpD := ⟨1, ⟨2, n, ⟨#[]⟩, []⟩, 0, 0⟩
def opC (c : Int) : OpD := ⟨3, ⟨0, 0, ⟨#[]⟩, []⟩, c, 0⟩
def opV (k : Int) (t : Tm) (c s : Int) : List Value := [.int .i64 k, .int .i64 t.kind, .int .i64 t.n, .string t.s, .slice none 0 0, .int .i64 c, .int .i64 s]
theorem op_rd {w : World} {B : Nat} {o : OpD} (d : Nat) (h1 : I64 o.kind) (h2 : I64 o.code) (h3 : I64 o.skip) (k1 : I64 o.term.kind) (k2 : I64 o.term.n) (k3 : o.term.s.size ≤ 140737488351232) (k4 : o.term.l = []) : (OpR (d + 1)).rd w B o (opV o.kind o.term o.code o.skip) := by
  obtain ⟨k, ⟨tk, n, s, l⟩, c, sk⟩ := o
  simp only at k4
  subst k4
  exact ⟨[.int .i64 tk, .int .i64 n, .string s, .slice none 0 0], rfl, h1, h2, h3, none, 0, rfl, Nat.le_refl _, ⟨by simp, by omega⟩, k3, k1, k2, fun h => absurd h (by simp)⟩
theorem i64_lit {n : Int} (h : -1000000 ≤ n) (h' : n ≤ 1000000) : I64 n := by unfold I64; omega
theorem opT_rd {w : World} {B : Nat} (d : Nat) {n : Int} (h : -1000000 ≤ n) (h' : n ≤ 1000000) : (OpR (d + 1)).rd w B (opT n) (opV 1 ⟨2, n, ⟨#[]⟩, []⟩ 0 0) :=
  op_rd (o := opT n) d (i64_lit (by simp [opT]) (by simp [opT])) (i64_lit (by simp [opT]) (by simp [opT])) (i64_lit (by simp [opT]) (by simp [opT])) (i64_lit (by simp [opT]) (by simp [opT])) (i64_lit h h') (show (0 : Nat) ≤ 140737488351232 by omega) rfl
theorem opC_rd {w : World} {B : Nat} (d : Nat) {n : Int} (h : -1000000 ≤ n) (h' : n ≤ 1000000) : (OpR (d + 1)).rd w B (opC n) (opV 3 ⟨0, 0, ⟨#[]⟩, []⟩ n 0) :=
  op_rd (o := opC n) d (i64_lit (by simp [opC]) (by simp [opC])) (i64_lit h h') (i64_lit (by simp [opC]) (by simp [opC])) (i64_lit (by simp [opC]) (by simp [opC])) (i64_lit (by simp [opC]) (by simp [opC])) (show (0 : Nat) ≤ 140737488351232 by omega) rfl
theorem awake_eval : evalE ⟨[], []⟩ [opT 1, opT 2, opC 7] = (⟨2, 3, ⟨#[]⟩, []⟩, 0) := by kernel_rfl

set_option maxRecDepth 100000 in
set_option maxHeartbeats 1000000 in
theorem number12_any (n : Int) (w : World) :
    Calls Tryz.prog 33 #[.int .i64 n] w fun e w' => e = .returned (.agg #[.int .i64 1, .int .i64 2, .int .i64 n, .string ⟨#[]⟩, .slice none 0 0, .int .i64 0, .int .i64 0]) ∧ Below w.heap.size w w' := by
  go_enter Tryz.func33, Tryz.ntmps33
  go_wp2_with fail
  generalize hW : World.alloc _ _ = w1
  obtain ⟨hb1, hz⟩ := al1 hW
  have b_r := n11 hW
  have HB1 := Lib.hid hb1
  clear hW hb1
  have k_r := b_r.cell
  have f_r := b_r.free
  have l_r := b_r.lt
  go_wp2_with fail
  exact bodyPost_ret (ret_op rfl rfl b_r rfl) rfl ⟨rfl, HB1.out⟩

set_option maxRecDepth 100000 in
set_option maxHeartbeats 4000000 in
theorem awake12_any {w : World} {m : Int} (hm : w.cell? ⟨0, 0, none⟩ = some (.int .i64 m)) (h0 : 0 < w.heap.size) :
    Calls Tryz.prog 13 #[] w fun z w' => z = .returned (.bool true) ∧ Below w.heap.size w w' := by
  have HM := Lib.hid hm
  clear hm
  go_enter Tryz.func13, Tryz.ntmps13
  go_wp2_with fail
  refine (number12_any 1 _).mono ?_
  rintro x w1 ⟨rfl, hb⟩
  have HB1 := Lib.hid hb
  clear hb
  go_wp2_with fail
  refine (number12_any 2 _).mono ?_
  rintro x w2 ⟨rfl, hb⟩
  have HB2 := Lib.hid (bthen HB1.out hb)
  clear hb
  go_wp2_with fail
  generalize hW : World.alloc _ _ = w3
  obtain ⟨hb, hz⟩ := al1 hW
  have b_o := n11 hW
  have HB3 := Lib.hid (bthen HB2.out hb)
  clear hb hW
  have hsz := HB3.out.size
  have hrl : RL (OpR 1) w3 w3.heap.size [opT 1, opT 2, opC 7] (some ⟨w2.heap.size, 0, none⟩) := b_o.rls (((Flat.one (opT_rd 0 (n := 1) (by omega) (by omega))).append (Flat.one (opT_rd 0 (n := 2) (by omega) (by omega)))).append (Flat.one (opC_rd 0 (n := 7) (by omega) (by omega)))) b_o.lt
  have hex : (ExR 1).rd w3 w3.heap.size [opT 1, opT 2, opC 7] [.slice (some ⟨w2.heap.size, 0, none⟩) 3 3] := ⟨_, rfl, _, _, rfl, Nat.le_refl _, ⟨by simp [OpR], by omega⟩, hrl⟩
  refine (eval_any (evs := [_]) (D := 0) (b := ⟨[], []⟩) (An := none) (At := none) (cn := 0) (ct := 0) hex (fun h => absurd h (by simp)) (fun h => absurd h (by simp)) (Nat.le_refl _) ((HB3.out.cell (p := ⟨0, 0, none⟩) h0).trans HM.out) (Nat.lt_of_lt_of_le h0 hsz)).mono ?_
  rintro z w4 ⟨⟨A, c, rfl, hrd⟩, hb⟩
  have HB4 := Lib.hid (bthen HB3.out hb)
  clear hb hrd hex hrl b_o
  have hev : (if (mayExprB [opT 1, opT 2, opC 7] && bindB ⟨[], []⟩) = true then evalT ⟨[], []⟩ [opT 1, opT 2, opC 7] else (noT, 1)) = (⟨2, 3, ⟨#[]⟩, []⟩, 0) := awake_eval
  rw [hev]
  clear hev
  go_upto_region 2 with fail
  generalize hW : World.alloc _ _ = w5
  obtain ⟨hb, hz5⟩ := al1 hW
  have b_t := n11 hW
  have HB5 := Lib.hid (bthen HB4.out hb)
  clear hb hW
  have k_t := b_t.cell
  go_wp2_with fail
  go_ret
  exact ⟨rfl, HB5.out⟩
end Go.Proofs.YtiplipdigabidaaGreat
