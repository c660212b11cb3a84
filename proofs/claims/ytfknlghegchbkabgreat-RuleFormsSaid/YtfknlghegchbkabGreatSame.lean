/- term.Same, rule.sameOp .. Same, SamePolicy, slices.Equal. Printed by wip/gen/mk_same.py. -/
import Derived.Test.YtfknlghegchbkabGreatEq
import Derived.Test.YtfknlghegchbkabGreatTerm5
set_option linter.unusedVariables false
set_option linter.unusedSimpArgs false
namespace Go.Proofs.YtfknlghegchbkabGreat
open Go.ChangeShapes Go.WideShapes Go.ChangeAt Go.RowKit

def sameTB (a b : Tm) : Bool := decide (cmpT 3 a b = 0)
def sameOpB (a b : OpD) : Bool := decide (a.kind = b.kind) && (decide (a.code = b.code) && (decide (a.skip = b.skip) && sameTB a.term b.term))
def sameExB (a b : List OpD) : Bool := eqL sameOpB a b
def samePrB (a b : Pr) : Bool := (a.name.toList == b.name.toList) && eqL sameTB a.terms b.terms
def sameScB (a b : Sc) : Bool := (a.kind == b.kind) && (a.key.toList == b.key.toList)
def sameRuB (a b : Ru) : Bool := samePrB a.head b.head && (eqL samePrB a.body b.body && (eqL sameExB a.exprs b.exprs && eqL sameScB a.scopes b.scopes))
def sameCkB (a b : Ck) : Bool := (a.all == b.all) && eqL sameRuB a.queries b.queries
def sameBkB (a b : Bk) : Bool := eqL samePrB a.facts b.facts && (eqL sameRuB a.rules b.rules && (eqL sameCkB a.checks b.checks && eqL sameScB a.scopes b.scopes))

theorem and_f {a b : Bool} (h : a = false) : (a && b) = false := by rw [h]; rfl
theorem and_t {a b : Bool} (h : a = true) : (a && b) = b := by rw [h]; rfl

theorem run_neq_scope (x y : Sc) (w : World) : (binOp .neq 48 (.agg #[.int .i64 x.kind, .string x.key]) (.agg #[.int .i64 y.kind, .string y.key])).run Tryz.prog w = .ok (.bool (!sameScB x y)) w := by
  rw [run_neq_struct, run_equalIn_agg _ _ _ _ _ (by kernel_rfl) (by kernel_rfl)]
  simp only [Program.fieldsOf, Tryz.underlying48]
  go_simp
  unfold sameScB
  by_cases h1 : x.kind = y.kind <;> by_cases h2 : x.key.toList = y.key.toList <;> simp [h1, h2]
theorem run_guard_scope (x y : Sc) (w : World) (o : BinOp) (p q : Operand) : (eqGuard o 48 p q (.agg #[.int .i64 x.kind, .string x.key]) (.agg #[.int .i64 y.kind, .string y.key])).run Tryz.prog w = .ok () w :=
  run_eqGuard_agg _ _ _ _ _ _ _ (by kernel_rfl)

set_option maxRecDepth 100000 in
set_option maxHeartbeats 2000000 in
theorem same_any {d : Nat} {a b : Tm} {va vb : List Value} {B : Nat} {w : World} (ha : (TmR d).rd w B a va) (hb : (TmR d).rd w B b vb) (hB : B ≤ w.heap.size) :
    Calls Tryz.prog 80 #[.agg va.toArray, .agg vb.toArray] w fun e w' => e = .returned (.bool (sameTB a b)) ∧ Below w.heap.size w w' := by
  have HA := Lib.hid (And.intro ha hb)
  obtain ⟨A0, c0, rfl, _⟩ := RTm.cells ha
  obtain ⟨A0', c0', rfl, _⟩ := RTm.cells hb
  clear ha hb
  go_enter Tryz.func80, Tryz.ntmps80
  go_wp2_with fail
  generalize hW : World.alloc _ _ = w1
  obtain ⟨hb, hz⟩ := al2 hW
  have HB1 := Lib.hid hb
  clear hW hz hb
  refine (compare_any d d a b [_, _, _, _] [_, _, _, _] B w1 (RTm.below HB1.out hB HA.out.1) (RTm.below HB1.out hB HA.out.2) (Nat.le_trans hB HB1.out.size)).mono ?_
  rintro x w2 ⟨rfl, hb⟩
  have HB2 := Lib.hid (bthen HB1.out hb)
  clear hb
  go_wp2_with fail
  go_ret
  exact ⟨ret_bool (by rw [sameTB, Bool.eq_iff_iff]; simp), HB2.out⟩

set_option maxRecDepth 100000 in
set_option maxHeartbeats 2000000 in
theorem sameOp_any {d : Nat} {a b : OpD} {va vb : List Value} {B : Nat} {w : World} (ha : (OpR d).rd w B a va) (hb : (OpR d).rd w B b vb) (hB : B ≤ w.heap.size) :
    Calls Tryz.prog 109 #[.agg va.toArray, .agg vb.toArray] w fun e w' => e = .returned (.bool (sameOpB a b)) ∧ Below w.heap.size w w' := by
  have HA := Lib.hid (And.intro ha hb)
  obtain ⟨_, rfl, _, _, _, ht⟩ := id ha
  obtain ⟨A0, c0, rfl, _⟩ := RTm.cells ht
  obtain ⟨_, rfl, _, _, _, ht'⟩ := id hb
  obtain ⟨A0', c0', rfl, _⟩ := RTm.cells ht'
  have HT := Lib.hid (And.intro ht ht')
  clear ha hb ht ht'
  by_cases t1 : (a.kind == b.kind) = true
  rotate_left
  · simp only [Bool.not_eq_true] at t1
    have T1 := Lib.hid t1
    go_enter Tryz.func109, Tryz.ntmps109
    go_wp2_with fail
    go_ret
    refine ⟨ret_bool ?_, ((Below.refl _ _).alloc (Nat.le_refl _) _).alloc (by simp) _⟩
    unfold sameOpB
    rw [and_f (by first | exact T1.out | simpa using T1.out)]
  have T1 := Lib.hid t1
  by_cases t2 : (a.code == b.code) = true
  rotate_left
  · simp only [Bool.not_eq_true] at t2
    have T2 := Lib.hid t2
    go_enter Tryz.func109, Tryz.ntmps109
    go_wp2_with fail
    go_ret
    refine ⟨ret_bool ?_, ((Below.refl _ _).alloc (Nat.le_refl _) _).alloc (by simp) _⟩
    unfold sameOpB
    rw [and_t (by first | exact T1.out | simpa using T1.out), and_f (by first | exact T2.out | simpa using T2.out)]
  have T2 := Lib.hid t2
  by_cases t3 : (a.skip == b.skip) = true
  rotate_left
  · simp only [Bool.not_eq_true] at t3
    have T3 := Lib.hid t3
    go_enter Tryz.func109, Tryz.ntmps109
    go_wp2_with fail
    go_ret
    refine ⟨ret_bool ?_, ((Below.refl _ _).alloc (Nat.le_refl _) _).alloc (by simp) _⟩
    unfold sameOpB
    rw [and_t (by first | exact T1.out | simpa using T1.out), and_t (by first | exact T2.out | simpa using T2.out), and_f (by first | exact T3.out | simpa using T3.out)]
  have T3 := Lib.hid t3
  go_enter Tryz.func109, Tryz.ntmps109
  go_wp2_with fail
  generalize hW : World.alloc _ _ = w1
  obtain ⟨hb, hz⟩ := al2 hW
  have b_a_1 := n21 hW
  have b_b_1 := n22 hW
  have HB1 := Lib.hid hb
  clear hW hz hb
  refine (same_any (d := d) (va := [_, _, _, _]) (vb := [_, _, _, _]) (B := B) (RTm.below HB1.out hB HT.out.1) (RTm.below HB1.out hB HT.out.2) (Nat.le_trans hB HB1.out.size)).mono ?_
  rintro x w2 ⟨rfl, hb⟩
  have b_a_2 := b_a_1.later hb
  have b_b_2 := b_b_1.later hb
  have HB2 := Lib.hid (bthen HB1.out hb)
  clear b_a_1 b_b_1
  clear hb
  obtain ⟨bb, hbb⟩ : ∃ bb, bb = sameTB a.term b.term := ⟨_, rfl⟩
  have HBB := Lib.hid hbb
  rw [← hbb]
  clear hbb
  have k_a := b_a_2.cell
  have l_a := b_a_2.lt
  have k_b := b_b_2.cell
  have l_b := b_b_2.lt
  go_wp2_with fail
  clear k_a l_a k_b l_b
  go_ret
  refine ⟨ret_bool ?_, HB2.out⟩
  unfold sameOpB
  rw [and_t (by first | exact T1.out | simpa using T1.out), and_t (by first | exact T2.out | simpa using T2.out), and_t (by first | exact T3.out | simpa using T3.out), HBB.out]

set_option maxRecDepth 100000 in
set_option maxHeartbeats 2000000 in
theorem sameExpr_any {d : Nat} {a b : (List OpD)} {va vb : List Value} {B : Nat} {w : World} (ha : (ExR d).rd w B a va) (hb : (ExR d).rd w B b vb) (hB : B ≤ w.heap.size) :
    Calls Tryz.prog 82 #[.agg va.toArray, .agg vb.toArray] w fun e w' => e = .returned (.bool (sameExB a b)) ∧ Below w.heap.size w w' := by
  have HA := Lib.hid (And.intro ha hb)
  obtain ⟨_, rfl, ⟨A0, c0, rfl, g0, h0, hl0⟩⟩ := id ha
  obtain ⟨_, rfl, ⟨A0', c0', rfl, g0', h0', hl0'⟩⟩ := id hb
  simp only [OpR] at *
  have HL0 := Lib.hid hl0
  have HL0' := Lib.hid hl0'
  clear ha hb hl0 hl0'
  go_enter Tryz.func82, Tryz.ntmps82
  go_wp2_with fail
  generalize hW : World.alloc _ _ = w1
  obtain ⟨hb, hz⟩ := al2 hW
  have b_a_1 := n21 hW
  have b_b_1 := n22 hW
  have HB1 := Lib.hid hb
  clear hW hz hb
  refine (equalFuncOp_any d 109 #[] sameOpB a b A0 A0' c0 c0' B _ (ent Tryz.func109 (by kernel_rfl) rfl) (HL0.out.keep HB1.out hB) (HL0'.out.keep HB1.out hB) (Nat.le_trans hB HB1.out.size) (by omega) (by omega) (fun x y vs us w1 hb1 hx hy => sameOp_any hx hy (Nat.le_trans (Nat.le_trans hB HB1.out.size) hb1.size))).mono ?_
  rintro x w2 ⟨rfl, hb⟩
  have b_a_2 := b_a_1.later hb
  have b_b_2 := b_b_1.later hb
  have HB2 := Lib.hid (bthen HB1.out hb)
  clear b_a_1 b_b_1
  clear hb
  obtain ⟨bb, hbb⟩ : ∃ bb, bb = eqL sameOpB a b := ⟨_, rfl⟩
  have HBB := Lib.hid hbb
  rw [← hbb]
  clear hbb
  have k_a := b_a_2.cell
  have l_a := b_a_2.lt
  have k_b := b_b_2.cell
  have l_b := b_b_2.lt
  go_wp2_with fail
  clear k_a l_a k_b l_b
  go_ret
  refine ⟨ret_bool ?_, HB2.out⟩
  unfold sameExB
  rw [HBB.out]

set_option maxRecDepth 100000 in
set_option maxHeartbeats 2000000 in
theorem samePred_any {d : Nat} {a b : Pr} {va vb : List Value} {B : Nat} {w : World} (ha : (PrR d).rd w B a va) (hb : (PrR d).rd w B b vb) (hB : B ≤ w.heap.size) :
    Calls Tryz.prog 40 #[.agg va.toArray, .agg vb.toArray] w fun e w' => e = .returned (.bool (samePrB a b)) ∧ Below w.heap.size w w' := by
  have HA := Lib.hid (And.intro ha hb)
  obtain ⟨_, rfl, hs, ⟨A0, c0, rfl, g0, h0, hl0⟩⟩ := id ha
  obtain ⟨_, rfl, hs', ⟨A0', c0', rfl, g0', h0', hl0'⟩⟩ := id hb
  simp only [TmR] at *
  have HL0 := Lib.hid hl0
  have HL0' := Lib.hid hl0'
  clear ha hb hl0 hl0'
  by_cases t1 : (a.name.toList == b.name.toList) = true
  rotate_left
  · simp only [Bool.not_eq_true] at t1
    have T1 := Lib.hid t1
    go_enter Tryz.func40, Tryz.ntmps40
    go_wp2_with fail
    go_ret
    refine ⟨ret_bool ?_, ((Below.refl _ _).alloc (Nat.le_refl _) _).alloc (by simp) _⟩
    unfold samePrB
    rw [and_f (by first | exact T1.out | simpa using T1.out)]
  have T1 := Lib.hid t1
  go_enter Tryz.func40, Tryz.ntmps40
  go_wp2_with fail
  generalize hW : World.alloc _ _ = w1
  obtain ⟨hb, hz⟩ := al2 hW
  have b_a_1 := n21 hW
  have b_b_1 := n22 hW
  have HB1 := Lib.hid hb
  clear hW hz hb
  refine (equalFuncTerm_any d 80 #[] sameTB a.terms b.terms A0 A0' c0 c0' B _ (ent Tryz.func80 (by kernel_rfl) rfl) (HL0.out.keep HB1.out hB) (HL0'.out.keep HB1.out hB) (Nat.le_trans hB HB1.out.size) (by omega) (by omega) (fun x y vs us w1 hb1 hx hy => same_any hx hy (Nat.le_trans (Nat.le_trans hB HB1.out.size) hb1.size))).mono ?_
  rintro x w2 ⟨rfl, hb⟩
  have b_a_2 := b_a_1.later hb
  have b_b_2 := b_b_1.later hb
  have HB2 := Lib.hid (bthen HB1.out hb)
  clear b_a_1 b_b_1
  clear hb
  obtain ⟨bb, hbb⟩ : ∃ bb, bb = eqL sameTB a.terms b.terms := ⟨_, rfl⟩
  have HBB := Lib.hid hbb
  rw [← hbb]
  clear hbb
  have k_a := b_a_2.cell
  have l_a := b_a_2.lt
  have k_b := b_b_2.cell
  have l_b := b_b_2.lt
  go_wp2_with fail
  clear k_a l_a k_b l_b
  go_ret
  refine ⟨ret_bool ?_, HB2.out⟩
  unfold samePrB
  rw [and_t (by first | exact T1.out | simpa using T1.out), HBB.out]


set_option maxRecDepth 100000 in
set_option maxHeartbeats 2000000 in
theorem equalScope_any (xs ys : List Sc) (A A' : Option Addr) (c c' B : Nat) (w : World) (hl : RL ScR w B xs A) (hl' : RL ScR w B ys A') (hB : B ≤ w.heap.size) (hn : xs.length ≤ 140737488351232) (hn' : ys.length ≤ 140737488351232) :
    Calls Tryz.prog 45 #[.slice A xs.length c, .slice A' ys.length c'] w fun e w' => e = .returned (.bool (eqL sameScB xs ys)) ∧ Below w.heap.size w w' := by
  by_cases hne : xs.length = ys.length
  rotate_left
  · have h1 : ((xs.length : Int) != (ys.length : Int)) = true := by simp; omega
    have HN := Lib.hid hne
    clear hne
    go_enter Tryz.func45, Tryz.ntmps45
    go_wp2_with fail
    go_ret
    exact ⟨ret_bool (eqL_len HN.out).symm, Below.refl _ _⟩
  have h1 : ((xs.length : Int) != (ys.length : Int)) = false := by simp; omega
  have HN := Lib.hid hne
  clear hne
  go_enter Tryz.func45, Tryz.ntmps45
  go_wp2_with fail
  go_loopw [13] (fun i wr => ∃ k : Nat, k ≤ xs.length ∧ i = .int .i64 k ∧ Below w.heap.size w wr ∧ Hid (eqL sameScB xs ys = eqL sameScB (xs.drop k) (ys.drop k))) (fun i _ => xs.length - (intOf i).toNat)
  case atStart => exact ⟨0, Nat.zero_le _, rfl, Below.refl _ _, rfl⟩
  case round =>
    obtain ⟨k, hk, rfl, hbw, HE⟩ := hrel
    by_cases hlt : k < xs.length
    · have hlt2 : k < ys.length := by have := HN.out; omega
      obtain ⟨b, off, rfl, hb⟩ := hl.base hbw hB (by omega)
      obtain ⟨b', off', rfl, hb'⟩ := hl'.base hbw hB (by omega)
      obtain ⟨x, vs, hx, hlen, hcell, hr⟩ := hl.at_ hbw hB hlt
      obtain ⟨rfl, _⟩ := id hr
      have p0 : wr.cell? ⟨b, off + k * 2, none⟩ = some (.int .i64 x.kind) := hcell 0 _ rfl
      have p1 : wr.cell? ⟨b, off + k * 2 + 1, none⟩ = some (.string x.key) := hcell 1 _ rfl
      clear hcell hlen hr
      obtain ⟨y, vs, hy, hlen, hcell, hr⟩ := hl'.at_ hbw hB hlt2
      obtain ⟨rfl, _⟩ := id hr
      have e0 : wr.cell? ⟨b', off' + k * 2, none⟩ = some (.int .i64 y.kind) := hcell 0 _ rfl
      have e1 : wr.cell? ⟨b', off' + k * 2 + 1, none⟩ = some (.string y.key) := hcell 1 _ rfl
      clear hcell hlen hr
      have HE2 : Hid (eqL sameScB xs ys = (sameScB x y && eqL sameScB (xs.drop (k + 1)) (ys.drop (k + 1)))) := by
        obtain ⟨h1, h2⟩ := List.getElem?_eq_some_iff.1 hx
        obtain ⟨h3, h4⟩ := List.getElem?_eq_some_iff.1 hy
        have := HE.out
        rw [List.drop_eq_getElem_cons h1, List.drop_eq_getElem_cons h3, h2, h4] at this
        exact this
      clear hx hy HE
      go_wp2_with fail
      have q0 := cell_regrown p0
      have q1 := cell_regrown p1
      have q2 := cell_regrown e0
      have q3 := cell_regrown e1
      clear p0 p1 e0 e1
      have g1 := fun w => run_neq_scope x y w
      have g2 := fun w o p q => run_guard_scope x y w o p q
      refine wp_region_quiet_below (by kernel_rfl) (by kernel_rfl) ?_
      repeat (go_big_quiet_step (fail))
      refine wpQuiet_nil ?_
      intro w3 hw3
      have hb3 : Below wr.heap.size wr w3 := by obtain ⟨p, rfl⟩ := hw3; exact below_regrown _ _ _
      clear hw3 q0 q1 q2 q3 g1 g2
      have HB3 := Lib.hid (bthen hbw hb3)
      clear hb3
      by_cases hp : sameScB x y = true
      · rw [hp] at HE2
        rw [hp]
        clear hp
        go_wp2_with fail
        go_roundw
        case rel => exact ⟨k + 1, by omega, by go_num, HB3.out, by have := HE2.out; rw [Bool.true_and] at this; exact this⟩
        case measure => simp [intOf]; omega
      · simp only [Bool.not_eq_true] at hp
        rw [hp] at HE2
        rw [hp]
        clear hp
        go_wp2_with fail
        go_ret
        exact ⟨ret_bool (by rw [HE2.out]; rfl), HB3.out⟩
    · have HE2 : Hid (eqL sameScB xs ys = true) := by
        have := HE.out
        rw [List.drop_eq_nil_iff.2 (show xs.length ≤ k by omega), List.drop_eq_nil_iff.2 (show ys.length ≤ k by have := HN.out; omega)] at this
        exact this
      clear HE
      go_wp2_with fail
      go_ret
      exact ⟨ret_bool HE2.out.symm, hbw⟩

set_option maxRecDepth 100000 in
set_option maxHeartbeats 2000000 in
theorem sameRule_any {d : Nat} {a b : Ru} {va vb : List Value} {B : Nat} {w : World} (ha : (RuR d).rd w B a va) (hb : (RuR d).rd w B b vb) (hB : B ≤ w.heap.size) :
    Calls Tryz.prog 42 #[.agg va.toArray, .agg vb.toArray] w fun e w' => e = .returned (.bool (sameRuB a b)) ∧ Below w.heap.size w w' := by
  have HA := Lib.hid (And.intro ha hb)
  obtain ⟨_, _, _, _, rfl, hs, ⟨A0, c0, rfl, g0, h0, hl0⟩, ⟨A1, c1, rfl, g1, h1, hl1⟩, ⟨A2, c2, rfl, g2, h2, hl2⟩, ⟨A3, c3, rfl, g3, h3, hl3⟩⟩ := id ha
  obtain ⟨_, _, _, _, rfl, hs', ⟨A0', c0', rfl, g0', h0', hl0'⟩, ⟨A1', c1', rfl, g1', h1', hl1'⟩, ⟨A2', c2', rfl, g2', h2', hl2'⟩, ⟨A3', c3', rfl, g3', h3', hl3'⟩⟩ := id hb
  simp only [TmR, PrR, ExR, ScR] at *
  have HL0 := Lib.hid hl0
  have HL0' := Lib.hid hl0'
  have HL1 := Lib.hid hl1
  have HL1' := Lib.hid hl1'
  have HL2 := Lib.hid hl2
  have HL2' := Lib.hid hl2'
  have HL3 := Lib.hid hl3
  have HL3' := Lib.hid hl3'
  clear ha hb hl0 hl0' hl1 hl1' hl2 hl2' hl3 hl3'
  have HP := Lib.hid (And.intro (show (PrR d).rd w B a.head [.string a.head.name, .slice A0 a.head.terms.length c0] from ⟨_, rfl, hs, A0, c0, rfl, g0, by simp only [TmR]; omega, HL0.out⟩) (show (PrR d).rd w B b.head [.string b.head.name, .slice A0' b.head.terms.length c0'] from ⟨_, rfl, hs', A0', c0', rfl, g0', by simp only [TmR]; omega, HL0'.out⟩))
  go_enter Tryz.func42, Tryz.ntmps42
  go_wp2_with fail
  generalize hW : World.alloc _ _ = w1
  obtain ⟨hb, hz⟩ := al2 hW
  have b_a_1 := n21 hW
  have b_b_1 := n22 hW
  have HB1 := Lib.hid hb
  clear hW hz hb
  refine (samePred_any (d := d) (B := B) (va := [_, _]) (vb := [_, _]) ((PrR d).keep HB1.out hB HP.out.1) ((PrR d).keep HB1.out hB HP.out.2) (Nat.le_trans hB HB1.out.size)).mono ?_
  rintro x w2 ⟨rfl, hb⟩
  have b_a_2 := b_a_1.later hb
  have b_b_2 := b_b_1.later hb
  have HB2 := Lib.hid (bthen HB1.out hb)
  clear b_a_1 b_b_1
  clear hb
  by_cases t1 : samePrB a.head b.head = true
  rotate_left
  · simp only [Bool.not_eq_true] at t1
    have T1 := Lib.hid t1
    rw [t1]
    have k_a := b_a_2.cell
    have l_a := b_a_2.lt
    have k_b := b_b_2.cell
    have l_b := b_b_2.lt
    go_wp2_with fail
    clear k_a l_a k_b l_b
    go_ret
    refine ⟨ret_bool ?_, HB2.out⟩
    unfold sameRuB
    rw [and_f (by first | exact T1.out | simpa using T1.out)]
  have T1 := Lib.hid t1
  rw [t1]
  have k_a := b_a_2.cell
  have l_a := b_a_2.lt
  have k_b := b_b_2.cell
  have l_b := b_b_2.lt
  go_wp2_with fail
  clear k_a l_a k_b l_b
  refine (equalFuncPred_any d 40 #[] samePrB a.body b.body A1 A1' c1 c1' B _ (ent Tryz.func40 (by kernel_rfl) rfl) (HL1.out.keep HB2.out hB) (HL1'.out.keep HB2.out hB) (Nat.le_trans hB HB2.out.size) (by omega) (by omega) (fun x y vs us w1 hb1 hx hy => samePred_any hx hy (Nat.le_trans (Nat.le_trans hB HB2.out.size) hb1.size))).mono ?_
  rintro x w3 ⟨rfl, hb⟩
  have b_a_3 := b_a_2.later hb
  have b_b_3 := b_b_2.later hb
  have HB3 := Lib.hid (bthen HB2.out hb)
  clear b_a_2 b_b_2
  clear hb
  by_cases t2 : eqL samePrB a.body b.body = true
  rotate_left
  · simp only [Bool.not_eq_true] at t2
    have T2 := Lib.hid t2
    rw [t2]
    have k_a := b_a_3.cell
    have l_a := b_a_3.lt
    have k_b := b_b_3.cell
    have l_b := b_b_3.lt
    go_wp2_with fail
    clear k_a l_a k_b l_b
    go_ret
    refine ⟨ret_bool ?_, HB3.out⟩
    unfold sameRuB
    rw [and_t (by first | exact T1.out | simpa using T1.out), and_f (by first | exact T2.out | simpa using T2.out)]
  have T2 := Lib.hid t2
  rw [t2]
  have k_a := b_a_3.cell
  have l_a := b_a_3.lt
  have k_b := b_b_3.cell
  have l_b := b_b_3.lt
  go_wp2_with fail
  clear k_a l_a k_b l_b
  refine (equalFuncExpr_any d 82 #[] sameExB a.exprs b.exprs A2 A2' c2 c2' B _ (ent Tryz.func82 (by kernel_rfl) rfl) (HL2.out.keep HB3.out hB) (HL2'.out.keep HB3.out hB) (Nat.le_trans hB HB3.out.size) (by omega) (by omega) (fun x y vs us w1 hb1 hx hy => sameExpr_any hx hy (Nat.le_trans (Nat.le_trans hB HB3.out.size) hb1.size))).mono ?_
  rintro x w4 ⟨rfl, hb⟩
  have b_a_4 := b_a_3.later hb
  have b_b_4 := b_b_3.later hb
  have HB4 := Lib.hid (bthen HB3.out hb)
  clear b_a_3 b_b_3
  clear hb
  by_cases t3 : eqL sameExB a.exprs b.exprs = true
  rotate_left
  · simp only [Bool.not_eq_true] at t3
    have T3 := Lib.hid t3
    rw [t3]
    have k_a := b_a_4.cell
    have l_a := b_a_4.lt
    have k_b := b_b_4.cell
    have l_b := b_b_4.lt
    go_wp2_with fail
    clear k_a l_a k_b l_b
    go_ret
    refine ⟨ret_bool ?_, HB4.out⟩
    unfold sameRuB
    rw [and_t (by first | exact T1.out | simpa using T1.out), and_t (by first | exact T2.out | simpa using T2.out), and_f (by first | exact T3.out | simpa using T3.out)]
  have T3 := Lib.hid t3
  rw [t3]
  have k_a := b_a_4.cell
  have l_a := b_a_4.lt
  have k_b := b_b_4.cell
  have l_b := b_b_4.lt
  go_wp2_with fail
  clear k_a l_a k_b l_b
  refine (equalScope_any a.scopes b.scopes A3 A3' c3 c3' B _ (HL3.out.keep HB4.out hB) (HL3'.out.keep HB4.out hB) (Nat.le_trans hB HB4.out.size) (by omega) (by omega)).mono ?_
  rintro x w5 ⟨rfl, hb⟩
  have b_a_5 := b_a_4.later hb
  have b_b_5 := b_b_4.later hb
  have HB5 := Lib.hid (bthen HB4.out hb)
  clear b_a_4 b_b_4
  clear hb
  obtain ⟨bb, hbb⟩ : ∃ bb, bb = eqL sameScB a.scopes b.scopes := ⟨_, rfl⟩
  have HBB := Lib.hid hbb
  rw [← hbb]
  clear hbb
  have k_a := b_a_5.cell
  have l_a := b_a_5.lt
  have k_b := b_b_5.cell
  have l_b := b_b_5.lt
  go_wp2_with fail
  clear k_a l_a k_b l_b
  go_ret
  refine ⟨ret_bool ?_, HB5.out⟩
  unfold sameRuB
  rw [and_t (by first | exact T1.out | simpa using T1.out), and_t (by first | exact T2.out | simpa using T2.out), and_t (by first | exact T3.out | simpa using T3.out), HBB.out]

set_option maxRecDepth 100000 in
set_option maxHeartbeats 2000000 in
theorem sameCheck_any {d : Nat} {a b : Ck} {va vb : List Value} {B : Nat} {w : World} (ha : (CkR d).rd w B a va) (hb : (CkR d).rd w B b vb) (hB : B ≤ w.heap.size) :
    Calls Tryz.prog 44 #[.agg va.toArray, .agg vb.toArray] w fun e w' => e = .returned (.bool (sameCkB a b)) ∧ Below w.heap.size w w' := by
  have HA := Lib.hid (And.intro ha hb)
  obtain ⟨_, rfl, ⟨A0, c0, rfl, g0, h0, hl0⟩⟩ := id ha
  obtain ⟨_, rfl, ⟨A0', c0', rfl, g0', h0', hl0'⟩⟩ := id hb
  simp only [RuR] at *
  have HL0 := Lib.hid hl0
  have HL0' := Lib.hid hl0'
  clear ha hb hl0 hl0'
  by_cases t1 : (a.all == b.all) = true
  rotate_left
  · simp only [Bool.not_eq_true] at t1
    have T1 := Lib.hid t1
    go_enter Tryz.func44, Tryz.ntmps44
    go_wp2_with fail
    go_ret
    refine ⟨ret_bool ?_, ((Below.refl _ _).alloc (Nat.le_refl _) _).alloc (by simp) _⟩
    unfold sameCkB
    rw [and_f (by first | exact T1.out | simpa using T1.out)]
  have T1 := Lib.hid t1
  go_enter Tryz.func44, Tryz.ntmps44
  go_wp2_with fail
  generalize hW : World.alloc _ _ = w1
  obtain ⟨hb, hz⟩ := al2 hW
  have b_a_1 := n21 hW
  have b_b_1 := n22 hW
  have HB1 := Lib.hid hb
  clear hW hz hb
  refine (equalFuncRule_any d 42 #[] sameRuB a.queries b.queries A0 A0' c0 c0' B _ (ent Tryz.func42 (by kernel_rfl) rfl) (HL0.out.keep HB1.out hB) (HL0'.out.keep HB1.out hB) (Nat.le_trans hB HB1.out.size) (by omega) (by omega) (fun x y vs us w1 hb1 hx hy => sameRule_any hx hy (Nat.le_trans (Nat.le_trans hB HB1.out.size) hb1.size))).mono ?_
  rintro x w2 ⟨rfl, hb⟩
  have b_a_2 := b_a_1.later hb
  have b_b_2 := b_b_1.later hb
  have HB2 := Lib.hid (bthen HB1.out hb)
  clear b_a_1 b_b_1
  clear hb
  obtain ⟨bb, hbb⟩ : ∃ bb, bb = eqL sameRuB a.queries b.queries := ⟨_, rfl⟩
  have HBB := Lib.hid hbb
  rw [← hbb]
  clear hbb
  have k_a := b_a_2.cell
  have l_a := b_a_2.lt
  have k_b := b_b_2.cell
  have l_b := b_b_2.lt
  go_wp2_with fail
  clear k_a l_a k_b l_b
  go_ret
  refine ⟨ret_bool ?_, HB2.out⟩
  unfold sameCkB
  rw [and_t (by first | exact T1.out | simpa using T1.out), HBB.out]

set_option maxRecDepth 100000 in
set_option maxHeartbeats 2000000 in
theorem sameBlock_any {d : Nat} {a b : Bk} {va vb : List Value} {B : Nat} {w : World} (ha : (BkR d).rd w B a va) (hb : (BkR d).rd w B b vb) (hB : B ≤ w.heap.size) :
    Calls Tryz.prog 12 #[.agg va.toArray, .agg vb.toArray] w fun e w' => e = .returned (.bool (sameBkB a b)) ∧ Below w.heap.size w w' := by
  have HA := Lib.hid (And.intro ha hb)
  obtain ⟨_, _, _, _, rfl, ⟨A0, c0, rfl, g0, h0, hl0⟩, ⟨A1, c1, rfl, g1, h1, hl1⟩, ⟨A2, c2, rfl, g2, h2, hl2⟩, ⟨A3, c3, rfl, g3, h3, hl3⟩⟩ := id ha
  obtain ⟨_, _, _, _, rfl, ⟨A0', c0', rfl, g0', h0', hl0'⟩, ⟨A1', c1', rfl, g1', h1', hl1'⟩, ⟨A2', c2', rfl, g2', h2', hl2'⟩, ⟨A3', c3', rfl, g3', h3', hl3'⟩⟩ := id hb
  simp only [PrR, RuR, CkR, ScR] at *
  have HL0 := Lib.hid hl0
  have HL0' := Lib.hid hl0'
  have HL1 := Lib.hid hl1
  have HL1' := Lib.hid hl1'
  have HL2 := Lib.hid hl2
  have HL2' := Lib.hid hl2'
  have HL3 := Lib.hid hl3
  have HL3' := Lib.hid hl3'
  clear ha hb hl0 hl0' hl1 hl1' hl2 hl2' hl3 hl3'
  go_enter Tryz.func12, Tryz.ntmps12
  go_wp2_with fail
  generalize hW : World.alloc _ _ = w1
  obtain ⟨hb, hz⟩ := al2 hW
  have b_a_1 := n21 hW
  have b_b_1 := n22 hW
  have HB1 := Lib.hid hb
  clear hW hz hb
  refine (equalFuncPred_any d 40 #[] samePrB a.facts b.facts A0 A0' c0 c0' B _ (ent Tryz.func40 (by kernel_rfl) rfl) (HL0.out.keep HB1.out hB) (HL0'.out.keep HB1.out hB) (Nat.le_trans hB HB1.out.size) (by omega) (by omega) (fun x y vs us w1 hb1 hx hy => samePred_any hx hy (Nat.le_trans (Nat.le_trans hB HB1.out.size) hb1.size))).mono ?_
  rintro x w2 ⟨rfl, hb⟩
  have b_a_2 := b_a_1.later hb
  have b_b_2 := b_b_1.later hb
  have HB2 := Lib.hid (bthen HB1.out hb)
  clear b_a_1 b_b_1
  clear hb
  by_cases t1 : eqL samePrB a.facts b.facts = true
  rotate_left
  · simp only [Bool.not_eq_true] at t1
    have T1 := Lib.hid t1
    rw [t1]
    have k_a := b_a_2.cell
    have l_a := b_a_2.lt
    have k_b := b_b_2.cell
    have l_b := b_b_2.lt
    go_wp2_with fail
    clear k_a l_a k_b l_b
    go_ret
    refine ⟨ret_bool ?_, HB2.out⟩
    unfold sameBkB
    rw [and_f (by first | exact T1.out | simpa using T1.out)]
  have T1 := Lib.hid t1
  rw [t1]
  have k_a := b_a_2.cell
  have l_a := b_a_2.lt
  have k_b := b_b_2.cell
  have l_b := b_b_2.lt
  go_wp2_with fail
  clear k_a l_a k_b l_b
  refine (equalFuncRule_any d 42 #[] sameRuB a.rules b.rules A1 A1' c1 c1' B _ (ent Tryz.func42 (by kernel_rfl) rfl) (HL1.out.keep HB2.out hB) (HL1'.out.keep HB2.out hB) (Nat.le_trans hB HB2.out.size) (by omega) (by omega) (fun x y vs us w1 hb1 hx hy => sameRule_any hx hy (Nat.le_trans (Nat.le_trans hB HB2.out.size) hb1.size))).mono ?_
  rintro x w3 ⟨rfl, hb⟩
  have b_a_3 := b_a_2.later hb
  have b_b_3 := b_b_2.later hb
  have HB3 := Lib.hid (bthen HB2.out hb)
  clear b_a_2 b_b_2
  clear hb
  by_cases t2 : eqL sameRuB a.rules b.rules = true
  rotate_left
  · simp only [Bool.not_eq_true] at t2
    have T2 := Lib.hid t2
    rw [t2]
    have k_a := b_a_3.cell
    have l_a := b_a_3.lt
    have k_b := b_b_3.cell
    have l_b := b_b_3.lt
    go_wp2_with fail
    clear k_a l_a k_b l_b
    go_ret
    refine ⟨ret_bool ?_, HB3.out⟩
    unfold sameBkB
    rw [and_t (by first | exact T1.out | simpa using T1.out), and_f (by first | exact T2.out | simpa using T2.out)]
  have T2 := Lib.hid t2
  rw [t2]
  have k_a := b_a_3.cell
  have l_a := b_a_3.lt
  have k_b := b_b_3.cell
  have l_b := b_b_3.lt
  go_wp2_with fail
  clear k_a l_a k_b l_b
  refine (equalFuncCheck_any d 44 #[] sameCkB a.checks b.checks A2 A2' c2 c2' B _ (ent Tryz.func44 (by kernel_rfl) rfl) (HL2.out.keep HB3.out hB) (HL2'.out.keep HB3.out hB) (Nat.le_trans hB HB3.out.size) (by omega) (by omega) (fun x y vs us w1 hb1 hx hy => sameCheck_any hx hy (Nat.le_trans (Nat.le_trans hB HB3.out.size) hb1.size))).mono ?_
  rintro x w4 ⟨rfl, hb⟩
  have b_a_4 := b_a_3.later hb
  have b_b_4 := b_b_3.later hb
  have HB4 := Lib.hid (bthen HB3.out hb)
  clear b_a_3 b_b_3
  clear hb
  by_cases t3 : eqL sameCkB a.checks b.checks = true
  rotate_left
  · simp only [Bool.not_eq_true] at t3
    have T3 := Lib.hid t3
    rw [t3]
    have k_a := b_a_4.cell
    have l_a := b_a_4.lt
    have k_b := b_b_4.cell
    have l_b := b_b_4.lt
    go_wp2_with fail
    clear k_a l_a k_b l_b
    go_ret
    refine ⟨ret_bool ?_, HB4.out⟩
    unfold sameBkB
    rw [and_t (by first | exact T1.out | simpa using T1.out), and_t (by first | exact T2.out | simpa using T2.out), and_f (by first | exact T3.out | simpa using T3.out)]
  have T3 := Lib.hid t3
  rw [t3]
  have k_a := b_a_4.cell
  have l_a := b_a_4.lt
  have k_b := b_b_4.cell
  have l_b := b_b_4.lt
  go_wp2_with fail
  clear k_a l_a k_b l_b
  refine (equalScope_any a.scopes b.scopes A3 A3' c3 c3' B _ (HL3.out.keep HB4.out hB) (HL3'.out.keep HB4.out hB) (Nat.le_trans hB HB4.out.size) (by omega) (by omega)).mono ?_
  rintro x w5 ⟨rfl, hb⟩
  have b_a_5 := b_a_4.later hb
  have b_b_5 := b_b_4.later hb
  have HB5 := Lib.hid (bthen HB4.out hb)
  clear b_a_4 b_b_4
  clear hb
  obtain ⟨bb, hbb⟩ : ∃ bb, bb = eqL sameScB a.scopes b.scopes := ⟨_, rfl⟩
  have HBB := Lib.hid hbb
  rw [← hbb]
  clear hbb
  have k_a := b_a_5.cell
  have l_a := b_a_5.lt
  have k_b := b_b_5.cell
  have l_b := b_b_5.lt
  go_wp2_with fail
  clear k_a l_a k_b l_b
  go_ret
  refine ⟨ret_bool ?_, HB5.out⟩
  unfold sameBkB
  rw [and_t (by first | exact T1.out | simpa using T1.out), and_t (by first | exact T2.out | simpa using T2.out), and_t (by first | exact T3.out | simpa using T3.out), HBB.out]

end Go.Proofs.YtfknlghegchbkabGreat
