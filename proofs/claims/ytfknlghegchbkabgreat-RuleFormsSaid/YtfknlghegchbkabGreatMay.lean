/- rule.queries, MayCheck, MayPolicy, MayBlock. Printed by wip/gen/mk_may.py. -/
import Derived.Test.YtfknlghegchbkabGreatSame
import Derived.Test.YtfknlghegchbkabGreatRule4
set_option linter.unusedVariables false
set_option linter.unusedSimpArgs false
namespace Go.Proofs.YtfknlghegchbkabGreat
open Go.ChangeShapes Go.WideShapes Go.ChangeAt Go.RowKit

def mayQueriesB (l : List Ru) : Bool := decide (1 ≤ l.length) && (decide ((l.length : Int) ≤ 8) && l.all mayQueryB)
def mayCheckB (c : Ck) : Bool := mayQueriesB c.queries
def mayBlockB (b : Bk) : Bool := (decide ((b.facts.length : Int) ≤ 32) && b.facts.all mayFactB) && ((decide ((b.rules.length : Int) ≤ 32) && b.rules.all mayRuleB) && ((decide ((b.checks.length : Int) ≤ 32) && b.checks.all mayCheckB) && (decide ((b.scopes.length : Int) ≤ 4) && b.scopes.all mayScopeB)))

theorem tells_mayQuery {d B : Nat} {w : World} (hB : B ≤ w.heap.size) : Tells Tryz.prog (RuR d) aggOf B w 18 #[] mayQueryB := fun x vs w1 hb hr => by
  obtain ⟨_, _, _, _, rfl, _⟩ := id hr
  exact mayQuery_any (d := d) (B := B) (vs := [_, _, _, _, _]) hr (by have := hb.size; omega)
theorem tells_mayRule {d B : Nat} {w : World} (hB : B ≤ w.heap.size) : Tells Tryz.prog (RuR d) aggOf B w 10 #[] mayRuleB := fun x vs w1 hb hr => by
  obtain ⟨_, _, _, _, rfl, _⟩ := id hr
  exact mayRule_any (d := d) (B := B) (vs := [_, _, _, _, _]) hr (by have := hb.size; omega)

set_option maxRecDepth 100000 in
set_option maxHeartbeats 2000000 in
theorem queries_any (d : Nat) (l : List Ru) (A : Option Addr) (c B : Nat) (w : World) (hl : RL (RuR d) w B l A) (hB : B ≤ w.heap.size) (hn : l.length ≤ 140737488351232) :
    Calls Tryz.prog 38 #[.slice A l.length c] w fun e w' => e = .returned (.bool (mayQueriesB l)) ∧ Below w.heap.size w w' := by
  by_cases h1 : 1 ≤ l.length
  · have u1 : (l.length : Int) ≥ 1 := by omega
    go_enter Tryz.func38, Tryz.ntmps38
    go_wp2_with fail
    refine (fewRule_any d 18 mayQueryB 8 l A c B w (ent Tryz.func18 (by kernel_rfl) rfl) hl hB (by omega) (tells_mayQuery hB)).mono ?_
    rintro e w1 ⟨rfl, hb1⟩
    have HM := Lib.hid (show mayQueriesB l = (decide ((l.length : Int) ≤ 8) && l.all mayQueryB) by rw [mayQueriesB, decide_eq_true h1, Bool.true_and])
    have HB1 := Lib.hid hb1
    obtain ⟨bb, hbb⟩ : ∃ bb, bb = (decide ((l.length : Int) ≤ 8) && l.all mayQueryB) := ⟨_, rfl⟩
    have HBB := Lib.hid hbb
    rw [← hbb]
    clear hb1 hbb
    go_wp2_with fail
    go_ret
    exact ⟨ret_bool (by rw [HM.out, HBB.out]), HB1.out⟩
  · have u1 : ¬ (l.length : Int) ≥ 1 := by omega
    go_enter Tryz.func38, Tryz.ntmps38
    go_wp2_with fail
    go_ret
    exact ⟨ret_bool (by rw [mayQueriesB, decide_eq_false h1]; rfl), Below.refl _ _⟩

set_option maxRecDepth 100000 in
set_option maxHeartbeats 2000000 in
theorem mayCheck_any {d B : Nat} {x : Ck} {vs : List Value} {w : World} (hx : (CkR d).rd w B x vs) (hB : B ≤ w.heap.size) :
    Calls Tryz.prog 11 #[.agg vs.toArray] w fun e w' => e = .returned (.bool (mayCheckB x)) ∧ Below w.heap.size w w' := by
  obtain ⟨_, rfl, A, c, rfl, h1, h2, hl⟩ := hx
  simp only [RuR] at h2
  have HL := Lib.hid hl
  clear hl
  go_enter Tryz.func11, Tryz.ntmps11
  go_wp2_with fail
  generalize hW : World.alloc _ _ = w1
  obtain ⟨hb, hz⟩ := al1 hW
  clear hW
  refine (queries_any d x.queries A c B w1 (HL.out.keep hb hB) (by omega) (by omega)).mono ?_
  rintro e w2 ⟨rfl, hb2⟩
  have HB := Lib.hid (bthen hb hb2)
  clear hb hb2 hz
  go_wp2_with fail
  go_ret
  exact ⟨rfl, HB.out⟩
theorem tells_mayCheck {d B : Nat} {w : World} (hB : B ≤ w.heap.size) : Tells Tryz.prog (CkR d) aggOf B w 11 #[] mayCheckB := fun x vs w1 hb hr => by
  obtain ⟨_, rfl, _⟩ := id hr
  exact mayCheck_any (d := d) (B := B) (vs := [_, _]) hr (by have := hb.size; omega)

set_option maxRecDepth 100000 in
set_option maxHeartbeats 2000000 in
theorem mayBlock_any {d B : Nat} {b : Bk} {vs : List Value} {w : World} (hx : (BkR d).rd w B b vs) (hB : B ≤ w.heap.size) :
    Calls Tryz.prog 8 #[.agg vs.toArray] w fun e w' => e = .returned (.bool (mayBlockB b)) ∧ Below w.heap.size w w' := by
  obtain ⟨_, _, _, _, rfl, ⟨A0, c0, rfl, g0, h0, hl0⟩, ⟨A1, c1, rfl, g1, h1, hl1⟩, ⟨A2, c2, rfl, g2, h2, hl2⟩, ⟨A3, c3, rfl, g3, h3, hl3⟩⟩ := hx
  simp only [PrR, RuR, CkR, ScR] at h0 h1 h2 h3
  have HL0 := Lib.hid hl0
  have HL1 := Lib.hid hl1
  have HL2 := Lib.hid hl2
  have HL3 := Lib.hid hl3
  clear hl0 hl1 hl2 hl3
  go_enter Tryz.func8, Tryz.ntmps8
  go_wp2_with fail
  generalize hW : World.alloc _ _ = w1
  obtain ⟨hb, hz⟩ := al1 hW
  have b_a_1 := n11 hW
  have HB1 := Lib.hid hb
  clear hW hz hb
  refine (fewPred_any d 15 mayFactB 32 b.facts A0 c0 B _ (ent Tryz.func15 (by kernel_rfl) rfl) (HL0.out.keep HB1.out hB) (Nat.le_trans hB HB1.out.size) (by omega) (tells_mayFact (Nat.le_trans hB HB1.out.size))).mono ?_
  rintro x w2 ⟨rfl, hb⟩
  have b_a_2 := b_a_1.later hb
  have HB2 := Lib.hid (bthen HB1.out hb)
  clear b_a_1
  clear hb
  by_cases t1 : (decide ((b.facts.length : Int) ≤ 32) && b.facts.all mayFactB) = true
  rotate_left
  · simp only [Bool.not_eq_true] at t1
    have T1 := Lib.hid t1
    rw [t1]
    have k_a := b_a_2.cell
    have l_a := b_a_2.lt
    go_wp2_with fail
    clear k_a l_a
    go_ret
    refine ⟨ret_bool ?_, HB2.out⟩
    unfold mayBlockB
    rw [and_f T1.out]
  have T1 := Lib.hid t1
  rw [t1]
  clear t1
  have k_a := b_a_2.cell
  have l_a := b_a_2.lt
  go_wp2_with fail
  clear k_a l_a
  refine (fewRule_any d 10 mayRuleB 32 b.rules A1 c1 B _ (ent Tryz.func10 (by kernel_rfl) rfl) (HL1.out.keep HB2.out hB) (Nat.le_trans hB HB2.out.size) (by omega) (tells_mayRule (Nat.le_trans hB HB2.out.size))).mono ?_
  rintro x w3 ⟨rfl, hb⟩
  have b_a_3 := b_a_2.later hb
  have HB3 := Lib.hid (bthen HB2.out hb)
  clear b_a_2
  clear hb
  by_cases t2 : (decide ((b.rules.length : Int) ≤ 32) && b.rules.all mayRuleB) = true
  rotate_left
  · simp only [Bool.not_eq_true] at t2
    have T2 := Lib.hid t2
    rw [t2]
    have k_a := b_a_3.cell
    have l_a := b_a_3.lt
    go_wp2_with fail
    clear k_a l_a
    go_ret
    refine ⟨ret_bool ?_, HB3.out⟩
    unfold mayBlockB
    rw [and_t T1.out, and_f T2.out]
  have T2 := Lib.hid t2
  rw [t2]
  clear t2
  have k_a := b_a_3.cell
  have l_a := b_a_3.lt
  go_wp2_with fail
  clear k_a l_a
  refine (fewCheck_any d 11 mayCheckB 32 b.checks A2 c2 B _ (ent Tryz.func11 (by kernel_rfl) rfl) (HL2.out.keep HB3.out hB) (Nat.le_trans hB HB3.out.size) (by omega) (tells_mayCheck (Nat.le_trans hB HB3.out.size))).mono ?_
  rintro x w4 ⟨rfl, hb⟩
  have b_a_4 := b_a_3.later hb
  have HB4 := Lib.hid (bthen HB3.out hb)
  clear b_a_3
  clear hb
  by_cases t3 : (decide ((b.checks.length : Int) ≤ 32) && b.checks.all mayCheckB) = true
  rotate_left
  · simp only [Bool.not_eq_true] at t3
    have T3 := Lib.hid t3
    rw [t3]
    have k_a := b_a_4.cell
    have l_a := b_a_4.lt
    go_wp2_with fail
    clear k_a l_a
    go_ret
    refine ⟨ret_bool ?_, HB4.out⟩
    unfold mayBlockB
    rw [and_t T1.out, and_t T2.out, and_f T3.out]
  have T3 := Lib.hid t3
  rw [t3]
  clear t3
  have k_a := b_a_4.cell
  have l_a := b_a_4.lt
  go_wp2_with fail
  clear k_a l_a
  refine (fewScope_any 26 mayScopeB 4 b.scopes A3 c3 B _ (ent Tryz.func26 (by kernel_rfl) rfl) (HL3.out.keep HB4.out hB) (Nat.le_trans hB HB4.out.size) (by omega) tells_mayScope).mono ?_
  rintro x w5 ⟨rfl, hb⟩
  have b_a_5 := b_a_4.later hb
  have HB5 := Lib.hid (bthen HB4.out hb)
  clear b_a_4
  clear hb
  obtain ⟨bb, hbb⟩ : ∃ bb, bb = (decide ((b.scopes.length : Int) ≤ 4) && b.scopes.all mayScopeB) := ⟨_, rfl⟩
  have HBB := Lib.hid hbb
  rw [← hbb]
  clear hbb
  have k_a := b_a_5.cell
  have l_a := b_a_5.lt
  go_wp2_with fail
  clear k_a l_a
  go_ret
  refine ⟨ret_bool ?_, HB5.out⟩
  unfold mayBlockB
  rw [and_t T1.out, and_t T2.out, and_t T3.out, HBB.out]
end Go.Proofs.YtfknlghegchbkabGreat
