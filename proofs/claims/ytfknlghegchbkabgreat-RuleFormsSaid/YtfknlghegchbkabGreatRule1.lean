/- rule.MayPred, MayFact, MayScope. -/
import Derived.Test.YtfknlghegchbkabGreatFnRule
set_option linter.unusedVariables false
set_option linter.unusedSimpArgs false
namespace Go.Proofs.YtfknlghegchbkabGreat
open Go.ChangeShapes Go.WideShapes Go.ChangeAt Go.RowKit

def mayPredB (p : Pr) : Bool := nameB (bs p.name) && decide (bs p.name ≠ [116, 114, 117, 101]) && decide (bs p.name ≠ [102, 97, 108, 115, 101]) && (decide (p.terms.length ≤ 8) && p.terms.all mayB)

theorem int_le_8 (k : Nat) : ((k : Int) ≤ 8) = (k ≤ 8) := by rw [eq_iff_iff]; omega
theorem int_le_4 (k : Nat) : ((k : Int) ≤ 4) = (k ≤ 4) := by rw [eq_iff_iff]; omega
theorem int_le_32 (k : Nat) : ((k : Int) ≤ 32) = (k ≤ 32) := by rw [eq_iff_iff]; omega

theorem tells_may {d B : Nat} {w : World} (hB : B ≤ w.heap.size) : Tells Tryz.prog (TmR d) aggOf B w 48 #[] mayB := fun x vs w1 hb hr => by
  obtain ⟨A, c, rfl, _⟩ := RTm.cells hr
  exact may_any (d := d) (B := B) hr (by have := hb.size; omega)
theorem tells_fixed {d B : Nat} {w : World} (hB : B ≤ w.heap.size) : Tells Tryz.prog (TmR d) aggOf B w 51 #[] fixedB := fun x vs w1 hb hr => by
  obtain ⟨A, c, rfl, _⟩ := RTm.cells hr
  exact fixed_any (d := d) (B := B) hr (by have := hb.size; omega)

set_option maxRecDepth 100000 in
set_option maxHeartbeats 1000000 in
theorem mayPred_any {d : Nat} {p : Pr} {vs : List Value} {B : Nat} {w : World} (hp : (PrR d).rd w B p vs) (hB : B ≤ w.heap.size) :
    Calls Tryz.prog 13 #[.agg vs.toArray] w fun e w' => e = .returned (.bool (mayPredB p)) ∧ Below w.heap.size w w' := by
  obtain ⟨_, rfl, hs, A, c, rfl, hc1, hc2, hl⟩ := hp
  have HB := Lib.hid (fun o : Obj => (Below.refl w.heap.size w).alloc (Nat.le_refl _) o)
  have HL := Lib.hid hl
  clear hl
  obtain ⟨name, terms⟩ := p
  dsimp only at *
  simp only [TmR] at hc2
  go_enter Tryz.func13, Tryz.ntmps13
  go_wp2_with (first
    | (go_at_call 46; refine (name_any _ _ (by unfold maxLen; omega)).mono ?_; rintro e w' ⟨rfl, rfl⟩)
    | (go_at_call 47; refine (fewTerm_any d 48 mayB 8 terms A c B _ (ent Tryz.func48 (by kernel_rfl) rfl) (HL.out.keep (HB.out _) hB) (Nat.le_trans hB (HB.out _).size) (by omega) (tells_may (Nat.le_trans hB (HB.out _).size))).mono ?_; rintro e w1 ⟨rfl, hb1⟩))
  all_goals go_ret
  all_goals first
    | refine ⟨ret_bool ?_, HB.out _⟩
    | refine ⟨ret_bool ?_, (HB.out _).trans (hb1.mono (HB.out _).size)⟩
  all_goals
    try simp only [ByteArray.toList_eq] at *
    rw [Bool.eq_iff_iff]
    simp [mayPredB, int_le_8, *]

def mayFactB (p : Pr) : Bool := mayPredB p && (decide (p.terms.length ≤ 8) && p.terms.all fixedB)

set_option maxRecDepth 100000 in
set_option maxHeartbeats 1000000 in
theorem mayFact_any {d : Nat} {p : Pr} {vs : List Value} {B : Nat} {w : World} (hp : (PrR d).rd w B p vs) (hB : B ≤ w.heap.size) :
    Calls Tryz.prog 15 #[.agg vs.toArray] w fun e w' => e = .returned (.bool (mayFactB p)) ∧ Below w.heap.size w w' := by
  have hp0 := hp
  obtain ⟨_, rfl, hs, A, c, rfl, hc1, hc2, hl⟩ := hp
  have HB := Lib.hid (fun o : Obj => (Below.refl w.heap.size w).alloc (Nat.le_refl _) o)
  have HL := Lib.hid hl
  have HP := Lib.hid hp0
  clear hl hp0
  simp only [TmR] at hc2
  by_cases hm : mayPredB p = true
  all_goals
    try rw [Bool.not_eq_true] at hm
    go_enter Tryz.func15, Tryz.ntmps15
    go_wp2_with fail
    refine (mayPred_any (d := d) (B := B) (vs := [_, _]) ((PrR d).keep (HB.out _) hB HP.out) (Nat.le_trans hB (HB.out _).size)).mono ?_
    rintro e w1 ⟨rfl, hb1⟩
    have hc1' : w1.cell? ⟨w.heap.size, 1, none⟩ = some (.slice A p.terms.length c) := (hb1.cell (p := ⟨w.heap.size, 1, none⟩) (by simp)).trans (by go_simp)
    have HW := Lib.hid ((HB.out _).trans (hb1.mono (HB.out _).size))
    clear hb1
    go_wp2_with fail
  · refine (fewTerm_any d 51 fixedB 8 p.terms A c B _ (ent Tryz.func51 (by kernel_rfl) rfl) (HL.out.keep HW.out hB) (Nat.le_trans hB HW.out.size) (by omega) (tells_fixed (Nat.le_trans hB HW.out.size))).mono ?_
    rintro e w2 ⟨rfl, hb2⟩
    have hfin := Lib.hid (HW.out.trans (hb2.mono HW.out.size))
    clear hb2
    go_wp2_with fail
    go_ret
    exact ⟨ret_bool (by simp [mayFactB, hm, int_le_8]), hfin.out⟩
  · go_ret
    exact ⟨ret_bool (by simp [mayFactB, hm]), HW.out⟩

def mayScopeB (s : Sc) : Bool := ((decide (s.kind = 1) || decide (s.kind = 2)) && decide (s.key = ByteArray.empty)) || (decide (s.kind = 3) && decide (s.key.size = 32))

set_option maxRecDepth 100000 in
set_option maxHeartbeats 1000000 in
theorem mayScope_any {s : Sc} {vs : List Value} {B : Nat} {w : World} (hp : ScR.rd w B s vs) :
    Calls Tryz.prog 26 #[.agg vs.toArray] w fun e w' => e = .returned (.bool (mayScopeB s)) ∧ Below w.heap.size w w' := by
  obtain ⟨rfl, hk, hs⟩ := hp
  have HB := Lib.hid (fun o : Obj => (Below.refl w.heap.size w).alloc (Nat.le_refl _) o)
  obtain ⟨kind, key⟩ := s
  dsimp only at *
  have hcases : kind = 1 ∨ kind = 2 ∨ kind = 3 ∨ ((kind == 1) = false ∧ (kind == 2) = false ∧ (kind == 3) = false) := by simp only [beq_eq_false_iff_ne]; omega
  rcases hcases with rfl | rfl | rfl | ⟨k1, k2, k3⟩
  all_goals
    go_enter Tryz.func26, Tryz.ntmps26
    go_wp2_with fail
    all_goals go_ret
    all_goals refine ⟨ret_bool ?_, HB.out _⟩
    all_goals
      try simp only [toList_empty, isEmpty_empty, beq_eq_false_iff_ne] at *
      rw [Bool.eq_iff_iff]
      simp [mayScopeB, isEmpty_empty, *]
      try omega
end Go.Proofs.YtfknlghegchbkabGreat
