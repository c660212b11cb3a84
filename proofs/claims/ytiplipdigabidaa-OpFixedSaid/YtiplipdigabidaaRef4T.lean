/- The document's own answers (viaticumref6.May, viaticumref11.MayPred), as the program's. -/
import Derived.Test.YtiplipdigabidaaRef3
set_option linter.unusedVariables false
set_option linter.unusedSimpArgs false
namespace Go.Proofs.Ytiplipdigabidaa
open Go.ChangeShapes Go.WideShapes Go.ChangeAt Go.RowKit

theorem len_zero {α : Type} (l : List α) : ((l.length : Int) == 0) = decide (l = []) := by
  cases l with
  | nil => simp
  | cons a l => simp; omega

set_option maxRecDepth 100000 in
set_option maxHeartbeats 2000000 in
theorem refMay_of (d : Nat) (hR : ∀ (t : Tm) (vs : List Value) (B : Nat) (w : World), RTm w B (d + 1) t vs → B ≤ w.heap.size →
      Calls Try.prog 43 #[.agg vs.toArray] w fun e w' => e = .returned (.bool (setB t)) ∧ Below w.heap.size w w')
    (t : Tm) (vs : List Value) (B : Nat) (w : World) (ht : RTm w B (d + 1) t vs) (hB : B ≤ w.heap.size) :
    Calls Try.prog 29 #[.agg vs.toArray] w fun e w' => e = .returned (.bool (mayB t)) ∧ Below w.heap.size w w' := by
  have HR := Lib.hid hR
  clear hR
  have HT := Lib.hid ht
  obtain ⟨A, c, rfl, hc1, hc2, hs, _, _, hl⟩ := ht.cells
  obtain ⟨kind, n, s, l⟩ := t
  dsimp only at hc1 hc2 hs hl
  have hbel : ∀ o : Obj, Below w.heap.size w (w.alloc o) := fun o => (Below.refl _ _).alloc (Nat.le_refl _) _
  have HB := Lib.hid hbel
  clear hbel ht hl
  by_cases hk1 : kind = 1
  · subst hk1
    by_cases hn : nameB (bs s) = true
    all_goals
      try rw [Bool.not_eq_true] at hn
      go_enter Try.func29, Try.ntmps29
      go_wp2_with fail
      refine (refName_any s _ (by unfold maxLen; omega)).mono ?_
      rintro e w' ⟨rfl, rfl⟩
      have HN := Lib.hid hn
      rw [hn]
      go_wp2_with fail
      all_goals
        go_ret
        refine ⟨ret_bool ?_, HB.out _⟩
        clear HR HB HT
        simp [mayB, flatMay, HN.out, *]
        try first
          | omega
          | exact len_zero _
  have hcases : kind = 2 ∨ kind = 3 ∨ kind = 4 ∨ kind = 5 ∨ kind = 6 ∨ kind = 7 ∨ ((kind == 1) = false ∧ (kind == 2) = false ∧ (kind == 3) = false ∧ (kind == 4) = false ∧ (kind == 5) = false ∧ (kind == 6) = false ∧ (kind == 7) = false ∧ (kind != 7) = true) := by
    simp only [beq_eq_false_iff_ne, bne_iff_ne]; omega
  clear hk1
  rcases hcases with rfl | rfl | rfl | rfl | rfl | rfl | ⟨k1, k2, k3, k4, k5, k6, k7, k8⟩
  all_goals
    go_enter Try.func29, Try.ntmps29
    go_wp2_with (go_at_call 43; refine (HR.out ⟨_, _, _, _⟩ [_, _, _, _] B _ (HT.out.below (HB.out _) hB) (Nat.le_trans hB (HB.out _).size)).mono ?_; rintro e w1 ⟨rfl, hb1⟩)
    all_goals go_ret
    all_goals first
      | refine ⟨ret_bool ?_, HB.out _⟩
      | refine ⟨ret_bool ?_, (HB.out _).trans (hb1.mono (HB.out _).size)⟩
    all_goals
      clear HR HB HT
      try simp only [toList_empty, isEmpty_empty, Nat.not_lt, Nat.le_zero_eq, List.length_pos_iff, ne_eq, Classical.not_not, beq_eq_false_iff_ne] at *
      simp [mayB, setB, flatMay, int_le_256, *]
      try first
        | omega
        | exact len_zero _
        | (rw [Bool.eq_iff_iff]; simp; omega)

theorem refMay_all (d : Nat) : ∀ (t : Tm) (vs : List Value) (B : Nat) (w : World), RTm w B d t vs → B ≤ w.heap.size →
    Calls Try.prog 29 #[.agg vs.toArray] w fun e w' => e = .returned (.bool (mayB t)) ∧ Below w.heap.size w w' := by
  induction d with
  | zero => intro t vs B w h; exact h.elim
  | succ d ih => exact refMay_of d (maySet_of d ih)

theorem refMay_any {d : Nat} {t : Tm} {vs : List Value} {B : Nat} {w : World} (h : RTm w B d t vs) (hB : B ≤ w.heap.size) :
    Calls Try.prog 29 #[.agg vs.toArray] w fun e w' => e = .returned (.bool (mayB t)) ∧ Below w.heap.size w w' := refMay_all d t vs B w h hB
end Go.Proofs.Ytiplipdigabidaa
