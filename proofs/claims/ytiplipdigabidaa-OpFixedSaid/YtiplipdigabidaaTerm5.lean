/- term.May, term.Fixed. -/
import Derived.Test.YtiplipdigabidaaTerm4
set_option linter.unusedVariables false
set_option linter.unusedSimpArgs false
namespace Go.Proofs.Ytiplipdigabidaa
open Go.ChangeShapes Go.WideShapes Go.ChangeAt Go.RowKit

theorem size_zero (s : ByteArray) : (s.toList == (⟨#[]⟩ : ByteArray).toList) = decide (s.size = 0) := by
  rw [same_iff, Bool.eq_iff_iff]
  simp only [decide_eq_true_eq, bs]
  rw [Lib.size_eq]
  exact ⟨fun h => by rw [h]; rfl, fun h => List.eq_nil_of_length_eq_zero h⟩

theorem toList_nil (s : ByteArray) : s.toList = [] ↔ s.size = 0 := by
  rw [ByteArray.toList_eq, Lib.size_eq]
  exact ⟨fun h => by rw [h]; rfl, fun h => List.eq_nil_of_length_eq_zero h⟩
theorem int_le_256 (k : Nat) : ((k : Int) ≤ 256) = (k ≤ 256) := by rw [eq_iff_iff]; omega
theorem toList_empty (s : ByteArray) : s.toList = [] ↔ s = ByteArray.empty := by rw [toList_nil]; simp
theorem isEmpty_empty (s : ByteArray) : s.toList.isEmpty = decide (s = ByteArray.empty) := by
  rw [Bool.eq_iff_iff, List.isEmpty_iff, toList_empty]; simp

set_option maxRecDepth 100000 in
set_option maxHeartbeats 1000000 in
theorem may_of (d : Nat) (hR : ∀ (l : List Tm) (A : Option Addr) (c B : Nat) (w : World), RTms w B d l A → B ≤ w.heap.size → l.length * 40 ≤ 140737488351232 →
      Calls Try.prog 46 #[.slice A l.length c] w fun e w' => e = .returned (.bool (risingB l)) ∧ Below w.heap.size w w')
    (t : Tm) (vs : List Value) (B : Nat) (w : World) (ht : RTm w B (d + 1) t vs) (hB : B ≤ w.heap.size) :
    Calls Try.prog 33 #[.agg vs.toArray] w fun e w' => e = .returned (.bool (mayB t)) ∧ Below w.heap.size w w' := by
  have HR := Lib.hid hR
  clear hR
  obtain ⟨A, c, rfl, hc1, hc2, hs, _, _, hl⟩ := ht.cells
  obtain ⟨kind, n, s, l⟩ := t
  dsimp only at hc1 hc2 hs hl
  have hbel : ∀ o : Obj, Below w.heap.size w (w.alloc o) := fun o => (Below.refl _ _).alloc (Nat.le_refl _) _
  have HB := Lib.hid hbel
  have HL := Lib.hid hl
  clear hbel ht hl
  have hcases : kind = 1 ∨ kind = 2 ∨ kind = 3 ∨ kind = 4 ∨ kind = 5 ∨ kind = 6 ∨ kind = 7 ∨ ((kind == 1) = false ∧ (kind == 2) = false ∧ (kind == 3) = false ∧ (kind == 4) = false ∧ (kind == 5) = false ∧ (kind == 6) = false ∧ (kind == 7) = false ∧ (kind != 7) = true) := by
    simp only [beq_eq_false_iff_ne, bne_iff_ne]; omega
  rcases hcases with rfl | rfl | rfl | rfl | rfl | rfl | rfl | ⟨k1, k2, k3, k4, k5, k6, k7, k8⟩
  all_goals
    go_enter Try.func33, Try.ntmps33
    go_wp2_with (first
      | (go_at_call 45; refine (name_any _ _ (by unfold maxLen; omega)).mono ?_; rintro e w' ⟨rfl, rfl⟩)
      | (go_at_call 46; refine (HR.out l A c B _ (HL.out.below (HB.out _) hB) (Nat.le_trans hB (HB.out _).size) (by omega)).mono ?_; rintro e w1 ⟨rfl, hb1⟩))
    all_goals go_ret
    all_goals first
      | refine ⟨ret_bool ?_, HB.out _⟩
      | refine ⟨ret_bool ?_, (HB.out _).trans (hb1.mono (HB.out _).size)⟩
    all_goals
      clear HR HL HB
      try simp only [toList_empty, isEmpty_empty, Nat.not_lt, Nat.le_zero_eq, List.length_pos_iff, ne_eq, Classical.not_not, beq_eq_false_iff_ne] at *
      simp [mayB, flatMay, int_le_256, *]
      try first
        | omega
        | (rw [Bool.eq_iff_iff]; simp; omega)

theorem may_all (d : Nat) : ∀ (t : Tm) (vs : List Value) (B : Nat) (w : World), RTm w B d t vs → B ≤ w.heap.size →
    Calls Try.prog 33 #[.agg vs.toArray] w fun e w' => e = .returned (.bool (mayB t)) ∧ Below w.heap.size w w' := by
  induction d with
  | zero => intro t vs B w h; exact h.elim
  | succ d ih => exact fun t vs B w => may_of d (fun l A c B w h1 h2 h3 => rising_of d (fixed_of d ih) l A c B w h1 h2 h3) t vs B w

theorem may_any {d : Nat} {t : Tm} {vs : List Value} {B : Nat} {w : World} (h : RTm w B d t vs) (hB : B ≤ w.heap.size) :
    Calls Try.prog 33 #[.agg vs.toArray] w fun e w' => e = .returned (.bool (mayB t)) ∧ Below w.heap.size w w' := may_all d t vs B w h hB

theorem fixed_any {d : Nat} {t : Tm} {vs : List Value} {B : Nat} {w : World} (h : RTm w B d t vs) (hB : B ≤ w.heap.size) :
    Calls Try.prog 16 #[.agg vs.toArray] w fun e w' => e = .returned (.bool (fixedB t)) ∧ Below w.heap.size w w' := fixed_of d (may_all d) t vs B w h hB
end Go.Proofs.Ytiplipdigabidaa
