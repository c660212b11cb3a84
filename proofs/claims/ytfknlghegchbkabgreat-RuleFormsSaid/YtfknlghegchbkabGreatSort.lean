/- Sorting and compacting a slice of strings of the call's own; looking for a string in a sorted slice. -/
import Derived.Test.YtfknlghegchbkabGreatRule1
import Derived.Test.YtfknlghegchbkabGreatShelf
import Derived.Lib.OwnBridge
set_option linter.unusedVariables false
set_option linter.unusedSimpArgs false
namespace Go.Proofs.YtfknlghegchbkabGreat
open Go.ChangeShapes Go.WideShapes Go.ChangeAt Go.RowKit

theorem encStr_bs (s : ByteArray) : encStr (bs s) = .string s := by simp [encStr]
def mkS (l : List UInt8) : ByteArray := ⟨l.toArray⟩
theorem bs_mkS (l : List UInt8) : bs (mkS l) = l := by simp [mkS, bs]
theorem mkS_bs (s : ByteArray) : mkS (bs s) = s := by cases s; simp [mkS, bs]
theorem encStr_mkS (l : List UInt8) : encStr l = .string (mkS l) := rfl

/-- A slice of strings of the call's own, from block 'base' on. -/
def OwnS (w : World) (base : Nat) (v : Value) (L : List (List UInt8)) : Prop := w.ownsRow base 9 1 v L.length (L.map encStr)

theorem ownsRow_grow {w : World} {base : Nat} {e : TypeId} {size n : Nat} {v : Value} {xs : List Value} (h : w.ownsRow base e size v n xs) (os : Array Obj) : (Sort.grow w os).ownsRow base e size v n xs := by
  refine ⟨h.1, ?_⟩
  rcases h.2 with h2 | ⟨g, cap, cur, hv, hg, hh, r⟩
  · exact .inl h2
  · refine .inr ⟨g, cap, cur, hv, hg, ?_, r⟩
    have hlt : g < w.heap.size := by
      rcases Nat.lt_or_ge g w.heap.size with h' | h'
      · exact h'
      · rw [Array.getElem?_eq_none h'] at hh; cases hh
    show (w.heap ++ os)[g]? = _
    rw [Array.getElem?_append_left hlt]
    exact hh

theorem below_grow {B : Nat} {w w' : World} (h : Below B w w') (hB : B ≤ w'.heap.size) (os : Array Obj) : Below B w (Sort.grow w' os) :=
  ⟨h.os, h.tape, h.output, by have := h.size; simp [Sort.grow]; omega, fun k hk => by
    rw [← h.block k hk]
    show (w'.heap ++ os)[k]? = _
    rw [Array.getElem?_append_left (by omega)]⟩

def sortL (L : List (List UInt8)) : List (List UInt8) := L.mergeSort fun x y => decide (x ≤ y)

theorem sortL_length (L : List (List UInt8)) : (sortL L).length = L.length := List.length_mergeSort _

theorem sortS_any (w : World) (base : Nat) (v : Value) (L : List (List UInt8)) (h : OwnS w base v L) (hb : base ≤ w.heap.size) (hn : L.length ≤ 1000000000) :
    Calls Tryz.prog 55 #[v] w fun e w' => e = .returned (.tuple #[]) ∧ OwnS w' base v (sortL L) ∧ Below base w w' := by
  by_cases hv : v = .slice none 0 0
  · subst hv
    have hL : L = [] := by
      rcases h.2 with ⟨_, h2⟩ | ⟨g, cap, cur, hv, _⟩
      · exact List.eq_nil_of_length_eq_zero h2
      · cases hv
    subst hL
    refine (Tryz.slices_Sort_string_none none 0 w).mono fun e w' ⟨he, hw⟩ => ?_
    subst hw
    exact ⟨he, by simpa [sortL, OwnS] using h, Below.refl _ _⟩
  · obtain ⟨g, cap, rfl, hbg, hg, hnc, hm, hl, hH⟩ := Lib.holds_of_ownsRow h hv
    refine (Tryz.slices_Sort_string g 0 cap L w hH hg (by omega)).mono fun e w' ⟨he, n, os, hw⟩ => ?_
    subst hw
    refine ⟨he, ?_, below_grow (Lib.below_putRow (Below.refl _ _) hbg) (by simp [Sort.ahead]; omega) os⟩
    have h1 := Lib.ownsRow_putRow (q := n) (k := L.length) (ys := sortL L) h (sortL_length L) (Nat.le_refl _)
    have h2 := ownsRow_grow h1 os
    unfold OwnS
    rw [sortL_length]
    rw [List.take_of_length_le (by rw [sortL_length]; exact Nat.le_refl _)] at h2
    exact h2

theorem compactS_any (w : World) (base : Nat) (v : Value) (L : List (List UInt8)) (h : OwnS w base v L) (hn : L.length ≤ 1000000000) :
    Calls Tryz.prog 56 #[v] w fun e w' => ∃ v', e = .returned v' ∧ OwnS w' base v' (Lib.compact L) ∧ Below base w w' := by
  by_cases hv : v = .slice none 0 0
  · subst hv
    have hL : L = [] := by
      rcases h.2 with ⟨_, h2⟩ | ⟨g, cap, cur, hv, _⟩
      · exact List.eq_nil_of_length_eq_zero h2
      · cases hv
    subst hL
    refine (Tryz.slices_Compact_string_empty none 0 w).mono fun e w' ⟨he, hw⟩ => ?_
    subst hw
    exact ⟨_, he, by simpa [Lib.compact, Lib.compactUpTo, OwnS] using h, Below.refl _ _⟩
  · obtain ⟨g, cap, rfl, hbg, hg, hnc, hm, hl, hH⟩ := Lib.holds_of_ownsRow h hv
    refine (Tryz.slices_Compact_string g 0 cap L w hH (by omega) hnc).mono fun e w' ⟨he, q, hw⟩ => ?_
    subst hw
    have hc := Lib.compact_length_le L
    refine ⟨_, he, ?_, Lib.below_putRow (Below.refl _ _) hbg⟩
    have h1 := Lib.ownsRow_putRow (q := q) (k := (Lib.compact L).length) (ys := Lib.compact L ++ List.replicate (L.length - (Lib.compact L).length) []) h (by simp; omega) hc
    rw [List.take_left'] at h1
    · exact h1
    · rfl
end Go.Proofs.YtfknlghegchbkabGreat
