/- Sorting and compacting a slice of strings of the call's own; looking for a string in a sorted slice. -/
import Derived.Test.YtiplipdigabidaaGreatFnRule
import Derived.Test.YtiplipdigabidaaGreatShelf
import Derived.Lib.OwnBridge

set_option linter.unusedVariables false
set_option linter.unusedSimpArgs false
namespace Go.Proofs.YtiplipdigabidaaGreat
open Go.ChangeShapes Go.WideShapes Go.ChangeAt Go.RowKit

theorem encStr_bs (s : ByteArray) : encStr (bs s) = .string s := by simp [encStr]
def mkS (l : List UInt8) : ByteArray := ⟨l.toArray⟩
theorem bs_mkS (l : List UInt8) : bs (mkS l) = l := by simp [mkS, bs]
theorem mkS_bs (s : ByteArray) : mkS (bs s) = s := by cases s; simp [mkS, bs]
theorem encStr_mkS (l : List UInt8) : encStr l = .string (mkS l) := rfl

/-- A slice of strings of the call's own, from block 'base' on. -/
def OwnS (w : World) (base : Nat) (v : Value) (L : List (List UInt8)) : Prop := w.ownsRow base 9 1 v L.length (L.map encStr)

theorem ownsRow_grow {w : World} {base : Nat} {e : TypeId} {size n : Nat} {v : Value} {xs : List Value} (h : w.ownsRow base e size v n xs) (os : Array Obj) : (Sort.grow w os).ownsRow base e size v n xs := by
  refine ⟨h.1, ?_⟩
  rcases h.2 with h2 | ⟨g, cap, cur, hv, hg, hh, r⟩
  · exact .inl h2
  · refine .inr ⟨g, cap, cur, hv, hg, ?_, r⟩
    have hlt : g < w.heap.size := by
      rcases Nat.lt_or_ge g w.heap.size with h' | h'
      · exact h'
      · rw [Array.getElem?_eq_none h'] at hh; cases hh
    show (w.heap ++ os)[g]? = _
    rw [Array.getElem?_append_left hlt]
    exact hh

theorem below_grow {B : Nat} {w w' : World} (h : Below B w w') (hB : B ≤ w'.heap.size) (os : Array Obj) : Below B w (Sort.grow w' os) :=
  ⟨h.os, h.tape, h.output, by have := h.size; simp [Sort.grow]; omega, fun k hk => by
    rw [← h.block k hk]
    show (w'.heap ++ os)[k]? = _
    rw [Array.getElem?_append_left (by omega)]⟩

def sortL (L : List (List UInt8)) : List (List UInt8) := L.mergeSort fun x y => decide (x ≤ y)

theorem sortL_length (L : List (List UInt8)) : (sortL L).length = L.length := List.length_mergeSort _

theorem sortS_any (w : World) (base : Nat) (v : Value) (L : List (List UInt8)) (h : OwnS w base v L) (hb : base ≤ w.heap.size) (hn : L.length ≤ 1000000000) :
    Calls Tryz.prog 49 #[v] w fun e w' => e = .returned (.tuple #[]) ∧ OwnS w' base v (sortL L) ∧ Below base w w' := by
  by_cases hv : v = .slice none 0 0
  · subst hv
    have hL : L = [] := by
      rcases h.2 with ⟨_, h2⟩ | ⟨g, cap, cur, hv, _⟩
      · exact List.eq_nil_of_length_eq_zero h2
      · cases hv
    subst hL
    refine (Tryz.slices_Sort_string_none none 0 w).mono fun e w' ⟨he, hw⟩ => ?_
    subst hw
    exact ⟨he, by simpa [sortL, OwnS] using h, Below.refl _ _⟩
  · obtain ⟨g, cap, rfl, hbg, hg, hnc, hm, hl, hH⟩ := Lib.holds_of_ownsRow h hv
    refine (Tryz.slices_Sort_string g 0 cap L w hH hg (by omega)).mono fun e w' ⟨he, n, os, hw⟩ => ?_
    subst hw
    refine ⟨he, ?_, below_grow (Lib.below_putRow (Below.refl _ _) hbg) (by simp [Sort.ahead]; omega) os⟩
    have h1 := Lib.ownsRow_putRow (q := n) (k := L.length) (ys := sortL L) h (sortL_length L) (Nat.le_refl _)
    have h2 := ownsRow_grow h1 os
    unfold OwnS
    rw [sortL_length]
    rw [List.take_of_length_le (by rw [sortL_length]; exact Nat.le_refl _)] at h2
    exact h2

theorem compactS_any (w : World) (base : Nat) (v : Value) (L : List (List UInt8)) (h : OwnS w base v L) (hn : L.length ≤ 1000000000) :
    Calls Tryz.prog 50 #[v] w fun e w' => ∃ v', e = .returned v' ∧ OwnS w' base v' (Lib.compact L) ∧ Below base w w' := by
  by_cases hv : v = .slice none 0 0
  · subst hv
    have hL : L = [] := by
      rcases h.2 with ⟨_, h2⟩ | ⟨g, cap, cur, hv, _⟩
      · exact List.eq_nil_of_length_eq_zero h2
      · cases hv
    subst hL
    refine (Tryz.slices_Compact_string_empty none 0 w).mono fun e w' ⟨he, hw⟩ => ?_
    subst hw
    exact ⟨_, he, by simpa [Lib.compact, Lib.compactUpTo, OwnS] using h, Below.refl _ _⟩
  · obtain ⟨g, cap, rfl, hbg, hg, hnc, hm, hl, hH⟩ := Lib.holds_of_ownsRow h hv
    refine (Tryz.slices_Compact_string g 0 cap L w hH (by omega) hnc).mono fun e w' ⟨he, q, hw⟩ => ?_
    subst hw
    have hc := Lib.compact_length_le L
    refine ⟨_, he, ?_, Lib.below_putRow (Below.refl _ _) hbg⟩
    have h1 := Lib.ownsRow_putRow (q := q) (k := (Lib.compact L).length) (ys := Lib.compact L ++ List.replicate (L.length - (Lib.compact L).length) []) h (by simp; omega) hc
    rw [List.take_left'] at h1
    · exact h1
    · rfl
end Go.Proofs.YtiplipdigabidaaGreat

/- Plain facts: a sorted list without doubles. -/
set_option linter.unusedVariables false
set_option linter.unusedSimpArgs false
namespace Go.Proofs.YtiplipdigabidaaGreat

abbrev Bytes := List UInt8

theorem le_total' (x y : Bytes) : x ≤ y ∨ y ≤ x := List.le_total x y
theorem le_trans' {x y z : Bytes} (h : x ≤ y) (k : y ≤ z) : x ≤ z := List.le_trans h k
theorem lt_of_le_ne {x y : Bytes} (h : x ≤ y) (k : x ≠ y) : x < y := by
  rcases List.le_iff_lt_or_eq.1 h with h | h
  · exact h
  · exact absurd h k
theorem lt_of_le_lt {x y z : Bytes} (h : x ≤ y) (k : y < z) : x < z := List.lt_of_le_of_lt h k

theorem sortL_sorted (L : List Bytes) : (sortL L).Pairwise (· ≤ ·) := by
  have := List.pairwise_mergeSort (le := fun x y : Bytes => decide (x ≤ y)) (fun a b c h k => by simp at *; exact le_trans' h k) (fun a b => by simpa using le_total' a b) L
  exact this.imp (by simp)

theorem mem_sortL (L : List Bytes) (x : Bytes) : x ∈ sortL L ↔ x ∈ L := List.mem_mergeSort

theorem compactUpTo_spec (zs : List Bytes) (hs : zs.Pairwise (· ≤ ·)) : ∀ m, m ≤ zs.length → (∀ x, x ∈ Lib.compactUpTo zs.toArray m ↔ x ∈ zs.take m) ∧ (Lib.compactUpTo zs.toArray m).Pairwise (· < ·) := by
  intro m
  induction m with
  | zero => intro _; simp [Lib.compactUpTo]
  | succ m ih =>
    intro hm
    obtain ⟨h1, h2⟩ := ih (by omega)
    have hget : zs.toArray[m]! = zs[m] := by simp [show m < zs.length by omega]
    rw [Lib.compactUpTo_succ]
    have htake : zs.take (m + 1) = zs.take m ++ [zs[m]] := by rw [List.take_succ_eq_append_getElem (by omega)]
    have hle : ∀ x, x ∈ zs.take m → x ≤ zs[m] := by
      intro x hx
      obtain ⟨i, hi, rfl⟩ := List.getElem_of_mem hx
      simp only [List.length_take] at hi
      rw [List.getElem_take]
      exact List.pairwise_iff_getElem.1 hs i m _ _ (by omega)
    by_cases hk : Lib.keeps zs.toArray m = true
    · rw [if_pos hk, hget]
      refine ⟨fun x => by rw [htake, List.mem_append, List.mem_append, h1], ?_⟩
      rw [List.pairwise_append]
      refine ⟨h2, by simp, fun a ha b hb => ?_⟩
      obtain rfl : b = zs[m] := by simpa using hb
      have ha' := (h1 a).1 ha
      rcases Nat.eq_zero_or_pos m with h0 | h0
      · subst h0; simp at ha'
      · have hprev : zs.toArray[m - 1]! = zs[m - 1]'(by omega) := by simp [show m - 1 < zs.length by omega]
        have hne : zs[m] ≠ zs[m - 1]'(by omega) := by
          intro e
          have := Lib.keeps_neg (d := zs.toArray) h0 (by rw [hget, hprev, e])
          rw [this] at hk; cases hk
        have hle2 : a ≤ zs[m - 1]'(by omega) := by
          obtain ⟨i, hi, rfl⟩ := List.getElem_of_mem ha'
          simp only [List.length_take] at hi
          rw [List.getElem_take]
          rcases Nat.lt_or_ge i (m - 1) with h | h
          · exact List.pairwise_iff_getElem.1 hs i (m - 1) _ _ h
          · obtain rfl : i = m - 1 := by omega
            exact List.le_refl _
        exact lt_of_le_lt hle2 (lt_of_le_ne (hle _ (by rw [List.mem_take_iff_getElem]; exact ⟨m - 1, by omega, rfl⟩)) (Ne.symm hne))
    · rw [if_neg hk, List.append_nil]
      refine ⟨fun x => ?_, h2⟩
      rw [htake, List.mem_append, h1]
      constructor
      · exact .inl
      · rintro (h | h)
        · exact h
        · obtain rfl : x = zs[m] := by simpa using h
          rcases Nat.eq_zero_or_pos m with h0 | h0
          · exact absurd (Lib.keeps_lt_one _ m (by omega)) hk
          · have hprev : zs.toArray[m - 1]! = zs[m - 1]'(by omega) := by simp [show m - 1 < zs.length by omega]
            have he : zs[m] = zs[m - 1]'(by omega) := by
              apply Classical.byContradiction
              intro hne
              exact hk (Lib.keeps_pos (by rw [hget, hprev]; exact hne))
            rw [he, List.mem_take_iff_getElem]
            exact ⟨m - 1, by omega, rfl⟩

def uniqL (L : List Bytes) : List Bytes := Lib.compact (sortL L)

theorem mem_uniqL (L : List Bytes) (x : Bytes) : x ∈ uniqL L ↔ x ∈ L := by
  have := (compactUpTo_spec (sortL L) (sortL_sorted L) (sortL L).length (Nat.le_refl _)).1 x
  rw [List.take_length, mem_sortL] at this
  exact this
theorem uniqL_rising (L : List Bytes) : (uniqL L).Pairwise (· < ·) := (compactUpTo_spec (sortL L) (sortL_sorted L) (sortL L).length (Nat.le_refl _)).2
theorem uniqL_length (L : List Bytes) : (uniqL L).length ≤ L.length := by
  have := Lib.compact_length_le (sortL L)
  rwa [sortL_length] at this

/-- Two rising lists with the same members are the same. -/
theorem rising_ext : ∀ {L M : List Bytes}, L.Pairwise (· < ·) → M.Pairwise (· < ·) → (∀ x, x ∈ L ↔ x ∈ M) → L = M
  | [], [], _, _, _ => rfl
  | [], y :: _, _, _, h => absurd ((h y).2 (by simp)) (by simp)
  | x :: _, [], _, _, h => absurd ((h x).1 (by simp)) (by simp)
  | x :: L, y :: M, hL, hM, h => by
    rw [List.pairwise_cons] at hL hM
    have hxy : x = y := by
      rcases List.mem_cons.1 ((h x).1 (by simp)) with e | e
      · exact e
      · rcases List.mem_cons.1 ((h y).2 (by simp)) with e' | e'
        · exact e'.symm
        · exact absurd (List.lt_trans (hM.1 x e) (hL.1 y e')) (List.lt_irrefl _)
    subst hxy
    refine congrArg _ (rising_ext hL.2 hM.2 fun z => ?_)
    constructor
    · intro hz
      rcases List.mem_cons.1 ((h z).1 (by simp [hz])) with e | e
      · subst e; exact absurd (hL.1 z hz) (List.lt_irrefl _)
      · exact e
    · intro hz
      rcases List.mem_cons.1 ((h z).2 (by simp [hz])) with e | e
      · subst e; exact absurd (hM.1 z hz) (List.lt_irrefl _)
      · exact e
end Go.Proofs.YtiplipdigabidaaGreat

