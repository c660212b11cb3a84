/- Plain laws for the document's own answers on rules: one name more in its place; how many terms are left. No Go text is walked here. -/
import Derived.Test.YtfknlghegchbkabGreatNames
import Derived.Test.YtfknlghegchbkabGreatExpr3
set_option linter.unusedVariables false
set_option linter.unusedSimpArgs false
namespace Go.Proofs.YtfknlghegchbkabGreat
open Go.ChangeShapes Go.WideShapes Go.ChangeAt Go.RowKit

/-- The place of x in a rising list. -/
def withK : List Bytes → Bytes → Nat
  | [], _ => 0
  | y :: L, x => if y < x then withK L x + 1 else 0
def withL (L : List Bytes) (x : Bytes) : List Bytes := if L[withK L x]? = some x then L else L.take (withK L x) ++ [x] ++ L.drop (withK L x)

theorem withK_eq : ∀ {L : List Bytes} {x : Bytes} {k : Nat}, k ≤ L.length → (∀ j (h : j < k) (h' : j < L.length), L[j] < x) → (k = L.length ∨ ∃ h : k < L.length, ¬ L[k] < x) → withK L x = k
  | [], x, k, hk, h1, h2 => by simp at hk; simp [withK, hk]
  | y :: L, x, 0, hk, h1, h2 => by
    rcases h2 with h2 | ⟨h, h2⟩
    · simp at h2
    · simp only [List.getElem_cons_zero] at h2
      rw [withK, if_neg h2]
  | y :: L, x, k + 1, hk, h1, h2 => by
    have h0 := h1 0 (by omega) (by simp)
    simp only [List.getElem_cons_zero] at h0
    rw [withK, if_pos h0, withK_eq (L := L) (x := x) (k := k)]
    · simpa using hk
    · intro j h h'
      have := h1 (j + 1) (by omega) (by simpa using h')
      simpa using this
    · rcases h2 with h2 | ⟨h, h2⟩
      · exact .inl (by simpa using h2)
      · exact .inr ⟨by simpa using h, by simpa using h2⟩
theorem withK_le : ∀ (L : List Bytes) (x : Bytes), withK L x ≤ L.length
  | [], x => Nat.le_refl _
  | y :: L, x => by
    unfold withK
    split
    · have := withK_le L x
      simp; omega
    · simp
theorem withK_lt : ∀ (L : List Bytes) (x y : Bytes), y ∈ L.take (withK L x) → y < x
  | [], x, y, h => by simp [withK] at h
  | z :: L, x, y, h => by
    unfold withK at h
    split at h
    · rename_i hz
      rw [List.take_succ_cons, List.mem_cons] at h
      rcases h with rfl | h
      · exact hz
      · exact withK_lt L x y h
    · simp at h
theorem withK_ge : ∀ (L : List Bytes) (x : Bytes), L.Pairwise (· < ·) → ∀ y ∈ L.drop (withK L x), ¬ y < x
  | [], x, _, y, h => by simp at h
  | z :: L, x, hp, y, h => by
    rw [List.pairwise_cons] at hp
    unfold withK at h
    split at h
    · rw [List.drop_succ_cons] at h
      exact withK_ge L x hp.2 y h
    · rename_i hz
      rw [List.drop_zero, List.mem_cons] at h
      rcases h with rfl | h
      · exact hz
      · intro hy
        exact hz (List.lt_trans (hp.1 y h) hy)

theorem mem_withL (L : List Bytes) (x y : Bytes) : y ∈ withL L x ↔ y ∈ L ∨ y = x := by
  unfold withL
  split
  · rename_i h
    have hx : x ∈ L := List.mem_of_getElem? h
    constructor
    · exact .inl
    · rintro (h | rfl)
      · exact h
      · exact hx
  · rw [List.append_assoc, List.mem_append, List.mem_append, List.mem_singleton]
    constructor
    · rintro (h | h | h)
      · exact .inl (List.mem_of_mem_take h)
      · exact .inr h
      · exact .inl (List.mem_of_mem_drop h)
    · rintro (h | h)
      · rw [← List.take_append_drop (withK L x) L, List.mem_append] at h
        rcases h with h | h
        · exact .inl h
        · exact .inr (.inr h)
      · exact .inr (.inl h)
theorem withL_rising {L : List Bytes} (x : Bytes) (h : L.Pairwise (· < ·)) : (withL L x).Pairwise (· < ·) := by
  unfold withL
  split
  · exact h
  · rename_i hn
    have hpd := h
    rw [← List.take_append_drop (withK L x) L, List.pairwise_append] at hpd
    obtain ⟨p1, p2, p3⟩ := hpd
    have hgt : ∀ y ∈ L.drop (withK L x), x < y := by
      intro y hy
      have h1 := withK_ge L x h y hy
      rcases List.le_iff_lt_or_eq.1 (List.not_lt.1 h1) with h2 | h2
      · exact h2
      · exfalso
        subst h2
        obtain ⟨i, hi, hiy⟩ := List.getElem_of_mem hy
        rw [List.getElem_drop] at hiy
        rw [List.length_drop] at hi
        rcases Nat.eq_zero_or_pos i with h0 | h0
        · subst h0
          apply hn
          rw [List.getElem?_eq_getElem (by omega)]
          simpa using hiy
        · have h3 := withK_ge L x h (L[withK L x]) (List.mem_iff_getElem.2 ⟨0, by rw [List.length_drop]; omega, by simp⟩)
          have h4 := List.pairwise_iff_getElem.1 h (withK L x) (withK L x + i) (by omega) (by omega) (by omega)
          rw [hiy] at h4
          exact h3 h4
    rw [List.append_assoc, List.pairwise_append]
    refine ⟨p1, ?_, ?_⟩
    · rw [List.singleton_append, List.pairwise_cons]
      exact ⟨hgt, p2⟩
    · intro a ha b hb
      rw [List.singleton_append, List.mem_cons] at hb
      rcases hb with rfl | hb
      · exact withK_lt L b a ha
      · exact p3 a ha b hb
theorem withL_uniq (V : List Bytes) (x : Bytes) : withL (uniqL V) x = uniqL (V ++ [x]) :=
  rising_ext (withL_rising x (uniqL_rising V)) (uniqL_rising _) (fun y => by rw [mem_withL, mem_uniqL, mem_uniqL, List.mem_append, List.mem_singleton])
theorem withL_len (L : List Bytes) (x : Bytes) : (withL L x).length = if L[withK L x]? = some x then L.length else L.length + 1 := by
  unfold withL
  split
  · rfl
  · have := withK_le L x
    simp
    omega
theorem withL_same {L : List Bytes} (x : Bytes) (h : L.Pairwise (· < ·)) : decide ((withL L x).length = L.length) = decide (x ∈ L) := by
  rw [withL_len]
  by_cases hx : L[withK L x]? = some x
  · rw [if_pos hx, decide_eq_true rfl, eq_comm, decide_eq_true_eq]
    exact List.mem_of_getElem? hx
  · rw [if_neg hx, decide_eq_false (by omega), eq_comm, decide_eq_false_iff_not]
    intro hm
    apply hx
    rw [← List.take_append_drop (withK L x) L, List.mem_append] at hm
    rcases hm with hm | hm
    · exact absurd (withK_lt L x x hm) (List.lt_irrefl _)
    · obtain ⟨i, hi, hix⟩ := List.getElem_of_mem hm
      rw [List.getElem_drop] at hix
      rw [List.length_drop] at hi
      rcases Nat.eq_zero_or_pos i with h0 | h0
      · subst h0
        rw [List.getElem?_eq_getElem (by omega)]
        simpa using hix
      · exfalso
        have h3 := withK_ge L x h (L[withK L x]) (List.mem_iff_getElem.2 ⟨0, by rw [List.length_drop]; omega, by simp⟩)
        have h4 := List.pairwise_iff_getElem.1 h (withK L x) (withK L x + i) (by omega) (by omega) (by omega)
        rw [hix] at h4
        exact h3 h4

/-- How many terms operations leave, on top of t; -1: they may not be. -/
def depthF : Nat → Int → List OpD → Int
  | 0, _, _ => -1
  | _ + 1, t, [] => t
  | n + 1, t, o :: r =>
    if (aloneB o && decide (needsB o ≤ t)) = true then
      (if lazyB o then (if (decide (o.skip ≤ r.length) && decide (depthF n 0 (r.take o.skip.toNat) = 1)) = true then depthF n (t + (1 - needsB o)) (r.drop o.skip.toNat) else -1)
       else depthF n (t + (1 - needsB o)) r)
    else -1
theorem depthF_eq : ∀ (n m : Nat) (t : Int) (l : List OpD), l.length < n → l.length < m → depthF n t l = depthF m t l
  | 0, _, _, _, h, _ => absurd h (by omega)
  | _, 0, _, _, _, h => absurd h (by omega)
  | n + 1, m + 1, t, [], _, _ => rfl
  | n + 1, m + 1, t, o :: r, h, k => by
    simp only [List.length_cons] at h k
    have e1 := depthF_eq n m 0 (r.take o.skip.toNat) (by rw [List.length_take]; omega) (by rw [List.length_take]; omega)
    have e2 := depthF_eq n m (t + (1 - needsB o)) (r.drop o.skip.toNat) (by rw [List.length_drop]; omega) (by rw [List.length_drop]; omega)
    have e3 := depthF_eq n m (t + (1 - needsB o)) r (by omega) (by omega)
    simp only [depthF, e1, e2, e3]
def depthG (t : Int) (l : List OpD) : Int := depthF (l.length + 1) t l
theorem depthG_nil (t : Int) : depthG t [] = t := rfl
theorem depthG_cons (t : Int) (o : OpD) (r : List OpD) : depthG t (o :: r) = if (aloneB o && decide (needsB o ≤ t)) = true then
      (if lazyB o then (if (decide (o.skip ≤ r.length) && decide (depthG 0 (r.take o.skip.toNat) = 1)) = true then depthG (t + (1 - needsB o)) (r.drop o.skip.toNat) else -1)
       else depthG (t + (1 - needsB o)) r)
    else -1 := by
  unfold depthG
  rw [List.length_cons, depthF]
  rw [depthF_eq (r.length + 1) ((r.take o.skip.toNat).length + 1) 0 (r.take o.skip.toNat) (by rw [List.length_take]; omega) (by omega)]
  rw [depthF_eq (r.length + 1) ((r.drop o.skip.toNat).length + 1) _ (r.drop o.skip.toNat) (by rw [List.length_drop]; omega) (by omega)]
theorem depth_whole : ∀ (n : Nat) (t : Int) (l : List OpD), decide (depthF n t l = 1) = wholeF n t l
  | 0, t, l => rfl
  | n + 1, t, [] => rfl
  | n + 1, t, o :: r => by
    have e1 := depth_whole n 0 (r.take o.skip.toNat)
    have e2 := depth_whole n (t + (1 - needsB o)) (r.drop o.skip.toNat)
    have e3 := depth_whole n (t + (1 - needsB o)) r
    rw [depthF, wholeF, ← e1, ← e2, ← e3]
    cases aloneB o && decide (needsB o ≤ t)
    · simp
    · cases lazyB o
      · simp
      · cases decide (o.skip ≤ r.length) && decide (depthF n 0 (r.take o.skip.toNat) = 1) <;> simp
theorem depthG_whole (l : List OpD) : decide (depthG 0 l = 1) = wholeG 0 l := depth_whole _ _ _
end Go.Proofs.YtfknlghegchbkabGreat
