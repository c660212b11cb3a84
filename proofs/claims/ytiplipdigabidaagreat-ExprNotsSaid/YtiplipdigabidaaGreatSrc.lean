/- Parts of a slice of one's own as what is appended; the insertion, place by place. -/
import Derived.Test.YtiplipdigabidaaGreatOwn
import Derived.Test.YtiplipdigabidaaGreatHeapLaw
set_option linter.unusedVariables false
set_option linter.unusedSimpArgs false
namespace Go.Proofs.YtiplipdigabidaaGreat
open Go.ChangeShapes Go.WideShapes Go.ChangeAt Go.RowKit

section
variable {α : Type} {R : Reader α} {e : TypeId} {w : World} {base B : Nat} {v : Value} {xs : List α} {A : Option Addr} {c : Nat}
theorem addr_add (b off j : Nat) : (⟨b, off, none⟩ : Addr).add j = ⟨b, off + j, none⟩ := by
  unfold Addr.add
  split
  · rename_i h; subst h; rfl
  · rfl
theorem OwnR.src (h : OwnR R e w base B (.slice A xs.length c) xs) : SrcR R w B A xs := by
  obtain ⟨cells, h, hf⟩ := h
  rcases h.2 with ⟨h1, h2⟩ | ⟨g, cap, cur, hv, hg, hh, k1, k2, k3, k4⟩
  · have : xs = [] := List.eq_nil_of_length_eq_zero h2
    subst this
    refine ⟨[], Flat.nil, fun _ => rfl, fun a _ j u hu => by simp at hu⟩
  · simp only [Value.slice.injEq] at hv
    obtain ⟨rfl, _, rfl⟩ := hv
    refine ⟨cells, hf, fun e => (by cases e), fun a ha j u hu => ?_⟩
    simp only [Option.some.injEq] at ha
    subst ha
    rw [← k4, List.getElem?_take] at hu
    split at hu
    · rw [addr_add]
      show w.cell? ⟨g, 0 + j, none⟩ = _
      rw [cell_of_row w g _ cur e (0, 0) hh, Nat.zero_add]
      simpa using hu
    · cases hu
theorem Flat.take {news : List Value} (h : Flat R w B xs news) (k : Nat) : Flat R w B (xs.take k) (news.take (k * R.k)) := by
  refine ⟨?_, fun i hi => ?_⟩
  · rw [List.length_take, List.length_take, h.1]
    rcases Nat.le_total k xs.length with hk | hk
    · rw [Nat.min_eq_left hk, Nat.min_eq_left (Nat.mul_le_mul_right _ hk)]
    · rw [Nat.min_eq_right hk, Nat.min_eq_right (Nat.mul_le_mul_right _ hk)]
  · rw [List.length_take] at hi
    have hik : i < k := by omega
    have h1 : (i + 1) * R.k ≤ k * R.k := Nat.mul_le_mul_right _ hik
    rw [Nat.add_mul, Nat.one_mul] at h1
    have := h.2 i (by omega)
    rw [List.getElem_take, List.drop_take, List.take_take, Nat.min_eq_left (by omega)]
    exact this
theorem Flat.drop {news : List Value} (h : Flat R w B xs news) (k : Nat) : Flat R w B (xs.drop k) (news.drop (k * R.k)) := by
  refine ⟨?_, fun i hi => ?_⟩
  · rw [List.length_drop, List.length_drop, h.1, Nat.sub_mul]
  · rw [List.length_drop] at hi
    have := h.2 (k + i) (by omega)
    rw [List.getElem_drop, List.drop_drop]
    rw [show k * R.k + i * R.k = (k + i) * R.k by rw [Nat.add_mul]]
    exact this
theorem SrcR.take (h : SrcR R w B A xs) (k : Nat) : SrcR R w B A (xs.take k) := by
  obtain ⟨cells, hf, h1, h2⟩ := h
  refine ⟨_, hf.take k, fun e => (by rw [h1 e]; simp), fun a ha j u hu => ?_⟩
  rw [List.getElem?_take] at hu
  split at hu
  · exact h2 a ha j u hu
  · cases hu
theorem SrcR.drop {b off : Nat} (h : SrcR R w B (some ⟨b, off, none⟩) xs) (k : Nat) : SrcR R w B (some ⟨b, off + k * R.k, none⟩) (xs.drop k) := by
  obtain ⟨cells, hf, h1, h2⟩ := h
  refine ⟨_, hf.drop k, fun e => (by cases e), fun a ha j u hu => ?_⟩
  rw [List.getElem?_drop] at hu
  simp only [Option.some.injEq] at ha
  subst ha
  have := h2 _ rfl _ _ hu
  rw [addr_add] at this ⊢
  rw [Nat.add_assoc]; exact this
theorem SrcR.none {A : Option Addr} {ys : List α} (h : ys = []) : SrcR R w B A ys := by
  subst h; exact ⟨[], Flat.nil, fun _ => rfl, fun a _ j u hu => by simp at hu⟩
end
theorem ne_none {k n c : Nat} : some k ≠ (Value.slice none n c).ownBlock := fun e => by cases e

section
variable {α : Type} {c : α → α → Int} {t : α}
theorem insL_at : ∀ {xs : List α} {k : Nat}, k ≤ xs.length → (∀ j (h : j < k) (h' : j < xs.length), c xs[j] t < 0) → insL c t xs = xs.take k ++ insL c t (xs.drop k)
  | _, 0, _, _ => by simp
  | [], k + 1, h, _ => by simp at h
  | x :: xs, k + 1, h, hj => by
    have h0 : c x t < 0 := hj 0 (by omega) (by simp)
    rw [insL, if_pos h0, List.take_succ_cons, List.drop_succ_cons, List.cons_append]
    rw [insL_at (xs := xs) (k := k) (by simpa using h) (fun j h1 h2 => hj (j + 1) (by omega) (by simpa using h2))]
theorem insL_end {xs : List α} {k : Nat} (hk : xs.length ≤ k) (hj : ∀ j (h : j < k) (h' : j < xs.length), c xs[j] t < 0) : insL c t xs = xs ++ [t] := by
  have := insL_at (c := c) (t := t) (xs := xs) (k := xs.length) (Nat.le_refl _) (fun j h h' => hj j (by omega) h')
  rw [this, List.take_length, List.drop_length]; rfl
theorem insL_same {xs : List α} {k : Nat} {y : α} (hy : xs[k]? = some y) (hj : ∀ j (h : j < k) (h' : j < xs.length), c xs[j] t < 0) (h0 : c y t = 0) : insL c t xs = xs := by
  obtain ⟨hk, e⟩ := List.getElem?_eq_some_iff.1 hy
  rw [insL_at (k := k) (by omega) hj, List.drop_eq_getElem_cons hk, e, insL, if_neg (by omega), if_pos h0, ← e, ← List.drop_eq_getElem_cons hk, List.take_append_drop]
theorem insL_new {xs : List α} {k : Nat} {y : α} (hy : xs[k]? = some y) (hj : ∀ j (h : j < k) (h' : j < xs.length), c xs[j] t < 0) (h0 : ¬ c y t < 0) (h1 : c y t ≠ 0) : insL c t xs = xs.take k ++ [t] ++ xs.drop k := by
  obtain ⟨hk, e⟩ := List.getElem?_eq_some_iff.1 hy
  rw [insL_at (k := k) (by omega) hj, List.drop_eq_getElem_cons hk, e, insL, if_neg h0, if_neg h1]
  simp
theorem insL_end' {xs : List α} {k : Nat} (hk : k = xs.length) (hj : ∀ j (h : j < k) (h' : j < xs.length), c xs[j] t < 0) : insL c t xs = xs.take k ++ [t] ++ xs.drop k := by
  subst hk
  rw [insL_end (Nat.le_refl _) hj]; simp
theorem insL_le {xs : List α} : (insL c t xs).length ≤ xs.length + 1 := by
  induction xs with
  | nil => simp [insL]
  | cons x xs ih => unfold insL; split <;> (try split) <;> simp <;> omega
end
end Go.Proofs.YtiplipdigabidaaGreat
