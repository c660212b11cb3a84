/- What a call writes: new memory, and one old block. -/
import Derived.Test.YtiplipdigabidaaGreatOwn
set_option linter.unusedVariables false
set_option linter.unusedSimpArgs false
namespace Go.Proofs.YtiplipdigabidaaGreat
open Go.ChangeShapes Go.WideShapes Go.ChangeAt Go.RowKit

/-- From w to w' nothing old was written but block g. -/
def Exc (g : Nat) (w w' : World) : Prop := Below g w w' ∧ ∀ b, b < w.heap.size → b ≠ g → w'.heap[b]? = w.heap[b]?
section
variable {g : Nat} {a b c : World}
theorem Exc.refl (g : Nat) (w : World) : Exc g w w := ⟨Below.refl _ _, fun _ _ _ => rfl⟩
theorem Exc.trans (h : Exc g a b) (k : Exc g b c) : Exc g a c :=
  ⟨h.1.trans k.1, fun i hi hg => (k.2 i (Nat.lt_of_lt_of_le hi h.1.size) hg).trans (h.2 i hi hg)⟩
theorem Exc.of (hg : g ≤ a.heap.size) (h : Below a.heap.size a b) : Exc g a b := ⟨h.mono hg, fun i hi _ => h.block i hi⟩
theorem Exc.then (h : Exc g a b) (hg : g ≤ a.heap.size) (k : Below b.heap.size b c) : Exc g a c := h.trans (Exc.of (Nat.le_trans hg h.1.size) k)
theorem Exc.set (h : Exc g a b) (i : Nat) (v : Value) : Exc g a (b.setCell ⟨g, i, none⟩ v) :=
  ⟨h.1.setCell (p := ⟨g, i, none⟩) (Nat.le_refl _) v, fun k hk hg => (Below.heap_setCell b ⟨g, i, none⟩ v k hg).trans (h.2 k hk hg)⟩
theorem Exc.drew (h : Exc g a b) : Exc g a b.drew := ⟨h.1.drew, h.2⟩
theorem Exc.blk {x : Nat} {vs : Array Value} (h : Exc g a b) (hx : x ≠ g) (hb : Blk a x vs) : Blk b x vs := by
  have hl := hb.lt
  obtain ⟨T, hb⟩ := hb
  exact ⟨T, (h.2 x hl hx).trans hb⟩
end

theorem OwnR.exc {α : Type} {R : Reader α} {e : TypeId} {w w' : World} {base g : Nat} {v : Value} {xs : List α} (h : OwnR R e w base 0 v xs) (he : Exc g w w') (hg : g < base) : OwnR R e w' base 0 v xs := by
  obtain ⟨cells, h, hf⟩ := h
  refine ⟨cells, ⟨h.1, ?_⟩, hf.keep (he.1.mono (Nat.zero_le _)) (Nat.le_refl _)⟩
  rcases h.2 with h2 | ⟨g', cap, cur, hv, hg', hh, r⟩
  · exact .inl h2
  · refine .inr ⟨g', cap, cur, hv, hg', ?_, r⟩
    have hlt : g' < w.heap.size := by
      rcases Nat.lt_or_ge g' w.heap.size with h' | h'
      · exact h'
      · rw [Array.getElem?_eq_none h'] at hh; cases hh
    rw [he.2 g' hlt (by omega)]; exact hh
/-- Behind a write into memory of the call's own. -/
theorem Exc.own {g base : Nat} {a b c : World} (h : Exc g a b) (k : Below base b c) (hb : a.heap.size ≤ base) (hg : g < base) : Exc g a c :=
  ⟨h.1.trans (k.mono (by omega)), fun i hi hne => (k.block i (by omega)).trans (h.2 i hi hne)⟩
/-- From w to w' nothing old was written but blocks g and h. -/
def Exc2 (g h : Nat) (w w' : World) : Prop := Below (min g h) w w' ∧ ∀ b, b < w.heap.size → b ≠ g → b ≠ h → w'.heap[b]? = w.heap[b]?
section
variable {g h : Nat} {a b c : World}
theorem Exc2.refl (g h : Nat) (w : World) : Exc2 g h w w := ⟨Below.refl _ _, fun _ _ _ _ => rfl⟩
theorem Exc2.trans (k : Exc2 g h a b) (l : Exc2 g h b c) : Exc2 g h a c :=
  ⟨k.1.trans l.1, fun i hi h1 h2 => (l.2 i (Nat.lt_of_lt_of_le hi k.1.size) h1 h2).trans (k.2 i hi h1 h2)⟩
theorem Exc.left (k : Exc g a b) (h : Nat) : Exc2 g h a b := ⟨k.1.mono (Nat.min_le_left _ _), fun i hi h1 _ => k.2 i hi h1⟩
theorem Exc.right (k : Exc h a b) (g : Nat) : Exc2 g h a b := ⟨k.1.mono (Nat.min_le_right _ _), fun i hi _ h2 => k.2 i hi h2⟩
theorem Exc2.of (hg : min g h ≤ a.heap.size) (k : Below a.heap.size a b) : Exc2 g h a b := ⟨k.mono hg, fun i hi _ _ => k.block i hi⟩
theorem Exc2.then (k : Exc2 g h a b) (hg : min g h ≤ a.heap.size) (l : Below b.heap.size b c) : Exc2 g h a c := k.trans (Exc2.of (Nat.le_trans hg k.1.size) l)
theorem Exc2.blk {x : Nat} {vs : Array Value} (k : Exc2 g h a b) (h1 : x ≠ g) (h2 : x ≠ h) (hb : Blk a x vs) : Blk b x vs := by
  have hl := hb.lt
  obtain ⟨T, hb⟩ := hb
  exact ⟨T, (k.2 x hl h1 h2).trans hb⟩
end
theorem OwnR.exc2 {α : Type} {R : Reader α} {e : TypeId} {w w' : World} {base B g h : Nat} {v : Value} {xs : List α} (k : OwnR R e w base B v xs) (he : Exc2 g h w w') (hg : g < base) (hh : h < base) (hB : B ≤ min g h) : OwnR R e w' base B v xs := by
  obtain ⟨cells, k, hf⟩ := k
  refine ⟨cells, ⟨k.1, ?_⟩, hf.keep he.1 hB⟩
  rcases k.2 with h2 | ⟨g', cap, cur, hv, hg', hh', r⟩
  · exact .inl h2
  · refine .inr ⟨g', cap, cur, hv, hg', ?_, r⟩
    have hlt : g' < w.heap.size := by
      rcases Nat.lt_or_ge g' w.heap.size with h' | h'
      · exact h'
      · rw [Array.getElem?_eq_none h'] at hh'; cases hh'
    rw [he.2 g' hlt (by omega) (by omega)]; exact hh'
end Go.Proofs.YtiplipdigabidaaGreat
