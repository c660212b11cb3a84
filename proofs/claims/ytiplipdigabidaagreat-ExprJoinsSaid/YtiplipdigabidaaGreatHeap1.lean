/- term.pile: Len, Less, Swap, Pop, over a block that holds the terms. -/
import Derived.Test.YtiplipdigabidaaGreatOrd
set_option linter.unusedVariables false
set_option linter.unusedSimpArgs false
namespace Go.Proofs.YtiplipdigabidaaGreat
section
variable {α : Type} (z : α)
def atL (xs : List α) (k : Nat) : α := xs.getD k z
def sw (xs : List α) (i j : Nat) : List α := (xs.set i (atL z xs j)).set j (atL z xs i)
variable {z} {xs ys : List α} {i j k n : Nat}
theorem atL_get (h : k < xs.length) : atL z xs k = xs[k] := by simp [atL, h]
theorem sw_length : (sw z xs i j).length = xs.length := by simp [sw]
theorem at_sw (hi : i < xs.length) (hj : j < xs.length) : atL z (sw z xs i j) k = if k = j then atL z xs i else if k = i then atL z xs j else atL z xs k := by
 by_cases hk : k < xs.length
 · rw [atL_get (by rw [sw_length]; exact hk)]
   simp only [sw, List.getElem_set]
   by_cases h1 : j = k
   · rw [if_pos h1, if_pos h1.symm]
   · rw [if_neg h1, if_neg (Ne.symm h1)]
     by_cases h2 : i = k
     · rw [if_pos h2, if_pos h2.symm]
     · rw [if_neg h2, if_neg (Ne.symm h2), atL_get hk]
 · rw [if_neg (by omega), if_neg (by omega)]
   unfold atL
   rw [List.getD_eq_getElem?_getD, List.getD_eq_getElem?_getD, List.getElem?_eq_none (by rw [sw_length]; omega), List.getElem?_eq_none (by omega)]
theorem sw_perm (hi : i < xs.length) (hj : j < xs.length) : (sw z xs i j).Perm xs := by
 unfold sw
 rw [atL_get hi, atL_get hj]
 exact List.set_set_perm hi hj
end
section
variable {α : Type} {c : α → α → Int} {z : α}
def Heap (c : α → α → Int) (g : Nat → α) (i0 n : Nat) : Prop := ∀ k, 0 < k → k < n → i0 ≤ (k - 1) / 2 → c (g ((k - 1) / 2)) (g k) ≤ 0
theorem Heap.least (hc : Ord3 c) {g : Nat → α} {n : Nat} (h : Heap c g 0 n) : ∀ k, k < n → c (g 0) (g k) ≤ 0 := by
 intro k
 induction k using Nat.strongRecOn with
 | ind k ih =>
   intro hk
   rcases Nat.eq_zero_or_pos k with h0 | h0
   · subst h0; have := hc.self (g 0); omega
   · exact hc.trans _ _ _ (ih ((k - 1) / 2) (by omega) (by omega)) (h k h0 hk (Nat.zero_le _))
structure Sunk (c : α → α → Int) (z : α) (xs0 xs : List α) (i0 i n : Nat) : Prop where
 perm : xs.Perm xs0
 out : ∀ k, n ≤ k → atL z xs k = atL z xs0 k
 ge : i0 ≤ i
 path : i0 < i → i0 ≤ (i - 1) / 2
 heap : ∀ k, 0 < k → k < n → i0 ≤ (k - 1) / 2 → (k - 1) / 2 ≠ i → c (atL z xs ((k - 1) / 2)) (atL z xs k) ≤ 0
 up : ∀ k, 0 < k → k < n → (k - 1) / 2 = i → i0 < i → c (atL z xs ((i - 1) / 2)) (atL z xs k) ≤ 0
theorem Sunk.start {xs : List α} {i0 n : Nat} (h : Heap c (atL z xs) (i0 + 1) n) : Sunk c z xs xs i0 i0 n :=
 ⟨List.Perm.refl _, fun _ _ => rfl, Nat.le_refl _, fun h => by omega, fun k h0 h1 h2 h3 => h k h0 h1 (by omega), fun _ _ _ _ h => by omega⟩
theorem Sunk.step (hc : Ord3 c) {xs0 xs : List α} {i0 i n j : Nat} (h : Sunk c z xs0 xs i0 i n) (hn : n ≤ xs.length) (hj : j < n) (hij : j = 2 * i + 1 ∨ j = 2 * i + 2)
   (hmin : ∀ k, k < n → (k = 2 * i + 1 ∨ k = 2 * i + 2) → c (atL z xs j) (atL z xs k) ≤ 0) (hlt : c (atL z xs j) (atL z xs i) < 0) : Sunk c z xs0 (sw z xs i j) i0 j n := by
 have hil : i < xs.length := by omega
 have hjl : j < xs.length := by omega
 have hpj : (j - 1) / 2 = i := by omega
 have hge := h.ge
 refine ⟨(sw_perm hil hjl).trans h.perm, fun k hk => ?_, by omega, fun _ => by omega, fun k h0 h1 h2 h3 => ?_, fun k h0 h1 h2 h3 => ?_⟩
 · rw [at_sw hil hjl, if_neg (by omega), if_neg (by omega), h.out k hk]
 · rw [at_sw hil hjl, at_sw hil hjl, if_neg h3]
   by_cases hp : (k - 1) / 2 = i
   · rw [if_pos hp]
     by_cases hk : k = j
     · rw [if_pos hk]; omega
     · rw [if_neg hk, if_neg (by omega)]
       exact hmin k h1 (by omega)
   · rw [if_neg hp, if_neg (by intro e; subst e; exact hp hpj)]
     by_cases hk : k = i
     · rw [if_pos hk]
       subst hk
       exact h.up j (by omega) hj hpj (by omega)
     · rw [if_neg hk]
       exact h.heap k h0 h1 h2 hp
 · rw [at_sw hil hjl, at_sw hil hjl, hpj, if_neg (by omega), if_pos rfl, if_neg (by omega), if_neg (by omega)]
   have := h.heap k h0 h1 (by omega) (by omega)
   rw [h2] at this
   exact this
theorem Sunk.stop {xs0 xs : List α} {i0 i n : Nat} (h : Sunk c z xs0 xs i0 i n) (hmin : ∀ k, k < n → (k = 2 * i + 1 ∨ k = 2 * i + 2) → c (atL z xs i) (atL z xs k) ≤ 0) : Heap c (atL z xs) i0 n := by
 intro k h0 h1 h2
 by_cases hp : (k - 1) / 2 = i
 · rw [hp]; exact hmin k h1 (by omega)
 · exact h.heap k h0 h1 h2 hp
structure Sank (c : α → α → Int) (z : α) (xs0 xs : List α) (i0 n : Nat) : Prop where
 perm : xs.Perm xs0
 out : ∀ k, n ≤ k → atL z xs k = atL z xs0 k
 heap : Heap c (atL z xs) i0 n
theorem Sunk.sank {xs0 xs : List α} {i0 i n : Nat} (h : Sunk c z xs0 xs i0 i n) (hmin : ∀ k, k < n → (k = 2 * i + 1 ∨ k = 2 * i + 2) → c (atL z xs i) (atL z xs k) ≤ 0) : Sank c z xs0 xs i0 n := ⟨h.perm, h.out, h.stop hmin⟩
theorem Heap.swapped {xs : List α} {n : Nat} (h : Heap c (atL z xs) 0 (n + 1)) (hn : n < xs.length) : Heap c (atL z (sw z xs 0 n)) 1 n := by
 intro k h0 h1 h2
 rw [at_sw (by omega) hn, at_sw (by omega) hn, if_neg (by omega), if_neg (by omega), if_neg (by omega), if_neg (by omega)]
 exact h k h0 (by omega) (Nat.zero_le _)
theorem popped (hc : Ord3 c) {xs zs : List α} {n : Nat} (hx : xs.length = n + 1) (h : Heap c (atL z xs) 0 (n + 1)) (hs : Sank c z (sw z xs 0 n) zs 0 n) :
   zs.length = n + 1 ∧ atL z zs n = atL z xs 0 ∧ xs.Perm (atL z zs n :: zs.take n) ∧ Heap c (atL z (zs.take n)) 0 n ∧ ∀ b ∈ zs.take n, c (atL z zs n) b ≤ 0 := by
 have hl : zs.length = n + 1 := by rw [hs.perm.length_eq, sw_length, hx]
 have h1 : atL z zs n = atL z xs 0 := by
   rw [hs.out n (Nat.le_refl _), at_sw (by omega) (by omega), if_pos rfl]
 have h2 : xs.Perm (atL z zs n :: zs.take n) := by
   have e : zs = zs.take n ++ [atL z zs n] := by
     rw [atL_get (by omega), ← List.take_succ_eq_append_getElem (by omega : n < zs.length), List.take_of_length_le (by omega)]
   have p : xs.Perm zs := ((sw_perm (z := z) (xs := xs) (by omega) (by omega)).symm).trans hs.perm.symm
   refine p.trans ?_
   conv => lhs; rw [e]
   exact List.perm_append_singleton _ _
 refine ⟨hl, h1, h2, ?_, ?_⟩
 · intro k h0 h1 h2
   have e : ∀ m, m < n → atL z (zs.take n) m = atL z zs m := fun m hm => by
     rw [atL_get (by rw [List.length_take]; omega), atL_get (by omega), List.getElem_take]
   rw [e _ (by omega), e _ h1]
   exact hs.heap k h0 h1 h2
 · intro b hb
   rw [h1]
   have hb' : b ∈ xs := h2.symm.subset (List.mem_cons_of_mem _ hb)
   obtain ⟨k, hk, rfl⟩ := List.getElem_of_mem hb'
   rw [← atL_get hk]
   exact h.least hc k (by omega)
structure Piled (c : α → α → Int) (z : α) (l out xs : List α) : Prop where
 heap : Heap c (atL z xs) 0 xs.length
 sorted : out.Pairwise (fun a b => c a b < 0)
 le : ∀ a ∈ out, ∀ b ∈ xs, c a b ≤ 0
 mem : ∀ t, (t ∈ out ∨ t ∈ xs) ↔ t ∈ l
 len : out.length + xs.length ≤ l.length
theorem Piled.more (hc : Ord3 c) {l out xs rest : List α} {x : α} (h : Piled c z l out xs) (hp : xs.Perm (x :: rest)) (hh : Heap c (atL z rest) 0 rest.length) (hm : ∀ b ∈ rest, c x b ≤ 0)
   (hlast : ∀ y, out.getLast? = some y → c y x ≠ 0) : Piled c z l (out ++ [x]) rest := by
 have hx : x ∈ xs := hp.symm.subset (by simp)
 refine ⟨hh, ?_, ?_, fun t => ?_, ?_⟩
 · rw [List.pairwise_append]
   refine ⟨h.sorted, by simp, fun a ha b hb => ?_⟩
   obtain rfl : b = x := by simpa using hb
   rcases List.eq_nil_or_concat out with e | ⟨o, y, e⟩
   · subst e; simp at ha
   · rw [List.concat_eq_append] at e
     subst e
     have hy : c y b < 0 := by
       have := h.le y (by simp) b hx
       have := hlast y (by simp)
       omega
     rcases List.mem_append.1 ha with ha | ha
     · have := (List.pairwise_append.1 h.sorted).2.2 a ha y (by simp)
       exact hc.lt_le this (by omega)
     · obtain rfl : a = y := by simpa using ha
       exact hy
 · intro a ha b hb
   rcases List.mem_append.1 ha with ha | ha
   · exact h.le a ha b (hp.symm.subset (List.mem_cons_of_mem _ hb))
   · obtain rfl : a = x := by simpa using ha
     exact hm b hb
 · rw [← h.mem t, hp.mem_iff, List.mem_append, List.mem_singleton, List.mem_cons, or_assoc]
 · have := h.len; have := hp.length_eq
   simp only [List.length_append, List.length_cons, List.length_nil] at *; omega
theorem Piled.skip {l out xs rest : List α} {x y : α} (h : Piled c z l out xs) (hp : xs.Perm (x :: rest)) (hh : Heap c (atL z rest) 0 rest.length) (hlast : out.getLast? = some y) (he : y = x) : Piled c z l out rest := by
 subst he
 have hy : y ∈ out := List.mem_of_getLast? hlast
 refine ⟨hh, h.sorted, fun a ha b hb => h.le a ha b (hp.symm.subset (List.mem_cons_of_mem _ hb)), fun t => ?_, ?_⟩
 · rw [← h.mem t, hp.mem_iff, List.mem_cons]
   constructor
   · rintro (k | k)
     · exact .inl k
     · exact .inr (.inr k)
   · rintro (k | k | k)
     · exact .inl k
     · subst k; exact .inl hy
     · exact .inr k
 · have := h.len; have := hp.length_eq
   simp only [List.length_cons] at *; omega
def insL (c : α → α → Int) (t : α) : List α → List α
 | [] => [t]
 | x :: xs => if c x t < 0 then x :: insL c t xs else if c x t = 0 then x :: xs else t :: x :: xs
def setL (c : α → α → Int) (l : List α) : List α := l.foldl (fun out t => insL c t out) []
theorem insL_mem {t : α} : ∀ {xs : List α}, (∀ x ∈ xs, c x t = 0 → x = t) → ∀ u, u ∈ insL c t xs ↔ u = t ∨ u ∈ xs
 | [], _, u => by simp [insL]
 | x :: xs, h, u => by
   unfold insL
   split
   · rw [List.mem_cons, insL_mem (fun y hy => h y (by simp [hy])), List.mem_cons]
     constructor
     · rintro (k | k | k)
       · exact .inr (.inl k)
       · exact .inl k
       · exact .inr (.inr k)
     · rintro (k | k | k)
       · exact .inr (.inl k)
       · exact .inl k
       · exact .inr (.inr k)
   · split
     · rename_i h0
       have := h x (by simp) h0
       subst this
       simp
     · simp
theorem insL_sorted (hc : Ord3 c) {t : α} : ∀ {xs : List α}, xs.Pairwise (fun a b => c a b < 0) → (∀ x ∈ xs, c x t = 0 → x = t) → (insL c t xs).Pairwise (fun a b => c a b < 0)
 | [], _, _ => by simp [insL]
 | x :: xs, h, he => by
   obtain ⟨h1, h2⟩ := List.pairwise_cons.1 h
   unfold insL
   split
   · rename_i hlt
     rw [List.pairwise_cons]
     refine ⟨fun a ha => ?_, insL_sorted hc h2 (fun y hy => he y (by simp [hy]))⟩
     rcases (insL_mem (fun y hy => he y (by simp [hy])) a).1 ha with e | e
     · rw [e]; exact hlt
     · exact h1 a e
   · split
     · exact h
     · rename_i h3 h4
       rw [List.pairwise_cons]
       refine ⟨fun a ha => ?_, h⟩
       have ht : c t x < 0 := by have := hc.anti x t; omega
       rcases List.mem_cons.1 ha with e | e
       · rw [e]; exact ht
       · exact hc.lt_le ht (by have := h1 a e; omega)
theorem setL_aux (hc : Ord3 c) : ∀ (l out : List α), (∀ a, (a ∈ out ∨ a ∈ l) → ∀ b, (b ∈ out ∨ b ∈ l) → c a b = 0 → a = b) → out.Pairwise (fun a b => c a b < 0) →
   (l.foldl (fun out t => insL c t out) out).Pairwise (fun a b => c a b < 0) ∧ ∀ t, t ∈ l.foldl (fun out t => insL c t out) out ↔ t ∈ out ∨ t ∈ l
 | [], out, _, h => ⟨h, fun t => by simp⟩
 | x :: l, out, he, h => by
   have hx : ∀ y ∈ out, c y x = 0 → y = x := fun y hy => he y (.inl hy) x (.inr (by simp))
   have hm := insL_mem (c := c) hx
   obtain ⟨h1, h2⟩ := setL_aux hc l (insL c x out) (fun a ha b hb => by
     refine he a ?_ b ?_
     · rw [hm] at ha
       rcases ha with (k | k) | k
       · exact .inr (by simp [k])
       · exact .inl k
       · exact .inr (by simp [k])
     · rw [hm] at hb
       rcases hb with (k | k) | k
       · exact .inr (by simp [k])
       · exact .inl k
       · exact .inr (by simp [k])) (insL_sorted hc h hx)
   refine ⟨h1, fun t => ?_⟩
   rw [List.foldl_cons, h2, hm, List.mem_cons]
   constructor
   · rintro ((k | k) | k)
     · exact .inr (.inl k)
     · exact .inl k
     · exact .inr (.inr k)
   · rintro (k | k | k)
     · exact .inl (.inr k)
     · exact .inl (.inl k)
     · exact .inr k
theorem setL_sorted (hc : Ord3 c) {l : List α} (he : ∀ a ∈ l, ∀ b ∈ l, c a b = 0 → a = b) : (setL c l).Pairwise (fun a b => c a b < 0) :=
 (setL_aux hc l [] (fun a ha b hb => he a (by simpa using ha) b (by simpa using hb)) (by simp)).1
theorem setL_mem (hc : Ord3 c) {l : List α} (he : ∀ a ∈ l, ∀ b ∈ l, c a b = 0 → a = b) (t : α) : t ∈ setL c l ↔ t ∈ l := by
 have := (setL_aux hc l [] (fun a ha b hb => he a (by simpa using ha) b (by simpa using hb)) (by simp)).2 t
 simpa [setL] using this
theorem sorted_uniq (hc : Ord3 c) : ∀ {xs ys : List α}, xs.Pairwise (fun a b => c a b < 0) → ys.Pairwise (fun a b => c a b < 0) → (∀ t, t ∈ xs ↔ t ∈ ys) → xs = ys
 | [], [], _, _, _ => rfl
 | [], y :: ys, _, _, h => absurd ((h y).2 (by simp)) (by simp)
 | x :: xs, [], _, _, h => absurd ((h x).1 (by simp)) (by simp)
 | x :: xs, y :: ys, hx, hy, h => by
   obtain ⟨x1, x2⟩ := List.pairwise_cons.1 hx
   obtain ⟨y1, y2⟩ := List.pairwise_cons.1 hy
   have e : x = y := by
     rcases List.mem_cons.1 ((h x).1 (by simp)) with e | e
     · exact e
     · rcases List.mem_cons.1 ((h y).2 (by simp)) with e' | e'
       · exact e'.symm
       · have a := y1 x e
         have b := x1 y e'
         have := hc.anti x y
         omega
   subst e
   rw [sorted_uniq hc x2 y2 fun t => ?_]
   have hn : ∀ {zs : List α}, (∀ a ∈ zs, c x a < 0) → x ∉ zs := fun hz hm => by
     have := hz x hm
     have := hc.self x
     omega
   constructor
   · intro k
     rcases List.mem_cons.1 ((h t).1 (by simp [k])) with e | e
     · subst e; exact absurd k (hn x1)
     · exact e
   · intro k
     rcases List.mem_cons.1 ((h t).2 (by simp [k])) with e | e
     · subst e; exact absurd k (hn y1)
     · exact e
theorem Piled.done (hc : Ord3 c) {l out : List α} (he : ∀ a ∈ l, ∀ b ∈ l, c a b = 0 → a = b) (h : Piled c z l out []) : out = setL c l :=
 sorted_uniq hc h.sorted (setL_sorted hc he) fun t => by
   rw [setL_mem hc he, ← h.mem t]; simp
theorem setL_length (hc : Ord3 c) {l : List α} (he : ∀ a ∈ l, ∀ b ∈ l, c a b = 0 → a = b) : (setL c l).length ≤ l.length := by
 have key : ∀ (l out : List α), (l.foldl (fun out t => insL c t out) out).length ≤ out.length + l.length := by
   have one : ∀ (t : α) (xs : List α), (insL c t xs).length ≤ xs.length + 1 := by
     intro t xs
     induction xs with
     | nil => simp [insL]
     | cons x xs ih => unfold insL; split <;> (try split) <;> simp <;> omega
   intro l
   induction l with
   | nil => simp
   | cons x l ih => intro out; have := ih (insL c x out); have := one x out; simp only [List.foldl_cons, List.length_cons]; omega
 simpa [setL] using key l []
theorem setL_self (hc : Ord3 c) {l : List α} (h : l.Pairwise (fun a b => c a b < 0)) : setL c l = l := by
 have he : ∀ a ∈ l, ∀ b ∈ l, c a b = 0 → a = b := by
   intro a ha b hb h0
   obtain ⟨i, hi, rfl⟩ := List.getElem_of_mem ha
   obtain ⟨j, hj, rfl⟩ := List.getElem_of_mem hb
   rcases Nat.lt_trichotomy i j with k | k | k
   · have := List.pairwise_iff_getElem.1 h i j hi hj k; omega
   · subst k; rfl
   · have := List.pairwise_iff_getElem.1 h j i hj hi k
     have := hc.anti l[i] l[j]
     omega
 exact sorted_uniq hc (setL_sorted hc he) h (setL_mem hc he)
end
open Go.ChangeShapes Go.WideShapes Go.ChangeAt Go.RowKit
structure TV where
 t : Tm
 a : Option Addr
 c : Nat
def TV.cs (x : TV) : List Value := [.int .i64 x.t.kind, .int .i64 x.t.n, .string x.t.s, .slice x.a 0 x.c]
def tv0 : TV := ⟨⟨0, 0, ⟨#[]⟩, []⟩, none, 0⟩
def cTV (x y : TV) : Int := cmpT 3 x.t y.t
theorem cTV_ord : Ord3 cTV := (cmpT_ord 3).by TV.t
def PRow (cur : Array Value) (xs : List TV) : Prop := ∀ k, k < xs.length → ∀ b, b < 4 → cur[k * 4 + b]? = (atL tv0 xs k).cs[b]?
def putTV (cur : Array Value) (o : Nat) (x : TV) : Array Value :=
 (((cur.setIfInBounds o (.int .i64 x.t.kind)).setIfInBounds (o + 1) (.int .i64 x.t.n)).setIfInBounds (o + 2) (.string x.t.s)).setIfInBounds (o + 3) (.slice x.a 0 x.c)
theorem putTV_get {cur : Array Value} {i k b : Nat} {x : TV} (h : i * 4 + 3 < cur.size) (hb : b < 4) : (putTV cur (i * 4) x)[k * 4 + b]? = if k = i then x.cs[b]? else cur[k * 4 + b]? := by
 unfold putTV
 simp only [Array.getElem?_setIfInBounds, Array.size_setIfInBounds]
 by_cases hk : k = i
 · subst hk
   have h4 : b = 0 ∨ b = 1 ∨ b = 2 ∨ b = 3 := by omega
   rcases h4 with rfl | rfl | rfl | rfl
   · rw [if_neg (by omega), if_neg (by omega), if_neg (by omega), if_pos (by omega), if_pos (by omega), if_pos rfl]; rfl
   · rw [if_neg (by omega), if_neg (by omega), if_pos (by omega), if_pos (by omega), if_pos rfl]; rfl
   · rw [if_neg (by omega), if_pos (by omega), if_pos (by omega), if_pos rfl]; rfl
   · rw [if_pos (by omega), if_pos (by omega), if_pos rfl]; rfl
 · rw [if_neg (by omega), if_neg (by omega), if_neg (by omega), if_neg (by omega), if_neg hk]
theorem putTV_size {cur : Array Value} {o : Nat} {x : TV} : (putTV cur o x).size = cur.size := by simp [putTV]
theorem PRow.size {cur : Array Value} {xs : List TV} (h : PRow cur xs) {k : Nat} (hk : k < xs.length) : k * 4 + 3 < cur.size := by
 have := h k hk 3 (by omega)
 rcases Nat.lt_or_ge (k * 4 + 3) cur.size with h1 | h1
 · exact h1
 · rw [Array.getElem?_eq_none h1] at this; cases this
theorem PRow.swap {cur : Array Value} {xs : List TV} {i j : Nat} (h : PRow cur xs) (hi : i < xs.length) (hj : j < xs.length) :
   PRow (putTV (putTV cur (i * 4) (atL tv0 xs j)) (j * 4) (atL tv0 xs i)) (sw tv0 xs i j) := by
 intro k hk b hb
 rw [sw_length] at hk
 rw [putTV_get (by rw [putTV_size]; exact h.size hj) hb, at_sw hi hj]
 by_cases h1 : k = j
 · rw [if_pos h1, if_pos h1]
 · rw [if_neg h1, if_neg h1, putTV_get (h.size hi) hb]
   by_cases h2 : k = i
   · rw [if_pos h2, if_pos h2]
   · rw [if_neg h2, if_neg h2]; exact h k hk b hb
theorem PRow.take {cur : Array Value} {xs : List TV} (h : PRow cur xs) (n : Nat) : PRow cur (xs.take n) := by
 intro k hk b hb
 rw [List.length_take] at hk
 rw [h k (by omega) b hb]
 congr 2
 rw [atL_get (by omega), atL_get (by rw [List.length_take]; omega), List.getElem_take]
def PAt (w : World) (P G : Nat) (xs : List TV) (c : Nat) : Prop := Blk w P #[.slice (some ⟨G, 0, none⟩) xs.length c] ∧ ∃ cur, Blk w G cur ∧ PRow cur xs
def PRd (w : World) (B d : Nat) (xs : List TV) : Prop := ∀ x ∈ xs, RTm w B d x.t x.cs
theorem PRd.below {w w' : World} {B C d : Nat} {xs : List TV} (h : PRd w B d xs) (hb : Below C w w') (hB : B ≤ C) : PRd w' B d xs := fun x hx => (h x hx).below hb hB
theorem atL_mem {α : Type} {z : α} {xs : List α} {k : Nat} (h : k < xs.length) : atL z xs k ∈ xs := by rw [atL_get h]; exact List.getElem_mem h
theorem pileLen_any (A : Option Addr) (n c : Nat) (w : World) :
   Calls Tryz.prog 139 #[.slice A n c] w fun e w' => e = .returned (.int .i64 n) ∧ w = w' := by
 go_enter Tryz.func139, Tryz.ntmps139
 go_wp2_with fail
 go_ret
 exact ⟨rfl, rfl⟩
set_option maxRecDepth 100000 in
set_option maxHeartbeats 1000000 in
theorem pileLess_any {w : World} {G c B d i j : Nat} {xs : List TV} {cur : Array Value} (hG : Blk w G cur) (hr : PRow cur xs) (hd : PRd w B d xs) (hB : B ≤ w.heap.size) (hi : i < xs.length) (hj : j < xs.length) (hn : xs.length ≤ 1000000) :
   Calls Tryz.prog 196 #[.slice (some ⟨G, 0, none⟩) xs.length c, .int .i64 i, .int .i64 j] w fun e w' => e = .returned (.bool (decide (cTV (atL tv0 xs i) (atL tv0 xs j) < 0))) ∧ Below w.heap.size w w' := by
 have hx := hd _ (atL_mem (z := tv0) hi)
 have hy := hd _ (atL_mem (z := tv0) hj)
 have i0 := hr i hi 0 (by omega)
 have i1 := hr i hi 1 (by omega)
 have i2 := hr i hi 2 (by omega)
 have i3 := hr i hi 3 (by omega)
 have j0 := hr j hj 0 (by omega)
 have j1 := hr j hj 1 (by omega)
 have j2 := hr j hj 2 (by omega)
 have j3 := hr j hj 3 (by omega)
 unfold cTV
 generalize atL tv0 xs i = x at *
 generalize atL tv0 xs j = y at *
 simp only [TV.cs, List.getElem?_cons_zero, List.getElem?_cons_succ, Nat.add_zero] at i0 i1 i2 i3 j0 j1 j2 j3
 have HX := Lib.hid hx
 have HY := Lib.hid hy
 clear hx hy
 have q_G := hG.regrown
 go_enter Tryz.func196, Tryz.ntmps196
 have k_G := hG.cell
 go_wp2_with fail
 refine wp_region_quiet_below (by kernel_rfl) (by kernel_rfl) ?_
 repeat (go_big_quiet_step ((go_at_call 94; exact Calls.regrown_of (compare_any d d x.t y.t x.cs y.cs B _ (HX.out.below (below_regrown _ _ _) hB) (HY.out.below (below_regrown _ _ _) hB) (Nat.le_trans hB (below_regrown _ _ _).size)))))
 refine wpQuiet_nil ?_
 intro w1 hw1
 have hb1 : Below w.heap.size w w1 := by obtain ⟨p, rfl⟩ := hw1; exact below_regrown _ _ _
 clear hw1 q_G k_G
 go_wp2_with fail
 go_ret
 exact ⟨rfl, hb1⟩
set_option maxRecDepth 100000 in
set_option maxHeartbeats 4000000 in
theorem pileSwap_any {w : World} {G c i j : Nat} {xs : List TV} {cur : Array Value} (hG : Blk w G cur) (hr : PRow cur xs) (hi : i < xs.length) (hj : j < xs.length) (hn : xs.length ≤ 1000000) :
   Calls Tryz.prog 197 #[.slice (some ⟨G, 0, none⟩) xs.length c, .int .i64 i, .int .i64 j] w fun e w' => e = .returned (.tuple #[]) ∧ Exc G w w' ∧ ∃ cur', Blk w' G cur' ∧ PRow cur' (sw tv0 xs i j) := by
 have HS := Lib.hid (hr.swap hi hj)
 have i0 := hr i hi 0 (by omega)
 have i1 := hr i hi 1 (by omega)
 have i2 := hr i hi 2 (by omega)
 have i3 := hr i hi 3 (by omega)
 have j0 := hr j hj 0 (by omega)
 have j1 := hr j hj 1 (by omega)
 have j2 := hr j hj 2 (by omega)
 have j3 := hr j hj 3 (by omega)
 generalize hxe : atL tv0 xs i = x at *
 generalize hye : atL tv0 xs j = y at *
 simp only [TV.cs, List.getElem?_cons_zero, List.getElem?_cons_succ, Nat.add_zero] at i0 i1 i2 i3 j0 j1 j2 j3
 go_enter Tryz.func197, Tryz.ntmps197
 have k_G := hG.cell
 have f_G := hG.free
 by_cases e : j = i
 · subst e
   obtain rfl : x = y := by rw [← hxe, ← hye]
   go_wp2_with fail
   go_region
   all_goals go_end0
   all_goals exact ⟨rfl, ((((((((((Exc.refl G w).set _ _).set _ _).set _ _).set _ _).set _ _).set _ _).set _ _).set _ _)).drew, _, ((((((((hG.set_ _ _).set_ _ _).set_ _ _).set_ _ _).set_ _ _).set_ _ _).set_ _ _).set_ _ _).drew, HS.out⟩
 · have n00 : ¬ (j * 4 = i * 4) := by omega
   have n01 : ¬ (j * 4 = i * 4 + 1) := by omega
   have n02 : ¬ (j * 4 = i * 4 + 2) := by omega
   have n03 : ¬ (j * 4 = i * 4 + 3) := by omega
   have n10 : ¬ (j * 4 + 1 = i * 4) := by omega
   have n11 : ¬ (j * 4 + 1 = i * 4 + 1) := by omega
   have n12 : ¬ (j * 4 + 1 = i * 4 + 2) := by omega
   have n13 : ¬ (j * 4 + 1 = i * 4 + 3) := by omega
   have n20 : ¬ (j * 4 + 2 = i * 4) := by omega
   have n21 : ¬ (j * 4 + 2 = i * 4 + 1) := by omega
   have n22 : ¬ (j * 4 + 2 = i * 4 + 2) := by omega
   have n23 : ¬ (j * 4 + 2 = i * 4 + 3) := by omega
   have n30 : ¬ (j * 4 + 3 = i * 4) := by omega
   have n31 : ¬ (j * 4 + 3 = i * 4 + 1) := by omega
   have n32 : ¬ (j * 4 + 3 = i * 4 + 2) := by omega
   have n33 : ¬ (j * 4 + 3 = i * 4 + 3) := by omega
   go_wp2_with fail
   go_region
   all_goals go_end0
   all_goals exact ⟨rfl, ((((((((((Exc.refl G w).set _ _).set _ _).set _ _).set _ _).set _ _).set _ _).set _ _).set _ _)).drew, _, ((((((((hG.set_ _ _).set_ _ _).set_ _ _).set_ _ _).set_ _ _).set_ _ _).set_ _ _).set_ _ _).drew, HS.out⟩
end Go.Proofs.YtiplipdigabidaaGreat
