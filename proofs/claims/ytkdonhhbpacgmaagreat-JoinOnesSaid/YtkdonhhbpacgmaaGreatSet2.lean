/- term.Set: the walk. -/
import Derived.Test.YtkdonhhbpacgmaaGreatHas
import Derived.Test.YtkdonhhbpacgmaaGreatSort
set_option linter.unusedVariables false
set_option linter.unusedSimpArgs false
namespace Go.Proofs.YtkdonhhbpacgmaaGreat
section
variable {α : Type} (z : α)
def atL (xs : List α) (k : Nat) : α := xs.getD k z
def sw (xs : List α) (i j : Nat) : List α := (xs.set i (atL z xs j)).set j (atL z xs i)
variable {z} {xs ys : List α} {i j k n : Nat}
theorem atL_get (h : k < xs.length) : atL z xs k = xs[k] := by simp [atL, h]
theorem sw_length : (sw z xs i j).length = xs.length := by simp [sw]
theorem at_sw (hi : i < xs.length) (hj : j < xs.length) : atL z (sw z xs i j) k = if k = j then atL z xs i else if k = i then atL z xs j else atL z xs k := by
 by_cases hk : k < xs.length
 · rw [atL_get (by rw [sw_length]; exact hk)]
   simp only [sw, List.getElem_set]
   by_cases h1 : j = k
   · rw [if_pos h1, if_pos h1.symm]
   · rw [if_neg h1, if_neg (Ne.symm h1)]
     by_cases h2 : i = k
     · rw [if_pos h2, if_pos h2.symm]
     · rw [if_neg h2, if_neg (Ne.symm h2), atL_get hk]
 · rw [if_neg (by omega), if_neg (by omega)]
   unfold atL
   rw [List.getD_eq_getElem?_getD, List.getD_eq_getElem?_getD, List.getElem?_eq_none (by rw [sw_length]; omega), List.getElem?_eq_none (by omega)]
theorem sw_perm (hi : i < xs.length) (hj : j < xs.length) : (sw z xs i j).Perm xs := by
 unfold sw
 rw [atL_get hi, atL_get hj]
 exact List.set_set_perm hi hj
end
section
variable {α : Type} {c : α → α → Int} {z : α}
def Heap (c : α → α → Int) (g : Nat → α) (i0 n : Nat) : Prop := ∀ k, 0 < k → k < n → i0 ≤ (k - 1) / 2 → c (g ((k - 1) / 2)) (g k) ≤ 0
theorem Heap.least (hc : Ord3 c) {g : Nat → α} {n : Nat} (h : Heap c g 0 n) : ∀ k, k < n → c (g 0) (g k) ≤ 0 := by
 intro k
 induction k using Nat.strongRecOn with
 | ind k ih =>
   intro hk
   rcases Nat.eq_zero_or_pos k with h0 | h0
   · subst h0; have := hc.self (g 0); omega
   · exact hc.trans _ _ _ (ih ((k - 1) / 2) (by omega) (by omega)) (h k h0 hk (Nat.zero_le _))
structure Sunk (c : α → α → Int) (z : α) (xs0 xs : List α) (i0 i n : Nat) : Prop where
 perm : xs.Perm xs0
 out : ∀ k, n ≤ k → atL z xs k = atL z xs0 k
 ge : i0 ≤ i
 path : i0 < i → i0 ≤ (i - 1) / 2
 heap : ∀ k, 0 < k → k < n → i0 ≤ (k - 1) / 2 → (k - 1) / 2 ≠ i → c (atL z xs ((k - 1) / 2)) (atL z xs k) ≤ 0
 up : ∀ k, 0 < k → k < n → (k - 1) / 2 = i → i0 < i → c (atL z xs ((i - 1) / 2)) (atL z xs k) ≤ 0
theorem Sunk.step (hc : Ord3 c) {xs0 xs : List α} {i0 i n j : Nat} (h : Sunk c z xs0 xs i0 i n) (hn : n ≤ xs.length) (hj : j < n) (hij : j = 2 * i + 1 ∨ j = 2 * i + 2)
   (hmin : ∀ k, k < n → (k = 2 * i + 1 ∨ k = 2 * i + 2) → c (atL z xs j) (atL z xs k) ≤ 0) (hlt : c (atL z xs j) (atL z xs i) < 0) : Sunk c z xs0 (sw z xs i j) i0 j n := by
 have hil : i < xs.length := by omega
 have hjl : j < xs.length := by omega
 have hpj : (j - 1) / 2 = i := by omega
 have hge := h.ge
 refine ⟨(sw_perm hil hjl).trans h.perm, fun k hk => ?_, by omega, fun _ => by omega, fun k h0 h1 h2 h3 => ?_, fun k h0 h1 h2 h3 => ?_⟩
 · rw [at_sw hil hjl, if_neg (by omega), if_neg (by omega), h.out k hk]
 · rw [at_sw hil hjl, at_sw hil hjl, if_neg h3]
   by_cases hp : (k - 1) / 2 = i
   · rw [if_pos hp]
     by_cases hk : k = j
     · rw [if_pos hk]; omega
     · rw [if_neg hk, if_neg (by omega)]
       exact hmin k h1 (by omega)
   · rw [if_neg hp, if_neg (by intro e; subst e; exact hp hpj)]
     by_cases hk : k = i
     · rw [if_pos hk]
       subst hk
       exact h.up j (by omega) hj hpj (by omega)
     · rw [if_neg hk]
       exact h.heap k h0 h1 h2 hp
 · rw [at_sw hil hjl, at_sw hil hjl, hpj, if_neg (by omega), if_pos rfl, if_neg (by omega), if_neg (by omega)]
   have := h.heap k h0 h1 (by omega) (by omega)
   rw [h2] at this
   exact this
structure Piled (c : α → α → Int) (z : α) (l out xs : List α) : Prop where
 heap : Heap c (atL z xs) 0 xs.length
 sorted : out.Pairwise (fun a b => c a b < 0)
 le : ∀ a ∈ out, ∀ b ∈ xs, c a b ≤ 0
 mem : ∀ t, (t ∈ out ∨ t ∈ xs) ↔ t ∈ l
 len : out.length + xs.length ≤ l.length
theorem Piled.more (hc : Ord3 c) {l out xs rest : List α} {x : α} (h : Piled c z l out xs) (hp : xs.Perm (x :: rest)) (hh : Heap c (atL z rest) 0 rest.length) (hm : ∀ b ∈ rest, c x b ≤ 0)
   (hlast : ∀ y, out.getLast? = some y → c y x ≠ 0) : Piled c z l (out ++ [x]) rest := by
 have hx : x ∈ xs := hp.symm.subset (by simp)
 refine ⟨hh, ?_, ?_, fun t => ?_, ?_⟩
 · rw [List.pairwise_append]
   refine ⟨h.sorted, by simp, fun a ha b hb => ?_⟩
   obtain rfl : b = x := by simpa using hb
   rcases List.eq_nil_or_concat out with e | ⟨o, y, e⟩
   · subst e; simp at ha
   · rw [List.concat_eq_append] at e
     subst e
     have hy : c y b < 0 := by
       have := h.le y (by simp) b hx
       have := hlast y (by simp)
       omega
     rcases List.mem_append.1 ha with ha | ha
     · have := (List.pairwise_append.1 h.sorted).2.2 a ha y (by simp)
       exact hc.lt_le this (by omega)
     · obtain rfl : a = y := by simpa using ha
       exact hy
 · intro a ha b hb
   rcases List.mem_append.1 ha with ha | ha
   · exact h.le a ha b (hp.symm.subset (List.mem_cons_of_mem _ hb))
   · obtain rfl : a = x := by simpa using ha
     exact hm b hb
 · rw [← h.mem t, hp.mem_iff, List.mem_append, List.mem_singleton, List.mem_cons, or_assoc]
 · have := h.len; have := hp.length_eq
   simp only [List.length_append, List.length_cons, List.length_nil] at *; omega
theorem Piled.skip {l out xs rest : List α} {x y : α} (h : Piled c z l out xs) (hp : xs.Perm (x :: rest)) (hh : Heap c (atL z rest) 0 rest.length) (hlast : out.getLast? = some y) (he : y = x) : Piled c z l out rest := by
 subst he
 have hy : y ∈ out := List.mem_of_getLast? hlast
 refine ⟨hh, h.sorted, fun a ha b hb => h.le a ha b (hp.symm.subset (List.mem_cons_of_mem _ hb)), fun t => ?_, ?_⟩
 · rw [← h.mem t, hp.mem_iff, List.mem_cons]
   constructor
   · rintro (k | k)
     · exact .inl k
     · exact .inr (.inr k)
   · rintro (k | k | k)
     · exact .inl k
     · subst k; exact .inl hy
     · exact .inr k
 · have := h.len; have := hp.length_eq
   simp only [List.length_cons] at *; omega
def insL (c : α → α → Int) (t : α) : List α → List α
 | [] => [t]
 | x :: xs => if c x t < 0 then x :: insL c t xs else if c x t = 0 then x :: xs else t :: x :: xs
def setL (c : α → α → Int) (l : List α) : List α := l.foldl (fun out t => insL c t out) []
theorem insL_mem {t : α} : ∀ {xs : List α}, (∀ x ∈ xs, c x t = 0 → x = t) → ∀ u, u ∈ insL c t xs ↔ u = t ∨ u ∈ xs
 | [], _, u => by simp [insL]
 | x :: xs, h, u => by
   unfold insL
   split
   · rw [List.mem_cons, insL_mem (fun y hy => h y (by simp [hy])), List.mem_cons]
     constructor
     · rintro (k | k | k)
       · exact .inr (.inl k)
       · exact .inl k
       · exact .inr (.inr k)
     · rintro (k | k | k)
       · exact .inr (.inl k)
       · exact .inl k
       · exact .inr (.inr k)
   · split
     · rename_i h0
       have := h x (by simp) h0
       subst this
       simp
     · simp
theorem insL_sorted (hc : Ord3 c) {t : α} : ∀ {xs : List α}, xs.Pairwise (fun a b => c a b < 0) → (∀ x ∈ xs, c x t = 0 → x = t) → (insL c t xs).Pairwise (fun a b => c a b < 0)
 | [], _, _ => by simp [insL]
 | x :: xs, h, he => by
   obtain ⟨h1, h2⟩ := List.pairwise_cons.1 h
   unfold insL
   split
   · rename_i hlt
     rw [List.pairwise_cons]
     refine ⟨fun a ha => ?_, insL_sorted hc h2 (fun y hy => he y (by simp [hy]))⟩
     rcases (insL_mem (fun y hy => he y (by simp [hy])) a).1 ha with e | e
     · rw [e]; exact hlt
     · exact h1 a e
   · split
     · exact h
     · rename_i h3 h4
       rw [List.pairwise_cons]
       refine ⟨fun a ha => ?_, h⟩
       have ht : c t x < 0 := by have := hc.anti x t; omega
       rcases List.mem_cons.1 ha with e | e
       · rw [e]; exact ht
       · exact hc.lt_le ht (by have := h1 a e; omega)
theorem setL_aux (hc : Ord3 c) : ∀ (l out : List α), (∀ a, (a ∈ out ∨ a ∈ l) → ∀ b, (b ∈ out ∨ b ∈ l) → c a b = 0 → a = b) → out.Pairwise (fun a b => c a b < 0) →
   (l.foldl (fun out t => insL c t out) out).Pairwise (fun a b => c a b < 0) ∧ ∀ t, t ∈ l.foldl (fun out t => insL c t out) out ↔ t ∈ out ∨ t ∈ l
 | [], out, _, h => ⟨h, fun t => by simp⟩
 | x :: l, out, he, h => by
   have hx : ∀ y ∈ out, c y x = 0 → y = x := fun y hy => he y (.inl hy) x (.inr (by simp))
   have hm := insL_mem (c := c) hx
   obtain ⟨h1, h2⟩ := setL_aux hc l (insL c x out) (fun a ha b hb => by
     refine he a ?_ b ?_
     · rw [hm] at ha
       rcases ha with (k | k) | k
       · exact .inr (by simp [k])
       · exact .inl k
       · exact .inr (by simp [k])
     · rw [hm] at hb
       rcases hb with (k | k) | k
       · exact .inr (by simp [k])
       · exact .inl k
       · exact .inr (by simp [k])) (insL_sorted hc h hx)
   refine ⟨h1, fun t => ?_⟩
   rw [List.foldl_cons, h2, hm, List.mem_cons]
   constructor
   · rintro ((k | k) | k)
     · exact .inr (.inl k)
     · exact .inl k
     · exact .inr (.inr k)
   · rintro (k | k | k)
     · exact .inl (.inr k)
     · exact .inl (.inl k)
     · exact .inr k
theorem setL_sorted (hc : Ord3 c) {l : List α} (he : ∀ a ∈ l, ∀ b ∈ l, c a b = 0 → a = b) : (setL c l).Pairwise (fun a b => c a b < 0) :=
 (setL_aux hc l [] (fun a ha b hb => he a (by simpa using ha) b (by simpa using hb)) (by simp)).1
theorem setL_mem (hc : Ord3 c) {l : List α} (he : ∀ a ∈ l, ∀ b ∈ l, c a b = 0 → a = b) (t : α) : t ∈ setL c l ↔ t ∈ l := by
 have := (setL_aux hc l [] (fun a ha b hb => he a (by simpa using ha) b (by simpa using hb)) (by simp)).2 t
 simpa [setL] using this
theorem sorted_uniq (hc : Ord3 c) : ∀ {xs ys : List α}, xs.Pairwise (fun a b => c a b < 0) → ys.Pairwise (fun a b => c a b < 0) → (∀ t, t ∈ xs ↔ t ∈ ys) → xs = ys
 | [], [], _, _, _ => rfl
 | [], y :: ys, _, _, h => absurd ((h y).2 (by simp)) (by simp)
 | x :: xs, [], _, _, h => absurd ((h x).1 (by simp)) (by simp)
 | x :: xs, y :: ys, hx, hy, h => by
   obtain ⟨x1, x2⟩ := List.pairwise_cons.1 hx
   obtain ⟨y1, y2⟩ := List.pairwise_cons.1 hy
   have e : x = y := by
     rcases List.mem_cons.1 ((h x).1 (by simp)) with e | e
     · exact e
     · rcases List.mem_cons.1 ((h y).2 (by simp)) with e' | e'
       · exact e'.symm
       · have a := y1 x e
         have b := x1 y e'
         have := hc.anti x y
         omega
   subst e
   rw [sorted_uniq hc x2 y2 fun t => ?_]
   have hn : ∀ {zs : List α}, (∀ a ∈ zs, c x a < 0) → x ∉ zs := fun hz hm => by
     have := hz x hm
     have := hc.self x
     omega
   constructor
   · intro k
     rcases List.mem_cons.1 ((h t).1 (by simp [k])) with e | e
     · subst e; exact absurd k (hn x1)
     · exact e
   · intro k
     rcases List.mem_cons.1 ((h t).2 (by simp [k])) with e | e
     · subst e; exact absurd k (hn y1)
     · exact e
theorem Piled.done (hc : Ord3 c) {l out : List α} (he : ∀ a ∈ l, ∀ b ∈ l, c a b = 0 → a = b) (h : Piled c z l out []) : out = setL c l :=
 sorted_uniq hc h.sorted (setL_sorted hc he) fun t => by
   rw [setL_mem hc he, ← h.mem t]; simp
end
open Go.ChangeShapes Go.WideShapes Go.ChangeAt Go.RowKit
structure TV where
 t : Tm
 a : Option Addr
 c : Nat
def TV.cs (x : TV) : List Value := [.int .i64 x.t.kind, .int .i64 x.t.n, .string x.t.s, .slice x.a 0 x.c]
def tv0 : TV := ⟨⟨0, 0, ⟨#[]⟩, []⟩, none, 0⟩
def cTV (x y : TV) : Int := cmpT 3 x.t y.t
def PRow (cur : Array Value) (xs : List TV) : Prop := ∀ k, k < xs.length → ∀ b, b < 4 → cur[k * 4 + b]? = (atL tv0 xs k).cs[b]?
theorem PRow.size {cur : Array Value} {xs : List TV} (h : PRow cur xs) {k : Nat} (hk : k < xs.length) : k * 4 + 3 < cur.size := by
 have := h k hk 3 (by omega)
 rcases Nat.lt_or_ge (k * 4 + 3) cur.size with h1 | h1
 · exact h1
 · rw [Array.getElem?_eq_none h1] at this; cases this
theorem PRow.take {cur : Array Value} {xs : List TV} (h : PRow cur xs) (n : Nat) : PRow cur (xs.take n) := by
 intro k hk b hb
 rw [List.length_take] at hk
 rw [h k (by omega) b hb]
 congr 2
 rw [atL_get (by omega), atL_get (by rw [List.length_take]; omega), List.getElem_take]
def PAt (w : World) (P G : Nat) (xs : List TV) (c : Nat) : Prop := Blk w P #[.slice (some ⟨G, 0, none⟩) xs.length c] ∧ ∃ cur, Blk w G cur ∧ PRow cur xs
def PRd (w : World) (B d : Nat) (xs : List TV) : Prop := ∀ x ∈ xs, RTm w B d x.t x.cs
theorem PRd.below {w w' : World} {B C d : Nat} {xs : List TV} (h : PRd w B d xs) (hb : Below C w w') (hB : B ≤ C) : PRd w' B d xs := fun x hx => (h x hx).below hb hB
open Go.ChangeShapes Go.WideShapes Go.ChangeAt Go.RowKit
theorem PAt.later {w w' : World} {P G c : Nat} {xs : List TV} (h : PAt w P G xs c) (hb : Below w.heap.size w w') : PAt w' P G xs c := by
 obtain ⟨hP, cur, hG, hr⟩ := h
 exact ⟨hP.later hb, cur, hG.later hb, hr⟩
theorem PAt.exc {w w' : World} {P G c : Nat} {xs ys : List TV} (h : PAt w P G xs c) (he : Exc G w w') (hPG : P ≠ G) (hl : ys.length = xs.length) (hc : ∃ cur', Blk w' G cur' ∧ PRow cur' ys) : PAt w' P G ys c := by
 obtain ⟨hP, _⟩ := h
 exact ⟨by rw [hl]; exact he.blk hPG hP, hc⟩
theorem PAt.lt {w : World} {P G c : Nat} {xs : List TV} (h : PAt w P G xs c) : G ≤ w.heap.size := by
 obtain ⟨_, cur, hG, _⟩ := h
 exact Nat.le_of_lt hG.lt
open Go.ChangeShapes Go.WideShapes Go.ChangeAt Go.RowKit
open Go.ChangeShapes Go.WideShapes Go.ChangeAt Go.RowKit
abbrev emptyS : ByteArray := ⟨#[]⟩
def noT : Tm := ⟨0, 0, emptyS, []⟩
open Go.ChangeShapes Go.WideShapes Go.ChangeAt Go.RowKit
structure TmOwn (d base : Nat) (w : World) (t : Tm) (A : Option Addr) (c : Nat) : Prop where
 own : OwnR (TmR d) 44 w base 0 (.slice A t.l.length c) t.l
 k : I64 t.kind
 n : I64 t.n
 s : t.s.size ≤ 140737488351232
 len : t.l.length ≤ 1000000
section
variable {d base B : Nat} {w w' : World} {t : Tm} {A : Option Addr} {c : Nat}
theorem TmOwn.rtm (h : TmOwn d base w t A c) : RTm w w.heap.size (d + 1) t [.int .i64 t.kind, .int .i64 t.n, .string t.s, .slice A t.l.length c] := by
 obtain ⟨A3, c3, e3, r1, r2, r3⟩ := h.own.reads (Nat.zero_le _) (by have := h.len; show t.l.length * (8 * 4) ≤ _; omega)
 simp only [Value.slice.injEq] at e3
 obtain ⟨rfl, _, rfl⟩ := e3
 exact ⟨A, c, rfl, r1, ⟨by have := h.len; omega, r2.2⟩, h.s, h.k, h.n, r3⟩
theorem TmOwn.later (h : TmOwn d base w t A c) (hb : Below w.heap.size w w') : TmOwn d base w' t A c := ⟨h.own.later hb (Nat.zero_le _), h.k, h.n, h.s, h.len⟩
theorem TmOwn.far (h : TmOwn d base w t A c) {g i : Nat} (hg : g < base) (u : Value) : TmOwn d base (w.setCell ⟨g, i, none⟩ u) t A c := ⟨h.own.far hg (Nat.zero_le _) u, h.k, h.n, h.s, h.len⟩
theorem OwnR.lower {α : Type} {R : Reader α} {e : TypeId} {v : Value} {xs : List α} {b0 : Nat} (h : OwnR R e w base B v xs) (hb : b0 ≤ base) : OwnR R e w b0 B v xs := by
 obtain ⟨cells, h, hf⟩ := h
 refine ⟨cells, ⟨h.1, ?_⟩, hf⟩
 rcases h.2 with h2 | ⟨g, cap, cur, hv, hg, r⟩
 · exact .inl h2
 · exact .inr ⟨g, cap, cur, hv, Nat.le_trans hb hg, r⟩
theorem TmOwn.lower (h : TmOwn d base w t A c) {b0 : Nat} (hb : b0 ≤ base) : TmOwn d b0 w t A c := ⟨h.own.lower hb, h.k, h.n, h.s, h.len⟩
theorem TmOwn.put4 (h : TmOwn d base w t A c) {g : Nat} (hg : g < base) (v0 v1 v2 v3 : Value) : TmOwn d base ((((w.setCell ⟨g, 0, none⟩ v0).setCell ⟨g, 1, none⟩ v1).setCell ⟨g, 2, none⟩ v2).setCell ⟨g, 3, none⟩ v3) t A c := (((h.far hg v0).far hg v1).far hg v2).far hg v3
theorem leaf_rd {x : Tm} {vs : List Value} (hx : Leaf x) (h : RTm w B d x vs) : RTm w 0 d x vs := by
 cases d with
 | zero => exact h.elim
 | succ d =>
   obtain ⟨A, c, e, h1, h2, h3, h4, h5, _⟩ := h
   have h0 : x.l.length = 0 := by rw [show x.l = [] from hx]; rfl
   exact ⟨A, c, e, h1, h2, h3, h4, h5, fun hn => absurd hn (by omega)⟩
theorem OwnR.leaves {e : TypeId} {v : Value} {xs : List Tm} (h : OwnR (TmR d) e w base B v xs) (hx : ∀ x ∈ xs, Leaf x) : OwnR (TmR d) e w base 0 v xs := by
 obtain ⟨cells, h, hf⟩ := h
 exact ⟨cells, h, hf.1, fun i hi => leaf_rd (hx _ (List.getElem_mem hi)) (hf.2 i hi)⟩
theorem TmOwn.flat {k n : Int} {s : ByteArray} (hk : I64 k) (hn : I64 n) (hs : s.size ≤ 140737488351232) : TmOwn d base w ⟨k, n, s, []⟩ none 0 := ⟨OwnR.nil _ _ _ _ _, hk, hn, hs, by simp⟩
theorem TmOwn.no : TmOwn d base w noT none 0 := TmOwn.flat (by simp [I64]) (by simp [I64]) (by decide)
end
theorem put4b {w : World} {g : Nat} {a b c d : Value} (h : Blk w g #[a, b, c, d]) (v0 v1 v2 v3 : Value) :
   Blk ((((w.setCell ⟨g, 0, none⟩ v0).setCell ⟨g, 1, none⟩ v1).setCell ⟨g, 2, none⟩ v2).setCell ⟨g, 3, none⟩ v3) g #[v0, v1, v2, v3] := (((h.set_ 0 v0).set_ 1 v1).set_ 2 v2).set_ 3 v3
theorem put4u {w w2 : World} {B g : Nat} (h : Below B w w2) (hg : B ≤ g) (v0 v1 v2 v3 : Value) :
   Below B w ((((w2.setCell ⟨g, 0, none⟩ v0).setCell ⟨g, 1, none⟩ v1).setCell ⟨g, 2, none⟩ v2).setCell ⟨g, 3, none⟩ v3) :=
 (((h.setCell (p := ⟨g, 0, none⟩) hg v0).setCell (p := ⟨g, 1, none⟩) hg v1).setCell (p := ⟨g, 2, none⟩) hg v2).setCell (p := ⟨g, 3, none⟩) hg v3
abbrev zero4 : Array Value := #[.int .i64 0, .int .i64 0, .string ⟨#[]⟩, .slice none 0 0]
def RestInv (d B P G R cp n : Nat) (l : List Tm) (w : World) (out : List Tm) (xs : List TV) (x : TV) (rest : List TV) : Prop :=
 (Piled (cmpT 3) noT l out (xs.map TV.t) ∧ xs.Perm (x :: rest) ∧ rest.length = n ∧ Heap cTV (atL tv0 rest) 0 n ∧ (∀ b ∈ rest, cTV x b ≤ 0)) ∧ PRd w B d rest ∧ PAt w P G rest cp ∧ Blk w R zero4
theorem RestInv.later {d B P G R cp n : Nat} {l : List Tm} {w w' : World} {out : List Tm} {xs : List TV} {x : TV} {rest : List TV} (h : RestInv d B P G R cp n l w out xs x rest) (hb : Below w.heap.size w w') (hB : B ≤ w.heap.size) : RestInv d B P G R cp n l w' out xs x rest :=
 ⟨h.1, h.2.1.below hb hB, h.2.2.1.later hb, h.2.2.2.later hb⟩
end Go.Proofs.YtkdonhhbpacgmaaGreat
