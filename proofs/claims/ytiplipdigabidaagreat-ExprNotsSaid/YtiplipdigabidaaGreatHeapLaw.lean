/- The order of terms is an order. -/
import Derived.Test.YtiplipdigabidaaGreatTerm5

set_option linter.unusedVariables false
set_option linter.unusedSimpArgs false
namespace Go.Proofs.YtiplipdigabidaaGreat

theorem cmpI_anti (x y : Int) : cmpI x y = -cmpI y x := by unfold cmpI; split <;> split <;> omega
theorem cmpI_rng (x y : Int) : cmpI x y = -1 ∨ cmpI x y = 0 ∨ cmpI x y = 1 := by unfold cmpI; split <;> (try split) <;> simp
theorem cmpI_zero {x y : Int} : cmpI x y = 0 ↔ x = y := by unfold cmpI; split <;> (try split) <;> omega
theorem cmpI_neg {x y : Int} : cmpI x y < 0 ↔ x < y := by unfold cmpI; split <;> (try split) <;> omega
theorem cmpS_anti (x y : List UInt8) : cmpS x y = -cmpS y x := by
  unfold cmpS
  by_cases h1 : x < y
  · rw [if_pos h1, if_neg (List.lt_asymm h1), if_pos h1]
  · by_cases h2 : y < x
    · rw [if_neg h1, if_pos h2, if_pos h2]; rfl
    · rw [if_neg h1, if_neg h2, if_neg h2, if_neg h1]; rfl
theorem cmpS_zero {x y : List UInt8} : cmpS x y = 0 ↔ x = y := by
  constructor
  · intro h
    unfold cmpS at h
    by_cases h1 : x < y
    · rw [if_pos h1] at h; omega
    · by_cases h2 : y < x
      · rw [if_neg h1, if_pos h2] at h; omega
      · exact List.le_antisymm (List.not_lt.1 h2) (List.not_lt.1 h1)
  · rintro rfl
    unfold cmpS
    rw [if_neg (List.lt_irrefl _), if_neg (List.lt_irrefl _)]
theorem cmpS_neg {x y : List UInt8} : cmpS x y < 0 ↔ x < y := by
  unfold cmpS
  by_cases h1 : x < y
  · simp [h1]
  · by_cases h2 : y < x
    · rw [if_neg h1, if_pos h2]; simp [h1]
    · rw [if_neg h1, if_neg h2]; simp [h1]

/-- An order, as numbers. -/
structure Ord3 {α : Type} (c : α → α → Int) : Prop where
  anti : ∀ x y, c x y = -c y x
  trans : ∀ x y z, c x y ≤ 0 → c y z ≤ 0 → c x z ≤ 0

section
variable {α : Type} {c : α → α → Int}
theorem Ord3.self (h : Ord3 c) (x : α) : c x x = 0 := by have := h.anti x x; omega
theorem Ord3.lt_le (h : Ord3 c) {x y z : α} (h1 : c x y < 0) (h2 : c y z ≤ 0) : c x z < 0 := by
  have t := h.trans x y z (by omega) h2
  rcases Int.lt_or_eq_of_le t with t | t
  · exact t
  · have a := h.anti x z
    have b := h.trans y z x h2 (by omega)
    have d := h.anti x y
    omega
theorem Ord3.le_lt (h : Ord3 c) {x y z : α} (h1 : c x y ≤ 0) (h2 : c y z < 0) : c x z < 0 := by
  have t := h.trans x y z h1 (by omega)
  rcases Int.lt_or_eq_of_le t with t | t
  · exact t
  · have a := h.anti x z
    have b := h.trans z x y (by omega) h1
    have d := h.anti y z
    omega
theorem Ord3.zero_l (h : Ord3 c) {x y z : α} (h1 : c x y = 0) : c x z = c y z ∨ (c x z < 0 ∧ c y z < 0) ∨ (0 < c x z ∧ 0 < c y z) := by
  have h1' := h.anti x y
  rcases Int.lt_trichotomy (c y z) 0 with k | k | k
  · exact .inr (.inl ⟨h.le_lt (by omega) k, k⟩)
  · left
    have a := h.trans x y z (by omega) (by omega)
    have b := h.trans z y x (by have := h.anti z y; omega) (by omega)
    have d := h.anti x z
    omega
  · right; right
    have a := h.anti y z
    have b := h.anti x z
    have d := h.lt_le (x := z) (y := y) (z := x) (by omega) (by omega)
    omega
end

theorem cmpI_ord : Ord3 cmpI := ⟨cmpI_anti, fun x y z h k => by unfold cmpI at *; split at h <;> split at k <;> (try split at h) <;> (try split at k) <;> split <;> (try split) <;> omega⟩
theorem cmpS_le {x y : List UInt8} : cmpS x y ≤ 0 ↔ x ≤ y := by
  have h := cmpS_anti x y
  have k := @cmpS_neg y x
  rw [show (cmpS x y ≤ 0) ↔ ¬ (cmpS y x < 0) by omega, k]
  exact List.not_lt
theorem cmpS_ord : Ord3 cmpS := ⟨cmpS_anti, fun x y z h k => by rw [cmpS_le] at *; exact List.le_trans h k⟩

theorem or3_anti {x y z x' y' z' : Int} (h1 : x = -x') (h2 : y = -y') (h3 : z = -z') : or3 x y z = -or3 x' y' z' := by
  unfold or3; split <;> split <;> (try split) <;> (try split) <;> omega
theorem or3_zero {x y z : Int} : or3 x y z = 0 ↔ x = 0 ∧ y = 0 ∧ z = 0 := by
  unfold or3; split <;> (try split) <;> omega

/-- One order, then another one. -/
def thenC {α : Type} (c d : α → α → Int) (x y : α) : Int := if c x y = 0 then d x y else c x y
theorem Ord3.andThen {α : Type} {c d : α → α → Int} (hc : Ord3 c) (hd : Ord3 d) : Ord3 (thenC c d) := by
  refine ⟨fun x y => ?_, fun x y z h k => ?_⟩
  · unfold thenC
    have h1 := hc.anti x y
    have h2 := hd.anti x y
    split <;> split <;> omega
  · unfold thenC at *
    by_cases h1 : c x y = 0
    · rw [if_pos h1] at h
      by_cases h2 : c y z = 0
      · rw [if_pos h2] at k
        have e : c x z = 0 := by rcases hc.zero_l (z := z) h1 with e | e | e <;> omega
        rw [if_pos e]
        exact hd.trans x y z h k
      · rw [if_neg h2] at k
        have e : c x z < 0 := by rcases hc.zero_l (z := z) h1 with e | e | e <;> omega
        rw [if_neg (by omega)]; omega
    · rw [if_neg h1] at h
      have h' : c x y < 0 := by omega
      by_cases h2 : c y z = 0
      · have e := hc.lt_le h' (by omega : c y z ≤ 0)
        rw [if_neg (by omega)]; omega
      · rw [if_neg h2] at k
        have e := hc.lt_le h' k
        rw [if_neg (by omega)]; omega
theorem Ord3.by {α β : Type} {c : β → β → Int} (hc : Ord3 c) (f : α → β) : Ord3 (fun x y => c (f x) (f y)) := ⟨fun _ _ => hc.anti _ _, fun _ _ _ => hc.trans _ _ _⟩

theorem cmp3_ord : Ord3 cmp3 := by
  have h : cmp3 = thenC (fun a b => cmpI a.kind b.kind) (thenC (fun a b => cmpI a.n b.n) (fun a b => cmpS (bs a.s) (bs b.s))) := by
    funext a b; rfl
  rw [h]
  exact (cmpI_ord.by Tm.kind).andThen ((cmpI_ord.by Tm.n).andThen (cmpS_ord.by fun t : Tm => bs t.s))

theorem cmpL_ord {f : Tm → Tm → Int} (hf : Ord3 f) : Ord3 (cmpL f) := by
  refine ⟨?_, ?_⟩
  · intro x
    induction x with
    | nil => intro y; cases y <;> simp [cmpL]
    | cons a x ih =>
      intro y
      cases y with
      | nil => simp [cmpL]
      | cons b y =>
        have h := hf.anti a b
        have := ih y
        simp only [cmpL]
        split <;> split <;> omega
  · intro x
    induction x with
    | nil => intro y z _ _; cases z <;> simp [cmpL]
    | cons a x ih =>
      intro y z h k
      cases y with
      | nil => simp [cmpL] at h
      | cons b y =>
        cases z with
        | nil => simp [cmpL] at k
        | cons d z =>
          have key := (hf.andThen (c := f) (d := fun _ _ => 0) ⟨fun _ _ => rfl, fun _ _ _ _ _ => by simp⟩)
          simp only [cmpL] at *
          by_cases h1 : f a b = 0
          · rw [if_pos h1] at h
            by_cases h2 : f b d = 0
            · rw [if_pos h2] at k
              have e : f a d = 0 := by rcases hf.zero_l (z := d) h1 with e | e | e <;> omega
              rw [if_pos e]
              exact ih y z h k
            · rw [if_neg h2] at k
              have e : f a d < 0 := by rcases hf.zero_l (z := d) h1 with e | e | e <;> omega
              rw [if_neg (by omega)]; omega
          · rw [if_neg h1] at h
            have e : f a d < 0 := by
              by_cases h2 : f b d = 0
              · exact hf.lt_le (y := b) (by omega) (by omega)
              · rw [if_neg h2] at k; exact hf.lt_le (y := b) (by omega) k
            rw [if_neg (by omega)]; omega

theorem cmpT_ord : ∀ d, Ord3 (cmpT d)
  | 0 => by
    have h : cmpT 0 = cmp3 := by funext a b; rfl
    rw [h]; exact cmp3_ord
  | d + 1 => by
    have h : cmpT (d + 1) = thenC cmp3 (fun a b => cmpL (cmpT d) a.l b.l) := by funext a b; rfl
    rw [h]
    exact cmp3_ord.andThen ((cmpL_ord (cmpT_ord d)).by Tm.l)

theorem bs_inj {a b : ByteArray} (h : bs a = bs b) : a = b := by
  have : a.data.toList = b.data.toList := h
  cases a; cases b
  simp only [ByteArray.mk.injEq]
  exact Array.toList_inj.1 this

theorem cmp3_zero {a b : Tm} : cmp3 a b = 0 ↔ a.kind = b.kind ∧ a.n = b.n ∧ a.s = b.s := by
  unfold cmp3
  rw [or3_zero, cmpI_zero, cmpI_zero, cmpS_zero]
  exact ⟨fun ⟨h, k, l⟩ => ⟨h, k, bs_inj l⟩, fun ⟨h, k, l⟩ => ⟨h, k, by rw [l]⟩⟩

/-- No list in it. -/
def Leaf (t : Tm) : Prop := t.l = []
/-- At most lists of leaves. -/
def Two (t : Tm) : Prop := ∀ x ∈ t.l, Leaf x

theorem leaf_eq {d : Nat} {a b : Tm} (ha : Leaf a) (hb : Leaf b) (h : cmpT d a b = 0) : a = b := by
  have h0 : cmp3 a b = 0 := by
    cases d with
    | zero => exact h
    | succ d =>
      unfold cmpT at h
      by_cases k : cmp3 a b = 0
      · exact k
      · rw [if_neg k] at h; exact absurd h k
  obtain ⟨h1, h2, h3⟩ := cmp3_zero.1 h0
  clear h0 h
  cases a; cases b
  unfold Leaf at ha hb
  simp only at *
  subst h1 h2 h3 ha hb
  rfl
theorem leafs_eq {d : Nat} : ∀ {a b : List Tm}, (∀ x ∈ a, Leaf x) → (∀ x ∈ b, Leaf x) → cmpL (cmpT d) a b = 0 → a = b
  | [], [], _, _, _ => rfl
  | [], _ :: _, _, _, h => by simp [cmpL] at h
  | _ :: _, [], _, _, h => by simp [cmpL] at h
  | x :: a, y :: b, ha, hb, h => by
    simp only [cmpL] at h
    by_cases k : cmpT d x y = 0
    · rw [if_pos k] at h
      rw [leaf_eq (ha x (by simp)) (hb y (by simp)) k, leafs_eq (fun z hz => ha z (by simp [hz])) (fun z hz => hb z (by simp [hz])) h]
    · rw [if_neg k] at h; exact absurd h k
theorem two_eq {d : Nat} {a b : Tm} (ha : Two a) (hb : Two b) (h : cmpT (d + 1) a b = 0) : a = b := by
  unfold cmpT at h
  by_cases k : cmp3 a b = 0
  · rw [if_pos k] at h
    obtain ⟨h1, h2, h3⟩ := cmp3_zero.1 k
    have h4 := leafs_eq ha hb h
    clear h k ha hb
    cases a; cases b
    simp only at *
    subst h1 h2 h3 h4
    rfl
  · rw [if_neg k] at h; exact absurd h k

theorem flatMay_leaf {t : Tm} (h : flatMay t = true) : Leaf t := by
  unfold flatMay at h
  rw [Bool.and_eq_true, decide_eq_true_eq] at h
  exact List.eq_nil_of_length_eq_zero h.1
end Go.Proofs.YtiplipdigabidaaGreat

/- A heap in a list: sinking, the least one; a set made of a list. Plain. -/
set_option linter.unusedVariables false
set_option linter.unusedSimpArgs false
namespace Go.Proofs.YtiplipdigabidaaGreat

section
variable {α : Type} (z : α)
/-- The element at a place. -/
def atL (xs : List α) (k : Nat) : α := xs.getD k z
/-- Two places exchanged. -/
def sw (xs : List α) (i j : Nat) : List α := (xs.set i (atL z xs j)).set j (atL z xs i)
variable {z} {xs ys : List α} {i j k n : Nat}
theorem atL_get (h : k < xs.length) : atL z xs k = xs[k] := by simp [atL, h]
theorem atL_some (h : k < xs.length) : xs[k]? = some (atL z xs k) := by rw [atL_get h, List.getElem?_eq_getElem h]
theorem sw_length : (sw z xs i j).length = xs.length := by simp [sw]
theorem at_sw (hi : i < xs.length) (hj : j < xs.length) : atL z (sw z xs i j) k = if k = j then atL z xs i else if k = i then atL z xs j else atL z xs k := by
  by_cases hk : k < xs.length
  · rw [atL_get (by rw [sw_length]; exact hk)]
    simp only [sw, List.getElem_set]
    by_cases h1 : j = k
    · rw [if_pos h1, if_pos h1.symm]
    · rw [if_neg h1, if_neg (Ne.symm h1)]
      by_cases h2 : i = k
      · rw [if_pos h2, if_pos h2.symm]
      · rw [if_neg h2, if_neg (Ne.symm h2), atL_get hk]
  · rw [if_neg (by omega), if_neg (by omega)]
    unfold atL
    rw [List.getD_eq_getElem?_getD, List.getD_eq_getElem?_getD, List.getElem?_eq_none (by rw [sw_length]; omega), List.getElem?_eq_none (by omega)]
theorem sw_perm (hi : i < xs.length) (hj : j < xs.length) : (sw z xs i j).Perm xs := by
  unfold sw
  rw [atL_get hi, atL_get hj]
  exact List.set_set_perm hi hj
end

section
variable {α : Type} {c : α → α → Int} {z : α}
/-- From place i0 on each parent is at most its children. -/
def Heap (c : α → α → Int) (g : Nat → α) (i0 n : Nat) : Prop := ∀ k, 0 < k → k < n → i0 ≤ (k - 1) / 2 → c (g ((k - 1) / 2)) (g k) ≤ 0

theorem Heap.least (hc : Ord3 c) {g : Nat → α} {n : Nat} (h : Heap c g 0 n) : ∀ k, k < n → c (g 0) (g k) ≤ 0 := by
  intro k
  induction k using Nat.strongRecOn with
  | ind k ih =>
    intro hk
    rcases Nat.eq_zero_or_pos k with h0 | h0
    · subst h0; have := hc.self (g 0); omega
    · exact hc.trans _ _ _ (ih ((k - 1) / 2) (by omega) (by omega)) (h k h0 hk (Nat.zero_le _))

/-- A heap from i0 on but for place i, whose element may have to sink. -/
structure Sunk (c : α → α → Int) (z : α) (xs0 xs : List α) (i0 i n : Nat) : Prop where
  perm : xs.Perm xs0
  out : ∀ k, n ≤ k → atL z xs k = atL z xs0 k
  ge : i0 ≤ i
  path : i0 < i → i0 ≤ (i - 1) / 2
  heap : ∀ k, 0 < k → k < n → i0 ≤ (k - 1) / 2 → (k - 1) / 2 ≠ i → c (atL z xs ((k - 1) / 2)) (atL z xs k) ≤ 0
  up : ∀ k, 0 < k → k < n → (k - 1) / 2 = i → i0 < i → c (atL z xs ((i - 1) / 2)) (atL z xs k) ≤ 0

theorem Sunk.start {xs : List α} {i0 n : Nat} (h : Heap c (atL z xs) (i0 + 1) n) : Sunk c z xs xs i0 i0 n :=
  ⟨List.Perm.refl _, fun _ _ => rfl, Nat.le_refl _, fun h => by omega, fun k h0 h1 h2 h3 => h k h0 h1 (by omega), fun _ _ _ _ h => by omega⟩

theorem Sunk.step (hc : Ord3 c) {xs0 xs : List α} {i0 i n j : Nat} (h : Sunk c z xs0 xs i0 i n) (hn : n ≤ xs.length) (hj : j < n) (hij : j = 2 * i + 1 ∨ j = 2 * i + 2)
    (hmin : ∀ k, k < n → (k = 2 * i + 1 ∨ k = 2 * i + 2) → c (atL z xs j) (atL z xs k) ≤ 0) (hlt : c (atL z xs j) (atL z xs i) < 0) : Sunk c z xs0 (sw z xs i j) i0 j n := by
  have hil : i < xs.length := by omega
  have hjl : j < xs.length := by omega
  have hpj : (j - 1) / 2 = i := by omega
  have hge := h.ge
  refine ⟨(sw_perm hil hjl).trans h.perm, fun k hk => ?_, by omega, fun _ => by omega, fun k h0 h1 h2 h3 => ?_, fun k h0 h1 h2 h3 => ?_⟩
  · rw [at_sw hil hjl, if_neg (by omega), if_neg (by omega), h.out k hk]
  · rw [at_sw hil hjl, at_sw hil hjl, if_neg h3]
    by_cases hp : (k - 1) / 2 = i
    · rw [if_pos hp]
      by_cases hk : k = j
      · rw [if_pos hk]; omega
      · rw [if_neg hk, if_neg (by omega)]
        exact hmin k h1 (by omega)
    · rw [if_neg hp, if_neg (by intro e; subst e; exact hp hpj)]
      by_cases hk : k = i
      · rw [if_pos hk]
        subst hk
        exact h.up j (by omega) hj hpj (by omega)
      · rw [if_neg hk]
        exact h.heap k h0 h1 h2 hp
  · rw [at_sw hil hjl, at_sw hil hjl, hpj, if_neg (by omega), if_pos rfl, if_neg (by omega), if_neg (by omega)]
    have := h.heap k h0 h1 (by omega) (by omega)
    rw [h2] at this
    exact this

theorem Sunk.stop {xs0 xs : List α} {i0 i n : Nat} (h : Sunk c z xs0 xs i0 i n) (hmin : ∀ k, k < n → (k = 2 * i + 1 ∨ k = 2 * i + 2) → c (atL z xs i) (atL z xs k) ≤ 0) : Heap c (atL z xs) i0 n := by
  intro k h0 h1 h2
  by_cases hp : (k - 1) / 2 = i
  · rw [hp]; exact hmin k h1 (by omega)
  · exact h.heap k h0 h1 h2 hp

/-- What a sinking leaves. -/
structure Sank (c : α → α → Int) (z : α) (xs0 xs : List α) (i0 n : Nat) : Prop where
  perm : xs.Perm xs0
  out : ∀ k, n ≤ k → atL z xs k = atL z xs0 k
  heap : Heap c (atL z xs) i0 n
theorem Sunk.sank {xs0 xs : List α} {i0 i n : Nat} (h : Sunk c z xs0 xs i0 i n) (hmin : ∀ k, k < n → (k = 2 * i + 1 ∨ k = 2 * i + 2) → c (atL z xs i) (atL z xs k) ≤ 0) : Sank c z xs0 xs i0 n := ⟨h.perm, h.out, h.stop hmin⟩

/-- Behind an exchange of the first and the last one it is a heap from 1 on. -/
theorem Heap.swapped {xs : List α} {n : Nat} (h : Heap c (atL z xs) 0 (n + 1)) (hn : n < xs.length) : Heap c (atL z (sw z xs 0 n)) 1 n := by
  intro k h0 h1 h2
  rw [at_sw (by omega) hn, at_sw (by omega) hn, if_neg (by omega), if_neg (by omega), if_neg (by omega), if_neg (by omega)]
  exact h k h0 (by omega) (Nat.zero_le _)

/-- The least one, and the others as a heap. -/
theorem popped (hc : Ord3 c) {xs zs : List α} {n : Nat} (hx : xs.length = n + 1) (h : Heap c (atL z xs) 0 (n + 1)) (hs : Sank c z (sw z xs 0 n) zs 0 n) :
    zs.length = n + 1 ∧ atL z zs n = atL z xs 0 ∧ xs.Perm (atL z zs n :: zs.take n) ∧ Heap c (atL z (zs.take n)) 0 n ∧ ∀ b ∈ zs.take n, c (atL z zs n) b ≤ 0 := by
  have hl : zs.length = n + 1 := by rw [hs.perm.length_eq, sw_length, hx]
  have h1 : atL z zs n = atL z xs 0 := by
    rw [hs.out n (Nat.le_refl _), at_sw (by omega) (by omega), if_pos rfl]
  have h2 : xs.Perm (atL z zs n :: zs.take n) := by
    have e : zs = zs.take n ++ [atL z zs n] := by
      rw [atL_get (by omega), ← List.take_succ_eq_append_getElem (by omega : n < zs.length), List.take_of_length_le (by omega)]
    have p : xs.Perm zs := ((sw_perm (z := z) (xs := xs) (by omega) (by omega)).symm).trans hs.perm.symm
    refine p.trans ?_
    conv => lhs; rw [e]
    exact List.perm_append_singleton _ _
  refine ⟨hl, h1, h2, ?_, ?_⟩
  · intro k h0 h1 h2
    have e : ∀ m, m < n → atL z (zs.take n) m = atL z zs m := fun m hm => by
      rw [atL_get (by rw [List.length_take]; omega), atL_get (by omega), List.getElem_take]
    rw [e _ (by omega), e _ h1]
    exact hs.heap k h0 h1 h2
  · intro b hb
    rw [h1]
    have hb' : b ∈ xs := h2.symm.subset (List.mem_cons_of_mem _ hb)
    obtain ⟨k, hk, rfl⟩ := List.getElem_of_mem hb'
    rw [← atL_get hk]
    exact h.least hc k (by omega)

/-- Of a list's elements some lie in order, the others in a heap. -/
structure Piled (c : α → α → Int) (z : α) (l out xs : List α) : Prop where
  heap : Heap c (atL z xs) 0 xs.length
  sorted : out.Pairwise (fun a b => c a b < 0)
  le : ∀ a ∈ out, ∀ b ∈ xs, c a b ≤ 0
  mem : ∀ t, (t ∈ out ∨ t ∈ xs) ↔ t ∈ l
  len : out.length + xs.length ≤ l.length

theorem Piled.more (hc : Ord3 c) {l out xs rest : List α} {x : α} (h : Piled c z l out xs) (hp : xs.Perm (x :: rest)) (hh : Heap c (atL z rest) 0 rest.length) (hm : ∀ b ∈ rest, c x b ≤ 0)
    (hlast : ∀ y, out.getLast? = some y → c y x ≠ 0) : Piled c z l (out ++ [x]) rest := by
  have hx : x ∈ xs := hp.symm.subset (by simp)
  refine ⟨hh, ?_, ?_, fun t => ?_, ?_⟩
  · rw [List.pairwise_append]
    refine ⟨h.sorted, by simp, fun a ha b hb => ?_⟩
    obtain rfl : b = x := by simpa using hb
    rcases List.eq_nil_or_concat out with e | ⟨o, y, e⟩
    · subst e; simp at ha
    · rw [List.concat_eq_append] at e
      subst e
      have hy : c y b < 0 := by
        have := h.le y (by simp) b hx
        have := hlast y (by simp)
        omega
      rcases List.mem_append.1 ha with ha | ha
      · have := (List.pairwise_append.1 h.sorted).2.2 a ha y (by simp)
        exact hc.lt_le this (by omega)
      · obtain rfl : a = y := by simpa using ha
        exact hy
  · intro a ha b hb
    rcases List.mem_append.1 ha with ha | ha
    · exact h.le a ha b (hp.symm.subset (List.mem_cons_of_mem _ hb))
    · obtain rfl : a = x := by simpa using ha
      exact hm b hb
  · rw [← h.mem t, hp.mem_iff, List.mem_append, List.mem_singleton, List.mem_cons, or_assoc]
  · have := h.len; have := hp.length_eq
    simp only [List.length_append, List.length_cons, List.length_nil] at *; omega

theorem Piled.skip {l out xs rest : List α} {x y : α} (h : Piled c z l out xs) (hp : xs.Perm (x :: rest)) (hh : Heap c (atL z rest) 0 rest.length) (hlast : out.getLast? = some y) (he : y = x) : Piled c z l out rest := by
  subst he
  have hy : y ∈ out := List.mem_of_getLast? hlast
  refine ⟨hh, h.sorted, fun a ha b hb => h.le a ha b (hp.symm.subset (List.mem_cons_of_mem _ hb)), fun t => ?_, ?_⟩
  · rw [← h.mem t, hp.mem_iff, List.mem_cons]
    constructor
    · rintro (k | k)
      · exact .inl k
      · exact .inr (.inr k)
    · rintro (k | k | k)
      · exact .inl k
      · subst k; exact .inl hy
      · exact .inr k
  · have := h.len; have := hp.length_eq
    simp only [List.length_cons] at *; omega

/-- A term more, in its place. -/
def insL (c : α → α → Int) (t : α) : List α → List α
  | [] => [t]
  | x :: xs => if c x t < 0 then x :: insL c t xs else if c x t = 0 then x :: xs else t :: x :: xs
/-- The set of a list. -/
def setL (c : α → α → Int) (l : List α) : List α := l.foldl (fun out t => insL c t out) []

theorem insL_mem {t : α} : ∀ {xs : List α}, (∀ x ∈ xs, c x t = 0 → x = t) → ∀ u, u ∈ insL c t xs ↔ u = t ∨ u ∈ xs
  | [], _, u => by simp [insL]
  | x :: xs, h, u => by
    unfold insL
    split
    · rw [List.mem_cons, insL_mem (fun y hy => h y (by simp [hy])), List.mem_cons]
      constructor
      · rintro (k | k | k)
        · exact .inr (.inl k)
        · exact .inl k
        · exact .inr (.inr k)
      · rintro (k | k | k)
        · exact .inr (.inl k)
        · exact .inl k
        · exact .inr (.inr k)
    · split
      · rename_i h0
        have := h x (by simp) h0
        subst this
        simp
      · simp
theorem insL_sorted (hc : Ord3 c) {t : α} : ∀ {xs : List α}, xs.Pairwise (fun a b => c a b < 0) → (∀ x ∈ xs, c x t = 0 → x = t) → (insL c t xs).Pairwise (fun a b => c a b < 0)
  | [], _, _ => by simp [insL]
  | x :: xs, h, he => by
    obtain ⟨h1, h2⟩ := List.pairwise_cons.1 h
    unfold insL
    split
    · rename_i hlt
      rw [List.pairwise_cons]
      refine ⟨fun a ha => ?_, insL_sorted hc h2 (fun y hy => he y (by simp [hy]))⟩
      rcases (insL_mem (fun y hy => he y (by simp [hy])) a).1 ha with e | e
      · rw [e]; exact hlt
      · exact h1 a e
    · split
      · exact h
      · rename_i h3 h4
        rw [List.pairwise_cons]
        refine ⟨fun a ha => ?_, h⟩
        have ht : c t x < 0 := by have := hc.anti x t; omega
        rcases List.mem_cons.1 ha with e | e
        · rw [e]; exact ht
        · exact hc.lt_le ht (by have := h1 a e; omega)

theorem setL_aux (hc : Ord3 c) : ∀ (l out : List α), (∀ a, (a ∈ out ∨ a ∈ l) → ∀ b, (b ∈ out ∨ b ∈ l) → c a b = 0 → a = b) → out.Pairwise (fun a b => c a b < 0) →
    (l.foldl (fun out t => insL c t out) out).Pairwise (fun a b => c a b < 0) ∧ ∀ t, t ∈ l.foldl (fun out t => insL c t out) out ↔ t ∈ out ∨ t ∈ l
  | [], out, _, h => ⟨h, fun t => by simp⟩
  | x :: l, out, he, h => by
    have hx : ∀ y ∈ out, c y x = 0 → y = x := fun y hy => he y (.inl hy) x (.inr (by simp))
    have hm := insL_mem (c := c) hx
    obtain ⟨h1, h2⟩ := setL_aux hc l (insL c x out) (fun a ha b hb => by
      refine he a ?_ b ?_
      · rw [hm] at ha
        rcases ha with (k | k) | k
        · exact .inr (by simp [k])
        · exact .inl k
        · exact .inr (by simp [k])
      · rw [hm] at hb
        rcases hb with (k | k) | k
        · exact .inr (by simp [k])
        · exact .inl k
        · exact .inr (by simp [k])) (insL_sorted hc h hx)
    refine ⟨h1, fun t => ?_⟩
    rw [List.foldl_cons, h2, hm, List.mem_cons]
    constructor
    · rintro ((k | k) | k)
      · exact .inr (.inl k)
      · exact .inl k
      · exact .inr (.inr k)
    · rintro (k | k | k)
      · exact .inl (.inr k)
      · exact .inl (.inl k)
      · exact .inr k

theorem setL_sorted (hc : Ord3 c) {l : List α} (he : ∀ a ∈ l, ∀ b ∈ l, c a b = 0 → a = b) : (setL c l).Pairwise (fun a b => c a b < 0) :=
  (setL_aux hc l [] (fun a ha b hb => he a (by simpa using ha) b (by simpa using hb)) (by simp)).1
theorem setL_mem (hc : Ord3 c) {l : List α} (he : ∀ a ∈ l, ∀ b ∈ l, c a b = 0 → a = b) (t : α) : t ∈ setL c l ↔ t ∈ l := by
  have := (setL_aux hc l [] (fun a ha b hb => he a (by simpa using ha) b (by simpa using hb)) (by simp)).2 t
  simpa [setL] using this

theorem sorted_uniq (hc : Ord3 c) : ∀ {xs ys : List α}, xs.Pairwise (fun a b => c a b < 0) → ys.Pairwise (fun a b => c a b < 0) → (∀ t, t ∈ xs ↔ t ∈ ys) → xs = ys
  | [], [], _, _, _ => rfl
  | [], y :: ys, _, _, h => absurd ((h y).2 (by simp)) (by simp)
  | x :: xs, [], _, _, h => absurd ((h x).1 (by simp)) (by simp)
  | x :: xs, y :: ys, hx, hy, h => by
    obtain ⟨x1, x2⟩ := List.pairwise_cons.1 hx
    obtain ⟨y1, y2⟩ := List.pairwise_cons.1 hy
    have e : x = y := by
      rcases List.mem_cons.1 ((h x).1 (by simp)) with e | e
      · exact e
      · rcases List.mem_cons.1 ((h y).2 (by simp)) with e' | e'
        · exact e'.symm
        · have a := y1 x e
          have b := x1 y e'
          have := hc.anti x y
          omega
    subst e
    rw [sorted_uniq hc x2 y2 fun t => ?_]
    have hn : ∀ {zs : List α}, (∀ a ∈ zs, c x a < 0) → x ∉ zs := fun hz hm => by
      have := hz x hm
      have := hc.self x
      omega
    constructor
    · intro k
      rcases List.mem_cons.1 ((h t).1 (by simp [k])) with e | e
      · subst e; exact absurd k (hn x1)
      · exact e
    · intro k
      rcases List.mem_cons.1 ((h t).2 (by simp [k])) with e | e
      · subst e; exact absurd k (hn y1)
      · exact e

theorem Piled.done (hc : Ord3 c) {l out : List α} (he : ∀ a ∈ l, ∀ b ∈ l, c a b = 0 → a = b) (h : Piled c z l out []) : out = setL c l :=
  sorted_uniq hc h.sorted (setL_sorted hc he) fun t => by
    rw [setL_mem hc he, ← h.mem t]; simp
theorem setL_length (hc : Ord3 c) {l : List α} (he : ∀ a ∈ l, ∀ b ∈ l, c a b = 0 → a = b) : (setL c l).length ≤ l.length := by
  have key : ∀ (l out : List α), (l.foldl (fun out t => insL c t out) out).length ≤ out.length + l.length := by
    have one : ∀ (t : α) (xs : List α), (insL c t xs).length ≤ xs.length + 1 := by
      intro t xs
      induction xs with
      | nil => simp [insL]
      | cons x xs ih => unfold insL; split <;> (try split) <;> simp <;> omega
    intro l
    induction l with
    | nil => simp
    | cons x l ih => intro out; have := ih (insL c x out); have := one x out; simp only [List.foldl_cons, List.length_cons]; omega
  simpa [setL] using key l []
/-- A sorted list is its own set. -/
theorem setL_self (hc : Ord3 c) {l : List α} (h : l.Pairwise (fun a b => c a b < 0)) : setL c l = l := by
  have he : ∀ a ∈ l, ∀ b ∈ l, c a b = 0 → a = b := by
    intro a ha b hb h0
    obtain ⟨i, hi, rfl⟩ := List.getElem_of_mem ha
    obtain ⟨j, hj, rfl⟩ := List.getElem_of_mem hb
    rcases Nat.lt_trichotomy i j with k | k | k
    · have := List.pairwise_iff_getElem.1 h i j hi hj k; omega
    · subst k; rfl
    · have := List.pairwise_iff_getElem.1 h j i hj hi k
      have := hc.anti l[i] l[j]
      omega
  exact sorted_uniq hc (setL_sorted hc he) h (setL_mem hc he)
end
end Go.Proofs.YtiplipdigabidaaGreat

