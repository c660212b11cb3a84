/- The order of terms is an order. -/
import Derived.Test.YtiplipdigabidaaTerm4
set_option linter.unusedVariables false
set_option linter.unusedSimpArgs false
namespace Go.Proofs.Ytiplipdigabidaa

theorem cmpI_anti (x y : Int) : cmpI x y = -cmpI y x := by unfold cmpI; split <;> split <;> omega
theorem cmpI_rng (x y : Int) : cmpI x y = -1 ∨ cmpI x y = 0 ∨ cmpI x y = 1 := by unfold cmpI; split <;> (try split) <;> simp
theorem cmpI_zero {x y : Int} : cmpI x y = 0 ↔ x = y := by unfold cmpI; split <;> (try split) <;> omega
theorem cmpI_neg {x y : Int} : cmpI x y < 0 ↔ x < y := by unfold cmpI; split <;> (try split) <;> omega
theorem cmpS_anti (x y : List UInt8) : cmpS x y = -cmpS y x := by
  unfold cmpS
  by_cases h1 : x < y
  · rw [if_pos h1, if_neg (List.lt_asymm h1), if_pos h1]
  · by_cases h2 : y < x
    · rw [if_neg h1, if_pos h2, if_pos h2]; rfl
    · rw [if_neg h1, if_neg h2, if_neg h2, if_neg h1]; rfl
theorem cmpS_zero {x y : List UInt8} : cmpS x y = 0 ↔ x = y := by
  constructor
  · intro h
    unfold cmpS at h
    by_cases h1 : x < y
    · rw [if_pos h1] at h; omega
    · by_cases h2 : y < x
      · rw [if_neg h1, if_pos h2] at h; omega
      · exact List.le_antisymm (List.not_lt.1 h2) (List.not_lt.1 h1)
  · rintro rfl
    unfold cmpS
    rw [if_neg (List.lt_irrefl _), if_neg (List.lt_irrefl _)]
theorem cmpS_neg {x y : List UInt8} : cmpS x y < 0 ↔ x < y := by
  unfold cmpS
  by_cases h1 : x < y
  · simp [h1]
  · by_cases h2 : y < x
    · rw [if_neg h1, if_pos h2]; simp [h1]
    · rw [if_neg h1, if_neg h2]; simp [h1]

/-- An order, as numbers. -/
structure Ord3 {α : Type} (c : α → α → Int) : Prop where
  anti : ∀ x y, c x y = -c y x
  trans : ∀ x y z, c x y ≤ 0 → c y z ≤ 0 → c x z ≤ 0

section
variable {α : Type} {c : α → α → Int}
theorem Ord3.self (h : Ord3 c) (x : α) : c x x = 0 := by have := h.anti x x; omega
theorem Ord3.lt_le (h : Ord3 c) {x y z : α} (h1 : c x y < 0) (h2 : c y z ≤ 0) : c x z < 0 := by
  have t := h.trans x y z (by omega) h2
  rcases Int.lt_or_eq_of_le t with t | t
  · exact t
  · have a := h.anti x z
    have b := h.trans y z x h2 (by omega)
    have d := h.anti x y
    omega
theorem Ord3.le_lt (h : Ord3 c) {x y z : α} (h1 : c x y ≤ 0) (h2 : c y z < 0) : c x z < 0 := by
  have t := h.trans x y z h1 (by omega)
  rcases Int.lt_or_eq_of_le t with t | t
  · exact t
  · have a := h.anti x z
    have b := h.trans z x y (by omega) h1
    have d := h.anti y z
    omega
theorem Ord3.zero_l (h : Ord3 c) {x y z : α} (h1 : c x y = 0) : c x z = c y z ∨ (c x z < 0 ∧ c y z < 0) ∨ (0 < c x z ∧ 0 < c y z) := by
  have h1' := h.anti x y
  rcases Int.lt_trichotomy (c y z) 0 with k | k | k
  · exact .inr (.inl ⟨h.le_lt (by omega) k, k⟩)
  · left
    have a := h.trans x y z (by omega) (by omega)
    have b := h.trans z y x (by have := h.anti z y; omega) (by omega)
    have d := h.anti x z
    omega
  · right; right
    have a := h.anti y z
    have b := h.anti x z
    have d := h.lt_le (x := z) (y := y) (z := x) (by omega) (by omega)
    omega
end

theorem cmpI_ord : Ord3 cmpI := ⟨cmpI_anti, fun x y z h k => by unfold cmpI at *; split at h <;> split at k <;> (try split at h) <;> (try split at k) <;> split <;> (try split) <;> omega⟩
theorem cmpS_le {x y : List UInt8} : cmpS x y ≤ 0 ↔ x ≤ y := by
  have h := cmpS_anti x y
  have k := @cmpS_neg y x
  rw [show (cmpS x y ≤ 0) ↔ ¬ (cmpS y x < 0) by omega, k]
  exact List.not_lt
theorem cmpS_ord : Ord3 cmpS := ⟨cmpS_anti, fun x y z h k => by rw [cmpS_le] at *; exact List.le_trans h k⟩

theorem or3_anti {x y z x' y' z' : Int} (h1 : x = -x') (h2 : y = -y') (h3 : z = -z') : or3 x y z = -or3 x' y' z' := by
  unfold or3; split <;> split <;> (try split) <;> (try split) <;> omega
theorem or3_zero {x y z : Int} : or3 x y z = 0 ↔ x = 0 ∧ y = 0 ∧ z = 0 := by
  unfold or3; split <;> (try split) <;> omega

/-- One order, then another one. -/
def thenC {α : Type} (c d : α → α → Int) (x y : α) : Int := if c x y = 0 then d x y else c x y
theorem Ord3.andThen {α : Type} {c d : α → α → Int} (hc : Ord3 c) (hd : Ord3 d) : Ord3 (thenC c d) := by
  refine ⟨fun x y => ?_, fun x y z h k => ?_⟩
  · unfold thenC
    have h1 := hc.anti x y
    have h2 := hd.anti x y
    split <;> split <;> omega
  · unfold thenC at *
    by_cases h1 : c x y = 0
    · rw [if_pos h1] at h
      by_cases h2 : c y z = 0
      · rw [if_pos h2] at k
        have e : c x z = 0 := by rcases hc.zero_l (z := z) h1 with e | e | e <;> omega
        rw [if_pos e]
        exact hd.trans x y z h k
      · rw [if_neg h2] at k
        have e : c x z < 0 := by rcases hc.zero_l (z := z) h1 with e | e | e <;> omega
        rw [if_neg (by omega)]; omega
    · rw [if_neg h1] at h
      have h' : c x y < 0 := by omega
      by_cases h2 : c y z = 0
      · have e := hc.lt_le h' (by omega : c y z ≤ 0)
        rw [if_neg (by omega)]; omega
      · rw [if_neg h2] at k
        have e := hc.lt_le h' k
        rw [if_neg (by omega)]; omega
theorem Ord3.by {α β : Type} {c : β → β → Int} (hc : Ord3 c) (f : α → β) : Ord3 (fun x y => c (f x) (f y)) := ⟨fun _ _ => hc.anti _ _, fun _ _ _ => hc.trans _ _ _⟩

theorem cmp3_ord : Ord3 cmp3 := by
  have h : cmp3 = thenC (fun a b => cmpI a.kind b.kind) (thenC (fun a b => cmpI a.n b.n) (fun a b => cmpS (bs a.s) (bs b.s))) := by
    funext a b; rfl
  rw [h]
  exact (cmpI_ord.by Tm.kind).andThen ((cmpI_ord.by Tm.n).andThen (cmpS_ord.by fun t : Tm => bs t.s))

theorem cmpL_ord {f : Tm → Tm → Int} (hf : Ord3 f) : Ord3 (cmpL f) := by
  refine ⟨?_, ?_⟩
  · intro x
    induction x with
    | nil => intro y; cases y <;> simp [cmpL]
    | cons a x ih =>
      intro y
      cases y with
      | nil => simp [cmpL]
      | cons b y =>
        have h := hf.anti a b
        have := ih y
        simp only [cmpL]
        split <;> split <;> omega
  · intro x
    induction x with
    | nil => intro y z _ _; cases z <;> simp [cmpL]
    | cons a x ih =>
      intro y z h k
      cases y with
      | nil => simp [cmpL] at h
      | cons b y =>
        cases z with
        | nil => simp [cmpL] at k
        | cons d z =>
          have key := (hf.andThen (c := f) (d := fun _ _ => 0) ⟨fun _ _ => rfl, fun _ _ _ _ _ => by simp⟩)
          simp only [cmpL] at *
          by_cases h1 : f a b = 0
          · rw [if_pos h1] at h
            by_cases h2 : f b d = 0
            · rw [if_pos h2] at k
              have e : f a d = 0 := by rcases hf.zero_l (z := d) h1 with e | e | e <;> omega
              rw [if_pos e]
              exact ih y z h k
            · rw [if_neg h2] at k
              have e : f a d < 0 := by rcases hf.zero_l (z := d) h1 with e | e | e <;> omega
              rw [if_neg (by omega)]; omega
          · rw [if_neg h1] at h
            have e : f a d < 0 := by
              by_cases h2 : f b d = 0
              · exact hf.lt_le (y := b) (by omega) (by omega)
              · rw [if_neg h2] at k; exact hf.lt_le (y := b) (by omega) k
            rw [if_neg (by omega)]; omega

theorem cmpT_ord : ∀ d, Ord3 (cmpT d)
  | 0 => by
    have h : cmpT 0 = cmp3 := by funext a b; rfl
    rw [h]; exact cmp3_ord
  | d + 1 => by
    have h : cmpT (d + 1) = thenC cmp3 (fun a b => cmpL (cmpT d) a.l b.l) := by funext a b; rfl
    rw [h]
    exact cmp3_ord.andThen ((cmpL_ord (cmpT_ord d)).by Tm.l)

theorem bs_inj {a b : ByteArray} (h : bs a = bs b) : a = b := by
  have : a.data.toList = b.data.toList := h
  cases a; cases b
  simp only [ByteArray.mk.injEq]
  exact Array.toList_inj.1 this

theorem cmp3_zero {a b : Tm} : cmp3 a b = 0 ↔ a.kind = b.kind ∧ a.n = b.n ∧ a.s = b.s := by
  unfold cmp3
  rw [or3_zero, cmpI_zero, cmpI_zero, cmpS_zero]
  exact ⟨fun ⟨h, k, l⟩ => ⟨h, k, bs_inj l⟩, fun ⟨h, k, l⟩ => ⟨h, k, by rw [l]⟩⟩

/-- No list in it. -/
def Leaf (t : Tm) : Prop := t.l = []
/-- At most lists of leaves. -/
def Two (t : Tm) : Prop := ∀ x ∈ t.l, Leaf x

theorem leaf_eq {d : Nat} {a b : Tm} (ha : Leaf a) (hb : Leaf b) (h : cmpT d a b = 0) : a = b := by
  have h0 : cmp3 a b = 0 := by
    cases d with
    | zero => exact h
    | succ d =>
      unfold cmpT at h
      by_cases k : cmp3 a b = 0
      · exact k
      · rw [if_neg k] at h; exact absurd h k
  obtain ⟨h1, h2, h3⟩ := cmp3_zero.1 h0
  clear h0 h
  cases a; cases b
  unfold Leaf at ha hb
  simp only at *
  subst h1 h2 h3 ha hb
  rfl
theorem leafs_eq {d : Nat} : ∀ {a b : List Tm}, (∀ x ∈ a, Leaf x) → (∀ x ∈ b, Leaf x) → cmpL (cmpT d) a b = 0 → a = b
  | [], [], _, _, _ => rfl
  | [], _ :: _, _, _, h => by simp [cmpL] at h
  | _ :: _, [], _, _, h => by simp [cmpL] at h
  | x :: a, y :: b, ha, hb, h => by
    simp only [cmpL] at h
    by_cases k : cmpT d x y = 0
    · rw [if_pos k] at h
      rw [leaf_eq (ha x (by simp)) (hb y (by simp)) k, leafs_eq (fun z hz => ha z (by simp [hz])) (fun z hz => hb z (by simp [hz])) h]
    · rw [if_neg k] at h; exact absurd h k
theorem two_eq {d : Nat} {a b : Tm} (ha : Two a) (hb : Two b) (h : cmpT (d + 1) a b = 0) : a = b := by
  unfold cmpT at h
  by_cases k : cmp3 a b = 0
  · rw [if_pos k] at h
    obtain ⟨h1, h2, h3⟩ := cmp3_zero.1 k
    have h4 := leafs_eq ha hb h
    clear h k ha hb
    cases a; cases b
    simp only at *
    subst h1 h2 h3 h4
    rfl
  · rw [if_neg k] at h; exact absurd h k

theorem flatMay_leaf {t : Tm} (h : flatMay t = true) : Leaf t := by
  unfold flatMay at h
  rw [Bool.and_eq_true, decide_eq_true_eq] at h
  exact List.eq_nil_of_length_eq_zero h.1
end Go.Proofs.Ytiplipdigabidaa
