/- What is in both sets, what is in either: the plain law. -/
import Derived.Test.YtiplipdigabidaaGreatSet2
set_option linter.unusedVariables false
set_option linter.unusedSimpArgs false
namespace Go.Proofs.YtiplipdigabidaaGreat

section
variable {α : Type} {c : α → α → Int}
theorem insL_len {t : α} : ∀ {xs : List α}, (∀ x ∈ xs, c x t ≠ 0) → (insL c t xs).length = xs.length + 1
  | [], _ => rfl
  | x :: xs, h => by
    unfold insL
    split
    · rw [List.length_cons, insL_len (fun y hy => h y (by simp [hy])), List.length_cons]
    · rw [if_neg (h x (by simp))]; rfl
theorem fold_len : ∀ (l out : List α), (∀ a ∈ out, ∀ b ∈ l, c a b ≠ 0) → l.Pairwise (fun a b => c a b ≠ 0) → (l.foldl (fun out t => insL c t out) out).length = out.length + l.length
  | [], out, _, _ => rfl
  | x :: l, out, h, hp => by
    obtain ⟨p1, p2⟩ := List.pairwise_cons.1 hp
    have hx : ∀ y ∈ out, c y x ≠ 0 := fun y hy => h y hy x (by simp)
    rw [List.foldl_cons, fold_len l (insL c x out) (fun a ha b hb => ?_) p2, insL_len hx, List.length_cons]
    · omega
    · rcases (insL_mem (fun y hy e => absurd e (hx y hy)) a).1 ha with rfl | ha
      · exact p1 b hb
      · exact h a ha b (by simp [hb])
theorem setL_len {l : List α} (h : l.Pairwise (fun a b => c a b ≠ 0)) : (setL c l).length = l.length := by
  have := fold_len l [] (fun a ha => by simp at ha) h
  simpa [setL] using this
end

def badJ (a b : Tm) (t : Tm) : Bool := decide (t.kind ≠ headK b.l) || (decide (0 < a.l.length) && decide (t.kind ≠ headK a.l))
def meetT (a b : Tm) : Tm := ⟨7, 0, emptyS, a.l.filter (hasB b)⟩
def joinAll (a b : Tm) : List Tm := a.l ++ b.l.filter fun t => !hasB a t
def joinR (a b : Tm) : Tm × Int := if b.l.any (badJ a b) then (noT, 7) else if 16 < (joinAll a b).length then (noT, 4) else setR (joinAll a b)
def containsS (a b : Tm) : Bool := if b.kind = 7 then b.l.all (hasB a) else hasB a b

/-- A set's terms. -/
structure OkL (l : List Tm) : Prop where
  rise : l.Pairwise (fun a b => cmpT 3 a b < 0)
  good : ∀ t ∈ l, badB (headK l) t = false
  few : l.length ≤ 16

theorem arg_parts {l : List Tm} (h : setArgB l = true) : l.length ≤ 16 ∧ ∀ t ∈ l, badB (headK l) t = false := by
  unfold setArgB at h
  rw [Bool.and_eq_true, decide_eq_true_eq, Bool.not_eq_true', List.any_eq_false] at h
  exact ⟨h.1, fun t ht => by simpa using h.2 t ht⟩
theorem good_leaf {k : Int} {t : Tm} (h : badB k t = false) : Leaf t := fixed_leaf (badB_not.1 h).1 (badB_not.1 h).2.1
theorem good_eq {k k' : Int} {a b : Tm} (ha : badB k a = false) (hb : badB k' b = false) (h : cmpT 3 a b = 0) : a = b := leaf_eq (good_leaf ha) (good_leaf hb) h
theorem headK_mem {l : List Tm} (h : l ≠ []) : ∃ t ∈ l, t.kind = headK l := by
  cases l with
  | nil => exact absurd rfl h
  | cons x l => exact ⟨x, by simp, rfl⟩

theorem set_ok {l : List Tm} (h : setArgB l = true) : OkL (setL (cmpT 3) l) := by
  obtain ⟨h1, h2⟩ := arg_parts h
  have he : ∀ a ∈ l, ∀ b ∈ l, cmpT 3 a b = 0 → a = b := fun a ha b hb => good_eq (h2 a ha) (h2 b hb)
  refine ⟨setL_sorted (cmpT_ord 3) he, fun t ht => ?_, Nat.le_trans (setL_length (cmpT_ord 3) he) h1⟩
  have hm := h2 t ((setL_mem (cmpT_ord 3) he t).1 ht)
  obtain ⟨u, hu, hk⟩ := headK_mem (l := setL (cmpT 3) l) (fun e => by rw [e] at ht; simp at ht)
  have hmu := h2 u ((setL_mem (cmpT_ord 3) he u).1 hu)
  rw [← hk, (badB_not.1 hmu).2.2]
  exact hm

theorem ok_ne {l : List Tm} (h : OkL l) : l.Pairwise (fun a b => cmpT 3 a b ≠ 0) := h.rise.imp fun h => by omega
theorem ok_arg {l : List Tm} (h : OkL l) : setArgB l = true := by
  unfold setArgB
  rw [Bool.and_eq_true, decide_eq_true_eq, Bool.not_eq_true', List.any_eq_false]
  exact ⟨h.few, fun t ht => by rw [h.good t ht]; simp⟩

theorem ok_fixed {l : List Tm} (h : OkL l) : fixedB ⟨7, 0, emptyS, l⟩ = true := by
  have hr : risingB l = true := by
    unfold risingB
    rw [Bool.and_eq_true, List.all_eq_true, decide_eq_true_eq]
    refine ⟨fun i hi => ?_, h.few⟩
    rw [List.mem_range] at hi
    have e1 : l[i]? = some l[i] := List.getElem?_eq_getElem hi
    have e2 : l[0]? = some (l[0]'(by omega)) := List.getElem?_eq_getElem (by omega)
    have e3 : l[i - 1]? = some (l[i - 1]'(by omega)) := List.getElem?_eq_getElem (by omega)
    unfold riseAt
    rw [e1, e2, e3]
    have g1 := badB_not.1 (h.good _ (List.getElem_mem hi))
    have g2 := badB_not.1 (h.good _ (List.getElem_mem (show 0 < l.length by omega)))
    have f1 := g1.1
    unfold fixedB mayB at f1
    rw [if_neg g1.2.1, Bool.and_eq_true] at f1
    simp only [f1.1, f1.2, Bool.true_and, Bool.and_eq_true, Bool.or_eq_true, decide_eq_true_eq]
    refine ⟨g1.2.2.trans g2.2.2.symm, ?_⟩
    by_cases h0 : i = 0
    · exact .inl h0
    · exact .inr (List.pairwise_iff_getElem.1 h.rise (i - 1) i (by omega) hi (by omega))
  unfold fixedB mayB
  simp [hr, emptyS]
  rfl

theorem has_mem {l : List Tm} {n : Int} {s : ByteArray} (h : OkL l) {k : Int} {t : Tm} (ht : badB k t = false) : hasB ⟨7, n, s, l⟩ t = true ↔ t ∈ l := by
  unfold hasB
  simp only [decide_true, Bool.true_and, List.any_eq_true]
  constructor
  · rintro ⟨x, hx, hs⟩
    have : cmpT 3 x t = 0 := by simpa [sameB] using hs
    rw [← good_eq (h.good x hx) ht this]; exact hx
  · intro hm
    exact ⟨t, hm, by unfold sameB; rw [(cmpT_ord 3).self]; rfl⟩

theorem same_self (t : Tm) : sameB t t = true := by unfold sameB; rw [(cmpT_ord 3).self]; rfl

section
variable {A B : List Tm} (hA : OkL A) (hB : OkL B)
theorem meet_mem (hA : OkL A) (hB : OkL B) : ∀ t ∈ (meetT ⟨7, 0, emptyS, A⟩ ⟨7, 0, emptyS, B⟩).l, hasB ⟨7, 0, emptyS, A⟩ t = true ∧ hasB ⟨7, 0, emptyS, B⟩ t = true := by
  intro t ht
  obtain ⟨h1, h2⟩ := List.mem_filter.1 ht
  exact ⟨(has_mem hA (hA.good t h1)).2 h1, h2⟩
theorem meet_self (hA : OkL A) : meetT ⟨7, 0, emptyS, A⟩ ⟨7, 0, emptyS, A⟩ = ⟨7, 0, emptyS, A⟩ := by
  unfold meetT
  rw [List.filter_eq_self.2 (fun t ht => (has_mem hA (hA.good t ht)).2 ht)]
theorem join_self (hA : OkL A) : joinR ⟨7, 0, emptyS, A⟩ ⟨7, 0, emptyS, A⟩ = (⟨7, 0, emptyS, A⟩, 0) := by
  have h1 : joinAll ⟨7, 0, emptyS, A⟩ ⟨7, 0, emptyS, A⟩ = A := by
    unfold joinAll
    rw [List.filter_eq_nil_iff.2 (fun t ht => by rw [(has_mem hA (hA.good t ht)).2 ht]; simp)]
    simp
  have h2 : A.any (badJ ⟨7, 0, emptyS, A⟩ ⟨7, 0, emptyS, A⟩) = false := by
    rw [List.any_eq_false]
    intro t ht
    have := (badB_not.1 (hA.good t ht)).2.2
    simp [badJ, this]
  unfold joinR
  rw [h1, if_neg (by rw [h2]; simp), if_neg (by have := hA.few; omega)]
  unfold setR
  rw [if_pos (ok_arg hA)]
  unfold setT
  rw [setL_self (cmpT_ord 3) hA.rise]

theorem join_law (hA : OkL A) (hB : OkL B) {y : Tm} (h : joinR ⟨7, 0, emptyS, A⟩ ⟨7, 0, emptyS, B⟩ = (y, 0)) :
    fixedB y = true ∧ y.kind = 7 ∧ containsS y ⟨7, 0, emptyS, A⟩ = true ∧ (meetT ⟨7, 0, emptyS, A⟩ ⟨7, 0, emptyS, B⟩).l.length + y.l.length = A.length + B.length := by
  unfold joinR at h
  split at h
  · simp at h
  · split at h
    · simp at h
    · unfold setR at h
      split at h
      · rename_i hn hl harg
        simp only [Prod.mk.injEq, and_true] at h
        subst h
        have hok := set_ok harg
        obtain ⟨a1, a2⟩ := arg_parts harg
        have he : ∀ a ∈ joinAll ⟨7, 0, emptyS, A⟩ ⟨7, 0, emptyS, B⟩, ∀ b ∈ joinAll ⟨7, 0, emptyS, A⟩ ⟨7, 0, emptyS, B⟩, cmpT 3 a b = 0 → a = b := fun a ha b hb => good_eq (a2 a ha) (a2 b hb)
        refine ⟨ok_fixed hok, rfl, ?_, ?_⟩
        · show (if (7 : Int) = 7 then _ else _) = true
          rw [if_pos rfl, List.all_eq_true]
          intro t ht
          have hall : t ∈ joinAll ⟨7, 0, emptyS, A⟩ ⟨7, 0, emptyS, B⟩ := List.mem_append_left _ ht
          exact (has_mem hok (hA.good t ht)).2 ((setL_mem (cmpT_ord 3) he t).2 hall)
        · have hne : (joinAll ⟨7, 0, emptyS, A⟩ ⟨7, 0, emptyS, B⟩).Pairwise (fun a b => cmpT 3 a b ≠ 0) := by
            unfold joinAll
            rw [List.pairwise_append]
            refine ⟨ok_ne hA, (ok_ne hB).filter _, fun a ha b hb e => ?_⟩
            obtain ⟨b1, b2⟩ := List.mem_filter.1 hb
            have hab := good_eq (hA.good a ha) (hB.good b b1) e
            subst hab
            rw [(has_mem hA (hA.good a ha)).2 ha] at b2
            simp at b2
          have hlen : (setT (joinAll ⟨7, 0, emptyS, A⟩ ⟨7, 0, emptyS, B⟩)).l.length = (joinAll ⟨7, 0, emptyS, A⟩ ⟨7, 0, emptyS, B⟩).length := setL_len hne
          rw [hlen]
          have hEq : A.filter (hasB ⟨7, 0, emptyS, B⟩) = B.filter (hasB ⟨7, 0, emptyS, A⟩) := by
            refine sorted_uniq (cmpT_ord 3) (hA.rise.filter _) (hB.rise.filter _) fun t => ?_
            rw [List.mem_filter, List.mem_filter]
            constructor
            · rintro ⟨h1, h2⟩
              exact ⟨(has_mem hB (hA.good t h1)).1 h2, (has_mem hA (hA.good t h1)).2 h1⟩
            · rintro ⟨h1, h2⟩
              exact ⟨(has_mem hA (hB.good t h1)).1 h2, (has_mem hB (hB.good t h1)).2 h1⟩
          have hsum : ∀ (p : Tm → Bool) (l : List Tm), (l.filter p).length + (l.filter fun t => !p t).length = l.length := by
            intro p l
            induction l with
            | nil => rfl
            | cons x l ih => cases hp : p x <;> simp [List.filter_cons, hp] <;> omega
          show (A.filter (hasB ⟨7, 0, emptyS, B⟩)).length + (A ++ B.filter fun t => !hasB ⟨7, 0, emptyS, A⟩ t).length = _
          rw [hEq, List.length_append]
          have := hsum (hasB ⟨7, 0, emptyS, A⟩) B
          omega
      · simp at h
end
end Go.Proofs.YtiplipdigabidaaGreat
