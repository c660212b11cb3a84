/- viaticumlaw14.RuleNames: of a rule that may be each name is one of the body's. -/
import Derived.Test.YtfknlghegchbkaaAwake
set_option linter.unusedVariables false
set_option linter.unusedSimpArgs false
namespace Go.Proofs.Ytfknlghegchbkaa
open Go.ChangeShapes Go.WideShapes Go.ChangeAt Go.RowKit

/-- The rule with another head. -/
def withHead (r : Ru) (p : Pr) : Ru := ⟨p, r.body, r.exprs, r.scopes⟩
def varT (name : ByteArray) : Tm := ⟨1, 0, name, []⟩

theorem mayB_var (name : ByteArray) : mayB (varT name) = nameB (bs name) := by
  unfold mayB varT flatMay
  simp
theorem varsOf_var (name : ByteArray) : varsOf [varT name] = [bs name] := by
  unfold varsOf varT
  simp
theorem nameB_of_mem {r : Ru} {l : Bytes} (h : bodyB r = true) (hl : l ∈ varsAll r.body) : nameB l = true := by
  unfold bodyB at h
  simp only [Bool.and_eq_true, decide_eq_true_eq, List.all_eq_true] at h
  obtain ⟨⟨⟨⟨_, h2⟩, _⟩, _⟩, _⟩ := h
  unfold varsAll varsOf at hl
  simp only [List.mem_flatMap, List.mem_map, List.mem_filter, decide_eq_true_eq] at hl
  obtain ⟨p, hp, t, ⟨ht, hk⟩, rfl⟩ := hl
  have hm := h2 p hp
  unfold mayPredB at hm
  simp only [Bool.and_eq_true, decide_eq_true_eq, List.all_eq_true] at hm
  have ht2 := hm.2.2 t ht
  unfold mayB flatMay at ht2
  rw [if_neg (by omega)] at ht2
  simp only [hk] at ht2
  simp at ht2
  exact ht2.2.2

theorem bodyB_head (r : Ru) (p : Pr) : bodyB (withHead r p) = bodyB r := rfl

theorem namesS {r : Ru} {name : ByteArray} (h : mayRuleB r = true) : mayRuleB (withHead r ⟨r.head.name, [varT name]⟩) = decide (bs name ∈ varsAll r.body) := by
  rw [mayRuleB_eq] at h ⊢
  simp only [Bool.and_eq_true, decide_eq_true_eq] at h
  obtain ⟨⟨⟨h1, h2⟩, h3⟩, _⟩ := h
  rw [bodyB_head, h3]
  have e1 : (withHead r ⟨r.head.name, [varT name]⟩).body = r.body := rfl
  have e2 : varsAll [(withHead r ⟨r.head.name, [varT name]⟩).head] = [bs name] := by
    show varsAll [⟨r.head.name, [varT name]⟩] = _
    simp [varsAll, varsOf_var]
  have e3 : mayPredB (withHead r ⟨r.head.name, [varT name]⟩).head = nameB (bs name) := by
    unfold mayPredB at h1 ⊢
    simp only [Bool.and_eq_true, decide_eq_true_eq] at h1
    obtain ⟨⟨⟨a1, a2⟩, a3⟩, _⟩ := h1
    show (nameB (bs r.head.name) && decide (bs r.head.name ≠ [116, 114, 117, 101]) && decide (bs r.head.name ≠ [102, 97, 108, 115, 101]) && (decide ([varT name].length ≤ 8) && [varT name].all mayB)) = _
    rw [a1]
    simp [a2, a3, mayB_var]
  rw [e1, e2, e3, Bool.eq_iff_iff]
  simp only [Bool.and_eq_true, decide_eq_true_eq, List.all_cons, List.all_nil, Bool.and_true, and_true]
  constructor
  · intro h; exact h.2
  · intro hm; exact ⟨⟨nameB_of_mem h3 hm, h2⟩, hm⟩

theorem namesQ {r : Ru} (h : mayRuleB r = true) : mayQueryB (withHead r ⟨⟨#[]⟩, []⟩) = true := by
  unfold mayRuleB at h
  simp only [Bool.and_eq_true, decide_eq_true_eq] at h
  obtain ⟨⟨⟨h1, h2⟩, h3⟩, _⟩ := h
  unfold mayQueryB
  rw [bodyB_head, h3]
  have e1 : (withHead r ⟨⟨#[]⟩, []⟩).head.name.toList.isEmpty = true := by rw [isEmpty_empty]; simp [withHead]; rfl
  rw [e1]
  have e2 : 1 ≤ (withHead r ⟨⟨#[]⟩, []⟩).body.length + (withHead r ⟨⟨#[]⟩, []⟩).exprs.length := by
    show 1 ≤ r.body.length + r.exprs.length
    omega
  rw [decide_eq_true e2]
  rfl

theorem namesR {r : Ru} (h : mayRuleB r = true) : mayQueryB r = false := by
  unfold mayRuleB at h
  simp only [Bool.and_eq_true, decide_eq_true_eq] at h
  obtain ⟨⟨⟨h1, h2⟩, h3⟩, _⟩ := h
  unfold mayPredB nameB at h1
  simp only [Bool.and_eq_true, decide_eq_true_eq] at h1
  have hl := h1.1.1.1.1.1.2
  unfold mayQueryB
  have : r.head.name.toList.isEmpty = false := by
    rw [ByteArray.toList_eq]
    unfold bs at hl
    cases hx : r.head.name.data.toList with
    | nil => rw [hx] at hl; simp at hl
    | cons a b => rfl
  rw [this]
  simp

theorem has_iff (L : List Bytes) (name : ByteArray) : L.any (fun l => (mkS l).toList == name.toList) = decide (bs name ∈ L) := by
  rw [Bool.eq_iff_iff]
  simp only [List.any_eq_true, same_iff, bs_mkS, decide_eq_true_eq]
  constructor
  · rintro ⟨l, hl, rfl⟩; exact hl
  · intro h; exact ⟨_, h, rfl⟩

def hasIn (name : ByteArray) (L : List Bytes) : Bool := L.any (fun l => (mkS l).toList == name.toList)
theorem hasIn_iff (L : List Bytes) (name : ByteArray) : hasIn name L = decide (bs name ∈ L) := has_iff L name
theorem hasIn_nil (name : ByteArray) : hasIn name [] = false := rfl
theorem hasIn_succ {L : List Bytes} {k : Nat} (name : ByteArray) (h : k < L.length) : hasIn name (L.take (k + 1)) = (hasIn name (L.take k) || ((mkS L[k]).toList == name.toList)) := by
  unfold hasIn
  rw [List.take_succ_eq_append_getElem h]
  simp only [List.any_append, List.any_cons, List.any_nil, Bool.or_false]
end Go.Proofs.Ytfknlghegchbkaa
