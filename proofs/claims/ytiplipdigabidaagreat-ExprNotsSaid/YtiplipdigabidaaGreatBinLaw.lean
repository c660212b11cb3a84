/- What op.Unary, op.Binary tell may be. -/
import Derived.Test.YtiplipdigabidaaGreatBin2
set_option linter.unusedVariables false
set_option linter.unusedSimpArgs false
namespace Go.Proofs.YtiplipdigabidaaGreat
open Go.ChangeShapes Go.WideShapes Go.ChangeAt Go.RowKit

theorem rise_parts {l : List Tm} {i : Nat} (h : riseAt l i = true) (hi : i < l.length) : fixedB l[i] = true ∧ l[i].kind ≠ 7 ∧ l[i].kind = headK l ∧ (0 < i → cmpT 3 (l[i - 1]'(by omega)) l[i] < 0) := by
  unfold riseAt at h
  rw [List.getElem?_eq_getElem hi, List.getElem?_eq_getElem (show 0 < l.length by omega), List.getElem?_eq_getElem (show i - 1 < l.length by omega)] at h
  simp only [Bool.and_eq_true, Bool.or_eq_true, decide_eq_true_eq] at h
  obtain ⟨⟨⟨h1, h2⟩, h3⟩, h4⟩ := h
  have h7 : l[i].kind ≠ 7 := by
    intro h7
    unfold flatMay at h1
    simp [h7] at h1
  refine ⟨?_, h7, ?_, fun h0 => ?_⟩
  · unfold fixedB mayB
    rw [if_neg h7, h1, decide_eq_true h2]; rfl
  · rw [h3]
    cases l with
    | nil => simp at hi
    | cons a l => rfl
  · rcases h4 with h4 | h4
    · omega
    · exact h4
theorem rising_ok {l : List Tm} (h : risingB l = true) : OkL l := by
  unfold risingB at h
  rw [Bool.and_eq_true, List.all_eq_true, decide_eq_true_eq] at h
  obtain ⟨hr, hn⟩ := h
  have hp : ∀ i (hi : i < l.length), _ := fun i hi => rise_parts (hr i (List.mem_range.2 hi)) hi
  refine ⟨?_, fun t ht => ?_, hn⟩
  · rw [List.pairwise_iff_getElem]
    intro i j hi hj hij
    induction j with
    | zero => omega
    | succ j ih =>
      have h1 := (hp (j + 1) hj).2.2.2 (by omega)
      simp only [Nat.add_sub_cancel] at h1
      by_cases he : i = j
      · subst he; exact h1
      · have h2 := ih (by omega) (by omega)
        exact (cmpT_ord 3).lt_le h2 (by omega)
  · obtain ⟨i, hi, rfl⟩ := List.getElem_of_mem ht
    obtain ⟨h1, h2, h3, _⟩ := hp i hi
    exact badB_not.2 ⟨h1, h2, h3⟩
theorem fixed_ok {x : Int} {s : ByteArray} {l : List Tm} (h : fixedB ⟨7, x, s, l⟩ = true) : OkL l := by
  have := fixed_parts h
  rw [if_pos rfl] at this
  exact rising_ok this.2.2
theorem ok_filter {l : List Tm} (p : Tm → Bool) (h : OkL l) : OkL (l.filter p) := by
  refine ⟨h.rise.filter p, fun t ht => ?_, Nat.le_trans (List.length_filter_le _ _) h.few⟩
  have hm := (List.mem_filter.1 ht).1
  obtain ⟨u, hu, hk⟩ := headK_mem (l := l.filter p) (fun e => by rw [e] at ht; cases ht)
  have h1 := badB_not.1 (h.good t hm)
  have h2 := badB_not.1 (h.good u (List.mem_filter.1 hu).1)
  exact badB_not.2 ⟨h1.1, h1.2.1, by rw [← hk, h2.2.2, h1.2.2]⟩
theorem fixed_bool (b : Bool) : fixedB (boolT b) = true := by cases b <;> simp [boolT, bit, fixedB, mayB, flatMay, emp] <;> rfl
theorem fixed_intT (n : Int) : fixedB (intT n) = true := fixed_int' n
where fixed_int' (x : Int) : fixedB ⟨2, x, emp, []⟩ = true := by simp [fixedB, mayB, flatMay, emp]; rfl
theorem fixed_txt {s : ByteArray} (h : s.size ≤ 256) : fixedB ⟨3, 0, s, []⟩ = true := by simp [fixedB, mayB, flatMay, h]
/-- What is told may be; beside an error there is none. -/
def Told (r : Tm × Int) : Prop := (r.2 = 0 → fixedB r.1 = true) ∧ (r.2 ≠ 0 → r.1.kind = 0)
theorem told_no (e : Int) (he : e ≠ 0) : Told (noT, e) := ⟨fun h => absurd h he, fun _ => rfl⟩
theorem told_ok {t : Tm} (h : fixedB t = true) : Told (t, 0) := ⟨fun _ => h, fun h => absurd rfl h⟩
theorem told_rec (code a b : Int) : Told (recT (recR code a b)) := by
  rcases rec_is code a b with ⟨h, _⟩ | ⟨e, h, he⟩
  · rw [h]; exact told_ok (fixed_intT _)
  · rw [h]
    refine ⟨fun h0 => ?_, fun _ => rfl⟩
    have h0 : e = 0 := h0
    omega
theorem told_ite {c : Prop} [Decidable c] {x y : Tm × Int} (h1 : c → Told x) (h2 : ¬ c → Told y) : Told (if c then x else y) := by
  by_cases h : c
  · rw [if_pos h]; exact h1 h
  · rw [if_neg h]; exact h2 h
theorem told_un (code : Int) (a : Tm) : Told (unR code a) := by
  unfold unR
  exact told_ite (fun _ => told_no _ (by decide)) fun _ => told_ite (fun _ => told_ok (fixed_bool _)) fun _ => told_ite (fun _ => told_rec _ _ _) fun _ => told_ite (fun _ => told_ok (fixed_intT _)) fun _ => told_ite (fun _ => told_ok (fixed_intT _)) fun _ => told_no _ (by decide)
theorem told_join {a b : Tm} : Told (joinR a b) := by
  unfold joinR
  split
  · exact told_no _ (by decide)
  · split
    · exact told_no _ (by decide)
    · unfold setR
      split
      · rename_i h
        exact told_ok (ok_fixed (set_ok h))
      · exact told_no _ (by decide)
theorem told_match (p t : ByteArray) : Told (matchR p t) := by
  unfold matchR
  exact told_ite (fun h => told_no _ h) fun _ => told_ok (fixed_bool _)
theorem told_bin (code : Int) (a b : Tm) : Told (binR code a b) := by
  unfold binR
  refine told_ite (fun _ => told_no _ (by decide)) fun h1 => told_ite (fun _ => told_no _ (by decide)) fun hk => ?_
  have fa : fixedB a = true := by
    rcases Bool.eq_false_or_eq_true (fixedB a) with h | h
    · exact h
    · exact absurd (.inl h) h1
  have hk2 : kindsB code a.kind b.kind = true := by
    rcases Bool.eq_false_or_eq_true (kindsB code a.kind b.kind) with h | h
    · exact h
    · exact absurd h hk
  refine told_ite (fun _ => told_ite (fun hl => told_ok (fixed_txt (by rw [ByteArray.size_append]; exact hl))) fun _ => told_no _ (by decide)) fun _ => told_ite (fun _ => told_rec _ _ _) fun _ => told_ite (fun _ => told_ok (fixed_bool _)) fun _ => told_ite (fun _ => told_ok (fixed_bool _)) fun _ => told_ite (fun _ => told_ok (fixed_bool _)) fun _ => told_ite (fun _ => told_match _ _) fun _ => told_ite (fun h15 => ?_) fun _ => told_ite (fun _ => told_join) fun _ => told_ite (fun _ => told_ok (fixed_intT _)) fun _ => told_ite (fun _ => told_ok (fixed_intT _)) fun _ => told_ite (fun _ => told_ok (fixed_intT _)) fun _ => told_ok (fixed_bool _)
  obtain ⟨h7, _⟩ := kinds_set hk2 (.inl h15)
  obtain ⟨ka, x, s, l⟩ := a
  subst h7
  exact told_ok (ok_fixed (ok_filter _ (fixed_ok fa)))
theorem bin_kind (code : Int) (a b : Tm) : (binR code a b).2 = 7 ∨ (binR code a b).2 = 1 ∨ kindsB code a.kind b.kind = true := by
  rcases Bool.eq_false_or_eq_true (kindsB code a.kind b.kind) with h | h
  · exact .inr (.inr h)
  · unfold binR
    by_cases h1 : fixedB a = false ∨ fixedB b = false ∨ code < 1 ∨ 19 < code
    · rw [if_pos h1]; exact .inr (.inl rfl)
    · rw [if_neg h1, if_pos h]; exact .inl rfl
end Go.Proofs.YtiplipdigabidaaGreat
