/- Operations one behind the other: what is left of them; it may be; when a name is not found. -/
import Derived.Test.YtiplipdigabidaaGreatEvStep
import Derived.Test.YtiplipdigabidaaGreatBinLaw
set_option linter.unusedVariables false
set_option linter.unusedSimpArgs false
namespace Go.Proofs.YtiplipdigabidaaGreat

theorem val_shift (b : Bd) (t : Tm) (p ts : List Tm) : valR b t (p ++ ts) = ((valR b t ts).1, p ++ (valR b t ts).2) := by
  unfold valR
  split
  · split <;> simp
  · simp
theorem last_of1 {ts : List Tm} (h : 1 ≤ ts.length) : ∃ l t, ts = l ++ [t] := by
  rcases List.eq_nil_or_concat ts with rfl | ⟨l, t, rfl⟩
  · simp at h
  · exact ⟨l, t, by simp⟩
theorem last_of2 {ts : List Tm} (h : 2 ≤ ts.length) : ∃ l s t, ts = l ++ [s] ++ [t] := by
  obtain ⟨l, t, rfl⟩ := last_of1 (by omega : 1 ≤ ts.length)
  obtain ⟨k, s, rfl⟩ := last_of1 (ts := l) (by simp at h; omega)
  exact ⟨k, s, t, rfl⟩
theorem step_val {b : Bd} {o : OpD} (ts : List Tm) (k : o.kind = 1) : stepE b o ts = ((valR b o.term ts).1, (valR b o.term ts).2, false) := by
  unfold stepE; rw [if_pos k]
theorem step_un {b : Bd} {o : OpD} (l : List Tm) (t : Tm) (k : o.kind = 2) : stepE b o (l ++ [t]) = ((unR o.code t).2, l ++ [(unR o.code t).1], false) := by
  unfold stepE; rw [if_neg (by omega), if_pos k]; simp only [List.getLast?_concat, List.dropLast_concat]
theorem step_bin {b : Bd} {o : OpD} (l : List Tm) (s t : Tm) (k : o.kind = 3) : stepE b o (l ++ [s] ++ [t]) = ((binR o.code s t).2, l ++ [(binR o.code s t).1], false) := by
  unfold stepE; rw [if_neg (by omega), if_neg (by omega), if_pos k]; simp only [List.getLast?_concat, List.dropLast_concat]
theorem step_lazy {b : Bd} {o : OpD} (l : List Tm) (t : Tm) (k : o.kind = 4 ∨ o.kind = 5) : stepE b o (l ++ [t]) = if t.kind ≠ 6 then (7, l ++ [t], false) else if (decide (t.n = 1) == decide (o.kind = 5)) = true then (0, l ++ [t], true) else (0, l, false) := by
  unfold stepE; rw [if_neg (by omega), if_neg (by omega), if_neg (by omega)]; simp only [List.getLast?_concat, List.dropLast_concat]
theorem needs_one {o : OpD} (k : o.kind = 2 ∨ o.kind = 4 ∨ o.kind = 5) : needsB o = 1 := by
  unfold needsB; rw [if_neg (by omega), if_neg (by omega)]
theorem needs_two {o : OpD} (k : o.kind = 3) : needsB o = 2 := by
  unfold needsB; rw [if_neg (by omega), if_pos k]
theorem step_shift {b : Bd} {o : OpD} {ts : List Tm} (p : List Tm) (ha : aloneB o = true) (hn : needsB o ≤ ts.length) :
    stepE b o (p ++ ts) = ((stepE b o ts).1, p ++ (stepE b o ts).2.1, (stepE b o ts).2.2) := by
  rcases alone_kind ha with k | k | k | k | k
  · rw [step_val _ k, step_val _ k, val_shift]
  · obtain ⟨l, t, rfl⟩ := last_of1 (by rw [needs_one (.inl k)] at hn; omega : 1 ≤ ts.length)
    rw [← List.append_assoc, step_un _ _ k, step_un _ _ k]
    simp only [List.append_assoc]
  · obtain ⟨l, s, t, rfl⟩ := last_of2 (by rw [needs_two k] at hn; omega : 2 ≤ ts.length)
    rw [← List.append_assoc, ← List.append_assoc, step_bin _ _ _ k, step_bin _ _ _ k]
    simp only [List.append_assoc]
  · obtain ⟨l, t, rfl⟩ := last_of1 (by rw [needs_one (.inr (.inl k))] at hn; omega : 1 ≤ ts.length)
    rw [← List.append_assoc, step_lazy _ _ (.inl k), step_lazy _ _ (.inl k)]
    split
    · simp only [List.append_assoc]
    · split <;> simp only [List.append_assoc]
  · obtain ⟨l, t, rfl⟩ := last_of1 (by rw [needs_one (.inr (.inr k))] at hn; omega : 1 ≤ ts.length)
    rw [← List.append_assoc, step_lazy _ _ (.inr k), step_lazy _ _ (.inr k)]
    split
    · simp only [List.append_assoc]
    · split <;> simp only [List.append_assoc]
theorem step_skip {b : Bd} {o : OpD} {r ts : List OpD} {us : List Tm} (h : wholeG us.length (o :: r) = true) (hs : (stepE b o us).2.2 = true) : o.skip.toNat ≤ r.length := by
  rw [wholeG_cons, Bool.and_eq_true, Bool.and_eq_true] at h
  have hz : lazyB o = true := by
    rcases alone_kind h.1.1 with k | k | k | k | k
    · rw [step_val _ k] at hs; cases hs
    · obtain ⟨l, t, rfl⟩ := last_of1 (by have := of_decide_eq_true h.1.2; rw [needs_one (.inl k)] at this; omega : 1 ≤ us.length)
      rw [step_un _ _ k] at hs; cases hs
    · obtain ⟨l, s, t, rfl⟩ := last_of2 (by have := of_decide_eq_true h.1.2; rw [needs_two k] at this; omega : 2 ≤ us.length)
      rw [step_bin _ _ _ k] at hs; cases hs
    · simp [lazyB, k]
    · simp [lazyB, k]
  have h3 := h.2
  rw [if_pos hz, Bool.and_eq_true, Bool.and_eq_true, decide_eq_true_eq] at h3
  have := h3.1.1
  omega
/-- What stands below is not touched; what comes behind goes on. -/
theorem evR_app (b : Bd) : ∀ (n : Nat) (l r : List OpD) (p ts : List Tm), l.length ≤ n → wholeG ts.length l = true →
    evR b (l ++ r) (p ++ ts) = if (evR b l ts).1 ≠ 0 then ((evR b l ts).1, p ++ (evR b l ts).2) else evR b r (p ++ (evR b l ts).2)
  | n, [], r, p, ts, _, _ => by rw [evR_nil]; rfl
  | 0, _ :: _, _, _, _, h, _ => absurd h (by simp)
  | n + 1, o :: l, r, p, ts, hn, h => by
    simp only [List.length_cons] at hn
    have hc := h
    rw [wholeG_cons, Bool.and_eq_true, Bool.and_eq_true] at hc
    rw [List.cons_append, evR_cons, evR_cons b o l ts, step_shift p hc.1.1 (of_decide_eq_true hc.1.2)]
    by_cases he : (stepE b o ts).1 = 0
    · have hst := whole_step h he
      simp only [he, ne_eq, not_true_eq_false, if_false]
      by_cases hs : (stepE b o ts).2.2 = true
      · have hk := step_skip (ts := []) h hs
        simp only [hs, if_true] at hst ⊢
        rw [List.drop_append_of_le_length hk]
        exact evR_app b n _ r p _ (by simp; omega) hst
      · simp only [hs, Bool.false_eq_true, if_false] at hst ⊢
        exact evR_app b n _ r p _ (by omega) hst
    · simp only [he, ne_eq, not_false_eq_true, if_true]
theorem evR_len (b : Bd) : ∀ (n : Nat) (l : List OpD) (ts : List Tm), l.length ≤ n → wholeG ts.length l = true → (evR b l ts).1 = 0 → (evR b l ts).2.length = 1
  | n, [], ts, _, h, _ => by
    rw [wholeG_nil, decide_eq_true_eq] at h
    rw [evR_nil]
    show ts.length = 1
    omega
  | 0, _ :: _, _, h, _, _ => absurd h (by simp)
  | n + 1, o :: l, ts, hn, h, he => by
    simp only [List.length_cons] at hn
    rw [evR_cons] at he ⊢
    by_cases hs : (stepE b o ts).1 = 0
    · rw [if_neg (by simpa using hs)] at he ⊢
      exact evR_len b n _ _ (by split <;> (try simp only [List.length_drop]) <;> omega) (whole_step h hs) he
    · rw [if_pos hs] at he
      exact absurd he hs
/-- All terms may be, without variables. -/
def Goods (ts : List Tm) : Prop := ∀ t ∈ ts, fixedB t = true
theorem Goods.add {l : List Tm} {t : Tm} (h : Goods l) (ht : fixedB t = true) : Goods (l ++ [t]) := fun u hu => by
  rcases List.mem_append.1 hu with h1 | h1
  · exact h u h1
  · rw [List.mem_singleton] at h1; rw [h1]; exact ht
theorem Goods.left {l r : List Tm} (h : Goods (l ++ r)) : Goods l := fun u hu => h u (List.mem_append_left _ hu)
theorem may_fixed {t : Tm} (h : mayB t = true) (hk : t.kind ≠ 1) : fixedB t = true := by
  unfold fixedB; simp [h, hk]
theorem step_good {b : Bd} {o : OpD} {ts : List Tm} (hok : BdOk b) (ha : aloneB o = true) (hn : needsB o ≤ ts.length) (hg : Goods ts) (he : (stepE b o ts).1 = 0) : Goods (stepE b o ts).2.1 := by
  rcases alone_kind ha with k | k | k | k | k
  · rw [step_val _ k] at he ⊢
    unfold valR at he ⊢
    split at he
    · rename_i h1
      split at he
      · exact absurd (show (8 : Int) = 0 from he) (by decide)
      · rename_i u hu
        rw [if_pos h1]
        simp only [hu]
        exact hg.add (hok.fixed u (lookR_mem hu))
    · rename_i h1
      rw [if_neg h1]
      exact hg.add (may_fixed (alone_term ha k) h1)
  · obtain ⟨l, t, rfl⟩ := last_of1 (by rw [needs_one (.inl k)] at hn; omega : 1 ≤ ts.length)
    rw [step_un _ _ k] at he ⊢
    exact hg.left.add ((told_un o.code t).1 he)
  · obtain ⟨l, s, t, rfl⟩ := last_of2 (by rw [needs_two k] at hn; omega : 2 ≤ ts.length)
    rw [step_bin _ _ _ k] at he ⊢
    exact hg.left.left.add ((told_bin o.code s t).1 he)
  · obtain ⟨l, t, rfl⟩ := last_of1 (by rw [needs_one (.inr (.inl k))] at hn; omega : 1 ≤ ts.length)
    rw [step_lazy _ _ (.inl k)]
    split
    · exact hg
    · split
      · exact hg
      · exact hg.left
  · obtain ⟨l, t, rfl⟩ := last_of1 (by rw [needs_one (.inr (.inr k))] at hn; omega : 1 ≤ ts.length)
    rw [step_lazy _ _ (.inr k)]
    split
    · exact hg
    · split
      · exact hg
      · exact hg.left
theorem evR_good {b : Bd} (hok : BdOk b) : ∀ (n : Nat) (l : List OpD) (ts : List Tm), l.length ≤ n → wholeG ts.length l = true → Goods ts → (evR b l ts).1 = 0 → Goods (evR b l ts).2
  | n, [], ts, _, _, hg, _ => by rw [evR_nil]; exact hg
  | 0, _ :: _, _, h, _, _, _ => absurd h (by simp)
  | n + 1, o :: l, ts, hn, h, hg, he => by
    simp only [List.length_cons] at hn
    have hc := h
    rw [wholeG_cons, Bool.and_eq_true, Bool.and_eq_true] at hc
    rw [evR_cons] at he ⊢
    by_cases hs : (stepE b o ts).1 = 0
    · rw [if_neg (by simpa using hs)] at he ⊢
      exact evR_good hok n _ _ (by split <;> (try simp only [List.length_drop]) <;> omega) (whole_step h hs) (step_good hok hc.1.1 (of_decide_eq_true hc.1.2) hg hs) he
    · rw [if_pos hs] at he
      exact absurd he hs
/-- What an expression that may be leaves. -/
theorem evT_parts {b : Bd} {l : List OpD} (hok : BdOk b) (hw : wholeG 0 l = true) : (∃ t, evalT b l = (t, 0) ∧ evR b l [] = (0, [t]) ∧ fixedB t = true) ∨ (∃ e ts, e ≠ 0 ∧ evalT b l = (noT, e) ∧ evR b l [] = (e, ts)) := by
  by_cases he : (evR b l []).1 = 0
  · have h1 := evR_len b l.length l [] (Nat.le_refl _) hw he
    have h2 := evR_good hok l.length l [] (Nat.le_refl _) hw (fun _ h => by cases h) he
    generalize hr : evR b l [] = r at *
    obtain ⟨e, ts⟩ := r
    simp only at he h1 h2
    subst he
    match ts, h1 with
    | [t], _ =>
      refine .inl ⟨t, ?_, rfl, h2 t (by simp)⟩
      unfold evalT
      rw [hr]; rfl
  · refine .inr ⟨(evR b l []).1, (evR b l []).2, he, ?_, rfl⟩
    unfold evalT
    rw [if_pos he]

/-- What True tells of it. -/
def trueT (r : Tm × Int) : Bool × Int := if r.2 ≠ 0 then (false, r.2) else if r.1.kind ≠ 6 then (false, 7) else (decide (r.1.n = 1), 0)
def notO : OpD := ⟨2, ⟨0, 0, ByteArray.empty, []⟩, 1, 0⟩
theorem empty_no : emptyB ⟨0, 0, ByteArray.empty, []⟩ = true := by simp [emptyB]
theorem alone_not : aloneB notO = true := by
  unfold aloneB notO
  simp [empty_no]
theorem whole_nots : wholeG 1 [notO, notO] = true := by
  have hz : lazyB notO = false := by decide
  have hn : needsB notO = 1 := by decide
  rw [wholeG_cons, wholeG_cons, wholeG_nil, alone_not, hz, hn]; decide
theorem may_nots {l : List OpD} (h : mayExprB l = true) (h30 : l.length ≤ 30) : mayExprB (l ++ [notO, notO]) = true := by
  unfold mayExprB at h ⊢
  rw [Bool.and_eq_true] at h ⊢
  exact ⟨by simp; omega, whole_append l.length l [notO, notO] 0 0 (Nat.le_refl _) (by omega) h.2 whole_nots⟩
theorem unR_not {t : Tm} (h : fixedB t = true) : unR 1 t = if t.kind = 6 then (boolT (decide (t.n = 0)), 0) else (noT, 7) := by
  unfold unR
  rw [if_neg (by simp [h])]
  by_cases h6 : t.kind = 6
  · rw [if_pos ⟨rfl, h6⟩, if_pos h6]
  · rw [if_neg (by simp [h6]), if_neg (by simp), if_neg (by simp), if_neg (by simp), if_neg h6]
theorem bool_n {t : Tm} (h : fixedB t = true) (h6 : t.kind = 6) : t.n = 0 ∨ t.n = 1 := by
  have := fixed_parts h
  rw [if_neg (by omega)] at this
  unfold fixedB mayB flatMay at h
  simp [h6] at h
  omega
/-- Not, twice, is nothing. -/
theorem nots_law {b : Bd} {l : List OpD} (hb : bindB b = true) (h : mayExprB l = true) (h30 : l.length ≤ 30) :
    trueT (evalT b (l ++ [notO, notO])) = trueT (evalT b l) := by
  have hok := (bindB_parts hb).1
  have hw : wholeG 0 l = true := by unfold mayExprB at h; rw [Bool.and_eq_true] at h; exact h.2
  have ha := evR_app b l.length l [notO, notO] [] [] (Nat.le_refl _) hw
  rw [List.nil_append, List.nil_append] at ha
  rcases evT_parts hok hw with ⟨t, h1, h2, h3⟩ | ⟨e, ts, h0, h1, h2⟩
  · rw [h2] at ha
    simp only [ne_eq, not_true_eq_false, if_false, List.nil_append] at ha
    have hs : ∀ u : Tm, stepE b notO [u] = ((unR 1 u).2, [(unR 1 u).1], false) := fun u => step_un [] u rfl
    rw [evR_cons, hs, unR_not h3] at ha
    rw [h1]
    by_cases h6 : t.kind = 6
    · rw [if_pos h6] at ha
      simp only [ne_eq, not_true_eq_false, if_false, Bool.false_eq_true] at ha
      rw [evR_cons, hs, unR_not (fixed_bool _), if_pos (show (boolT (decide (t.n = 0))).kind = 6 from rfl)] at ha
      simp only [ne_eq, not_true_eq_false, if_false, Bool.false_eq_true] at ha
      rw [evR_nil] at ha
      unfold evalT
      rw [ha]
      unfold trueT
      rcases bool_n h3 h6 with hn | hn <;> simp [h6, hn, boolT, bit]
    · rw [if_neg h6] at ha
      unfold evalT
      rw [ha]
      unfold trueT
      simp [h6, noT]
  · rw [h2] at ha
    simp only [ne_eq, h0, not_false_eq_true, if_true] at ha
    rw [h1]
    unfold evalT
    rw [ha]
    simp [h0]
end Go.Proofs.YtiplipdigabidaaGreat
