/- Plain laws of expressions: what is left out; a term alone; which errors there are. -/
import Derived.Test.YtiplipdigabidaaGreatTrue
set_option linter.unusedVariables false
set_option linter.unusedSimpArgs false
namespace Go.Proofs.YtiplipdigabidaaGreat

theorem may_whole {l : List OpD} (h : mayExprB l = true) : l.length ≤ 32 ∧ wholeG 0 l = true := by
  unfold mayExprB at h; rw [Bool.and_eq_true, decide_eq_true_eq] at h; exact h
theorem whole_pos {l : List OpD} (h : wholeG 0 l = true) : 1 ≤ l.length := by
  cases l with
  | nil => rw [wholeG_nil] at h; exact absurd h (by decide)
  | cons o l => simp
theorem evalE_of {b : Bd} {l : List OpD} (h : mayExprB l = true) (hb : bindB b = true) : evalE b l = evalT b l := by unfold evalE; rw [h, hb]; rfl
theorem evalE_no {b : Bd} {l : List OpD} (h : mayExprB l = false ∨ bindB b = false) : evalE b l = (noT, 1) := by
  unfold evalE
  rcases h with h | h <;> rw [h] <;> simp
/-- One side that may decide, and another one behind it. -/
def lazyE (or first : Bool) (right : List OpD) : List OpD := ⟨1, boolT first, 0, 0⟩ :: ⟨if or then 5 else 4, ⟨0, 0, ⟨#[]⟩, []⟩, 0, right.length⟩ :: right
theorem alone_bool (first : Bool) : aloneB ⟨1, boolT first, 0, 0⟩ = true := by
  unfold aloneB
  have h := fixed_bool first
  unfold fixedB at h
  rw [Bool.and_eq_true] at h
  simp [h.2]
theorem lazy_law {b : Bd} {or first : Bool} {right : List OpD} (h : mayExprB right = true) (h30 : right.length ≤ 30) :
    mayExprB (lazyE or first right) = true ∧ evalT b (lazyE or first right) = if (first == or) = true then (boolT first, 0) else evalT b right := by
  obtain ⟨_, hw⟩ := may_whole h
  have hp := whole_pos hw
  have hk : (if or = true then (5 : Int) else 4) = 5 ∨ (if or = true then (5 : Int) else 4) = 4 := by cases or <;> simp
  have hz : lazyB ⟨if or = true then 5 else 4, ⟨0, 0, ⟨#[]⟩, []⟩, 0, right.length⟩ = true := by unfold lazyB; cases or <;> simp
  have hz1 : lazyB ⟨1, boolT first, 0, 0⟩ = false := by unfold lazyB; simp
  have hn1 : needsB ⟨1, boolT first, 0, 0⟩ = 0 := by unfold needsB; simp
  have hn2 : needsB ⟨if or = true then 5 else 4, ⟨0, 0, ⟨#[]⟩, []⟩, 0, right.length⟩ = 1 := needs_lazy hz
  have ha2 : aloneB ⟨if or = true then 5 else 4, ⟨0, 0, ⟨#[]⟩, []⟩, 0, right.length⟩ = true := by
    unfold aloneB
    rw [hz]
    have h1 : (if or = true then (5 : Int) else 4) ≠ 1 := by cases or <;> simp
    have h2 : (if or = true then (5 : Int) else 4) ≠ 2 := by cases or <;> simp
    have h3 : (if or = true then (5 : Int) else 4) ≠ 3 := by cases or <;> simp
    simp only [h1, h2, h3, if_false]
    have : emptyB ⟨0, 0, ⟨#[]⟩, []⟩ = true := by simp [emptyB]; rfl
    rw [this]
    simp
    omega
  constructor
  · unfold mayExprB lazyE
    rw [Bool.and_eq_true, decide_eq_true_eq]
    refine ⟨by simp; omega, ?_⟩
    rw [wholeG_cons, alone_bool, hz1, hn1, wholeG_cons, ha2, hz, hn2]
    simp only [Int.toNat_natCast, List.take_length, List.drop_length, hw, wholeG_nil]
    simp
  · have e1 : evR b (lazyE or first right) [] = evR b (⟨if or = true then 5 else 4, ⟨0, 0, ⟨#[]⟩, []⟩, 0, right.length⟩ :: right) [boolT first] := by
      unfold lazyE
      have hv : valR b (boolT first) [] = (0, [boolT first]) := by
        unfold valR
        rw [if_neg (show ¬ (boolT first).kind = 1 by unfold boolT; simp)]
        rfl
      rw [evR_cons, step_val _ rfl]
      simp only [hv, ne_eq, not_true_eq_false, if_false, Bool.false_eq_true]
    have e2 : stepE b ⟨if or = true then 5 else 4, ⟨0, 0, ⟨#[]⟩, []⟩, 0, right.length⟩ [boolT first] = if (first == or) = true then (0, [boolT first], true) else (0, [], false) := by
      rw [show [boolT first] = [] ++ [boolT first] from rfl, step_lazy _ _ (by cases or <;> simp)]
      rw [if_neg (by simp [boolT])]
      have : (decide ((boolT first).n = 1) == decide ((⟨if or = true then 5 else 4, ⟨0, 0, ⟨#[]⟩, []⟩, 0, right.length⟩ : OpD).kind = 5)) = (first == or) := by
        cases first <;> cases or <;> simp [boolT, bit]
      rw [this]
    unfold evalT
    rw [e1, evR_cons, e2]
    by_cases hfo : (first == or) = true
    · simp only [hfo, if_true, ne_eq, not_true_eq_false, if_false]
      simp only [Int.toNat_natCast, List.drop_length, evR_nil]
      rfl
    · simp only [hfo, if_false, ne_eq, not_true_eq_false, Bool.false_eq_true]
/-- A term alone. -/
theorem one_law {b : Bd} {t : Tm} (h : mayB t = true) : mayExprB [⟨1, t, 0, 0⟩] = true ∧ evalT b [⟨1, t, 0, 0⟩] = (if t.kind = 1 then (match lookR b (bs t.s) with | none => (noT, (8 : Int)) | some u => (u, (0 : Int))) else (t, (0 : Int))) ∧ namesE [⟨1, t, 0, 0⟩] = (if t.kind = 1 then [bs t.s] else []) := by
  have ha : aloneB ⟨1, t, 0, 0⟩ = true := by unfold aloneB; simp [h]
  have hm : mayExprB [⟨1, t, 0, 0⟩] = true := by
    unfold mayExprB
    rw [wholeG_cons, ha]
    have hz1 : lazyB ⟨1, t, 0, 0⟩ = false := by unfold lazyB; simp
    have hn1 : needsB ⟨1, t, 0, 0⟩ = 0 := by unfold needsB; simp
    rw [hz1, hn1, wholeG_nil]
    simp
  refine ⟨hm, ?_, ?_⟩
  · unfold evalT
    rw [evR_cons, step_val _ rfl]
    unfold valR
    by_cases hk : t.kind = 1
    · rw [if_pos hk, if_pos hk]
      cases hl : lookR b (bs t.s) with
      | none => simp
      | some u => simp [evR_nil]
    · rw [if_neg hk, if_neg hk]
      simp [evR_nil]
  · unfold namesE
    rw [hm]
    unfold exprVars isVar
    by_cases hk : t.kind = 1
    · simp [hk, uniqL, sortL]
      rfl
    · simp [hk, uniqL, sortL]
      rfl

/-- Where the pattern's parser tells an error: 3 or 4. -/
def E34 (p : PS) : Prop := p.e = 0 ∨ p.e = 3 ∨ p.e = 4
theorem fail34 {p : PS} {e : Int} (h : E34 p) (he : e = 3 ∨ e = 4) : E34 (failP p e) := by
  unfold failP E34 at *
  split
  · simp only; omega
  · exact h
theorem step34 {p : PS} (h : E34 p) : E34 p.step := h
theorem next34 {s : ByteArray} {p : PS} (h : E34 p) : E34 (nextP s p).2 := by
  unfold nextP
  split
  · exact fail34 h (.inl rfl)
  · exact h
theorem member34 {s : ByteArray} {p : PS} (h : E34 p) : E34 (memberP s p).2 := by
  unfold memberP
  simp only
  split
  · exact next34 (next34 h)
  · exact next34 h
theorem span34 {s : ByteArray} {p : PS} (h : E34 p) : E34 (spanP s p).2 := by
  unfold spanP
  simp only
  split
  · exact member34 (step34 (member34 h))
  · exact member34 h
theorem classL34 (s : ByteArray) : ∀ n p i, E34 p → E34 (classL s n p i).2
  | 0, _, _, h => h
  | n + 1, p, i, h => by
    unfold classL
    split
    · simp only
      refine classL34 s n _ _ ?_
      split
      · exact fail34 (span34 h) (.inl rfl)
      · exact span34 h
    · exact h
theorem class34 {s : ByteArray} {p : PS} (h : E34 p) : E34 (classP s p).2 := by
  unfold classP
  simp only
  refine next34 (classL34 s _ _ _ ?_)
  have h1 : E34 (if isP s p 94 = true then p.step else p) := by split <;> exact h
  generalize (if isP s p 94 = true then p.step else p) = p1 at *
  split
  · exact fail34 h1 (.inl rfl)
  · exact h1
theorem all34 (s : ByteArray) : ∀ n, (∀ p, E34 p → E34 (patR s n p).2) ∧ (∀ p out, E34 p → E34 (rowR s n p out).2) ∧ (∀ p, E34 p → E34 (pieceR s n p).2) ∧ (∀ p, E34 p → E34 (atomR s n p).2)
  | 0 => ⟨fun p h => by unfold patR; exact h, fun p out h => by unfold rowR; exact h, fun p h => by unfold pieceR; exact h, fun p h => by unfold atomR; exact h⟩
  | n + 1 => by
    obtain ⟨i1, i2, i3, i4⟩ := all34 s n
    refine ⟨fun p h => ?_, fun p out h => ?_, fun p h => ?_, fun p h => ?_⟩
    · unfold patR
      simp only
      split
      · exact i1 _ (step34 (i2 _ _ h))
      · exact i2 _ _ h
    · unfold rowR
      split
      · exact i2 _ _ (i3 _ h)
      · exact h
    · unfold pieceR
      simp only
      have h4 := i4 p h
      split
      · exact h4
      · split
        · exact h4
        · split
          · exact h4
          · exact h4
    · unfold atomR
      simp only
      have h1 : E34 (nextP s p).2 := next34 h
      split
      · split
        · exact fail34 h1 (.inr rfl)
        · have hq : E34 (nextP s (patR s n ⟨(nextP s p).2.at_, (nextP s p).2.deep + 1, (nextP s p).2.e⟩).2).2 := next34 (i1 _ h1)
          show E34 ⟨_, _, _⟩
          split
          · exact fail34 hq (.inl rfl)
          · exact hq
      · split
        · exact class34 h1
        · split
          · exact h1
          · split
            · exact h1
            · split
              · exact h1
              · split
                · exact next34 h1
                · split
                  · exact fail34 h1 (.inl rfl)
                  · exact h1
theorem comp34 (s : ByteArray) : (compR s).2 = 0 ∨ (compR s).2 = 3 ∨ (compR s).2 = 4 := by
  unfold compR
  split
  · exact .inr (.inr rfl)
  · simp only
    have h : E34 (finP s (patR s (fuelOf s.size) ⟨0, 0, 0⟩).2) := by
      unfold finP
      have := (all34 s (fuelOf s.size)).1 ⟨0, 0, 0⟩ (.inl rfl)
      split
      · exact this
      · exact fail34 this (.inl rfl)
    split
    · exact .inl rfl
    · exact h
/-- An error of an operation is never one of a name. -/
def NotName (r : Tm × Int) : Prop := r.2 ≠ 8
theorem nn_ite {c : Prop} [Decidable c] {x y : Tm × Int} (h1 : NotName x) (h2 : NotName y) : NotName (if c then x else y) := by
  split
  · exact h1
  · exact h2
theorem nn_no {e : Int} (h : e ≠ 8) (t : Tm) : NotName (t, e) := h
theorem nn_rec (code a b : Int) : NotName (recT (recR code a b)) := by
  rcases rec_is code a b with ⟨h, _⟩ | ⟨e, h, he⟩
  · rw [h]; exact nn_no (show (0 : Int) ≠ 8 by decide) _
  · rw [h]
    show e ≠ 8
    omega
theorem nn_un (code : Int) (a : Tm) : NotName (unR code a) := by
  unfold unR
  exact nn_ite (nn_no (by decide) _) (nn_ite (nn_no (by decide) _) (nn_ite (nn_rec _ _ _) (nn_ite (nn_no (by decide) _) (nn_ite (nn_no (by decide) _) (nn_no (by decide) _)))))
theorem nn_match (p t : ByteArray) : NotName (matchR p t) := by
  have h : (fitsR p t false).2 ≠ 8 := by
    unfold fitsR
    split
    · simp
    · split
      · have := comp34 p; simp only; omega
      · simp
  unfold matchR
  exact nn_ite h (nn_no (by decide) _)
theorem nn_join (a b : Tm) : NotName (joinR a b) := by
  unfold joinR
  refine nn_ite (nn_no (by decide) _) (nn_ite (nn_no (by decide) _) ?_)
  unfold setR
  exact nn_ite (nn_no (by decide) _) (nn_no (by decide) _)
theorem nn_bin (code : Int) (a b : Tm) : NotName (binR code a b) := by
  unfold binR
  exact nn_ite (nn_no (by decide) _) (nn_ite (nn_no (by decide) _) (nn_ite (nn_ite (nn_no (by decide) _) (nn_no (by decide) _)) (nn_ite (nn_rec _ _ _) (nn_ite (nn_no (by decide) _) (nn_ite (nn_no (by decide) _) (nn_ite (nn_no (by decide) _) (nn_ite (nn_match _ _) (nn_ite (nn_no (by decide) _) (nn_ite (nn_join _ _) (nn_ite (nn_no (by decide) _) (nn_ite (nn_no (by decide) _) (nn_ite (nn_no (by decide) _) (nn_no (by decide) _)))))))))))))
theorem step_name {b : Bd} {o : OpD} {ts : List Tm} (ha : aloneB o = true) (hn : needsB o ≤ ts.length) (he : (stepE b o ts).1 = 8) : isVar o = true ∧ lookR b (bs o.term.s) = none := by
  rcases alone_kind ha with k | k | k | k | k
  · rw [step_val _ k] at he
    unfold valR at he
    split at he
    · rename_i h1
      split at he
      · rename_i h2
        exact ⟨by simp [isVar, k, h1], h2⟩
      · exact absurd (show (0 : Int) = 8 from he) (by decide)
    · exact absurd (show (0 : Int) = 8 from he) (by decide)
  · obtain ⟨l, t, rfl⟩ := last_of1 (by rw [needs_one (.inl k)] at hn; omega : 1 ≤ ts.length)
    rw [step_un _ _ k] at he
    exact absurd he (nn_un _ _)
  · obtain ⟨l, s, t, rfl⟩ := last_of2 (by rw [needs_two k] at hn; omega : 2 ≤ ts.length)
    rw [step_bin _ _ _ k] at he
    exact absurd he (nn_bin _ _ _)
  · obtain ⟨l, t, rfl⟩ := last_of1 (by rw [needs_one (.inr (.inl k))] at hn; omega : 1 ≤ ts.length)
    rw [step_lazy _ _ (.inl k)] at he
    split at he
    · exact absurd (show (7 : Int) = 8 from he) (by decide)
    · split at he <;> exact absurd (show (0 : Int) = 8 from he) (by decide)
  · obtain ⟨l, t, rfl⟩ := last_of1 (by rw [needs_one (.inr (.inr k))] at hn; omega : 1 ≤ ts.length)
    rw [step_lazy _ _ (.inr k)] at he
    split at he
    · exact absurd (show (7 : Int) = 8 from he) (by decide)
    · split at he <;> exact absurd (show (0 : Int) = 8 from he) (by decide)
theorem evR_name (b : Bd) : ∀ (n : Nat) (l : List OpD) (ts : List Tm), l.length ≤ n → wholeG ts.length l = true → (evR b l ts).1 = 8 → ∃ o ∈ l, isVar o = true ∧ lookR b (bs o.term.s) = none
  | n, [], ts, _, _, h => by rw [evR_nil] at h; exact absurd (show (0 : Int) = 8 from h) (by decide)
  | 0, _ :: _, _, h, _, _ => absurd h (by simp)
  | n + 1, o :: l, ts, hn, h, he => by
    simp only [List.length_cons] at hn
    have hc := h
    rw [wholeG_cons, Bool.and_eq_true, Bool.and_eq_true] at hc
    rw [evR_cons] at he
    by_cases hs : (stepE b o ts).1 = 0
    · rw [if_neg (by simpa using hs)] at he
      obtain ⟨o', ho', h'⟩ := evR_name b n _ _ (by split <;> (try simp only [List.length_drop]) <;> omega) (whole_step h hs) he
      refine ⟨o', List.mem_cons_of_mem _ ?_, h'⟩
      split at ho'
      · exact List.mem_of_mem_drop ho'
      · exact ho'
    · rw [if_pos hs] at he
      exact ⟨o, List.mem_cons_self, step_name hc.1.1 (of_decide_eq_true hc.1.2) he⟩
/-- An error of a name: one of the expression's names is not bound. -/
theorem name_law {b : Bd} {l : List OpD} (h : mayExprB l = true) (he : (evalT b l).2 = 8) : ∃ n ∈ namesE l, lookR b n = none := by
  have h1 : (evR b l []).1 = 8 := by
    unfold evalT at he
    split at he
    · exact he
    · exact absurd (show (0 : Int) = 8 from he) (by decide)
  obtain ⟨o, ho, hv, hl⟩ := evR_name b l.length l [] (Nat.le_refl _) (may_whole h).2 h1
  refine ⟨bs o.term.s, ?_, hl⟩
  unfold namesE
  rw [h]
  simp only [if_true]
  rw [mem_uniqL]
  unfold exprVars
  exact List.mem_map.2 ⟨o, List.mem_filter.2 ⟨ho, hv⟩, rfl⟩
end Go.Proofs.YtiplipdigabidaaGreat
