/- What expr.Eval reckons, as a plain function; an expression that may be keeps its stack right. -/
import Derived.Test.YtiplipdigabidaaGreatBind
import Derived.Test.YtiplipdigabidaaGreatExpr3

set_option linter.unusedVariables false
set_option linter.unusedSimpArgs false
namespace Go.Proofs.YtiplipdigabidaaGreat

/-- One operation: the error, the terms, whether the right side is left out. -/
def stepE (b : Bd) (o : OpD) (ts : List Tm) : Int × List Tm × Bool :=
  if o.kind = 1 then ((valR b o.term ts).1, (valR b o.term ts).2, false)
  else if o.kind = 2 then
    match ts.getLast? with
    | none => (0, ts, false)
    | some t => ((unR o.code t).2, ts.dropLast ++ [(unR o.code t).1], false)
  else if o.kind = 3 then
    match ts.dropLast.getLast?, ts.getLast? with
    | some s, some t => ((binR o.code s t).2, ts.dropLast.dropLast ++ [(binR o.code s t).1], false)
    | _, _ => (0, ts, false)
  else
    match ts.getLast? with
    | none => (0, ts, false)
    | some t => if t.kind ≠ 6 then (7, ts, false) else if (decide (t.n = 1) == decide (o.kind = 5)) = true then (0, ts, true) else (0, ts.dropLast, false)
/-- All of them. -/
def evG (b : Bd) : Nat → List OpD → List Tm → Int × List Tm
  | 0, _, ts => (0, ts)
  | _ + 1, [], ts => (0, ts)
  | n + 1, o :: r, ts => if (stepE b o ts).1 ≠ 0 then ((stepE b o ts).1, ts) else evG b n (if (stepE b o ts).2.2 = true then r.drop o.skip.toNat else r) (stepE b o ts).2.1
theorem evG_eq (b : Bd) : ∀ (n m : Nat) (l : List OpD) (ts : List Tm), l.length < n → l.length < m → evG b n l ts = evG b m l ts
  | 0, _, _, _, h, _ => absurd h (by omega)
  | _, 0, _, _, _, h => absurd h (by omega)
  | n + 1, m + 1, [], ts, _, _ => rfl
  | n + 1, m + 1, o :: r, ts, h, k => by
    simp only [List.length_cons] at h k
    unfold evG
    split
    · rfl
    · apply evG_eq
      · split <;> (try simp only [List.length_drop]) <;> omega
      · split <;> (try simp only [List.length_drop]) <;> omega
def evR (b : Bd) (l : List OpD) (ts : List Tm) : Int × List Tm := evG b (l.length + 1) l ts
theorem evR_nil (b : Bd) (ts : List Tm) : evR b [] ts = (0, ts) := rfl
theorem evR_cons (b : Bd) (o : OpD) (r : List OpD) (ts : List Tm) :
    evR b (o :: r) ts = if (stepE b o ts).1 ≠ 0 then ((stepE b o ts).1, ts) else evR b (if (stepE b o ts).2.2 = true then r.drop o.skip.toNat else r) (stepE b o ts).2.1 := by
  unfold evR
  rw [List.length_cons, evG]
  split
  · rfl
  · apply evG_eq
    · split <;> (try simp only [List.length_drop]) <;> omega
    · omega
/-- What expr.Eval tells of an expression that may be. -/
def evalT (b : Bd) (l : List OpD) : Tm × Int := if (evR b l []).1 ≠ 0 then (noT, (evR b l []).1) else ((evR b l []).2.getLast?.getD noT, 0)

theorem needs_lazy {o : OpD} (h : lazyB o = true) : needsB o = 1 := by
  unfold lazyB at h
  rw [Bool.or_eq_true, decide_eq_true_eq, decide_eq_true_eq] at h
  unfold needsB
  rw [if_neg (by omega), if_neg (by omega)]
theorem whole_append : ∀ (n : Nat) (l r : List OpD) (a s : Int), l.length ≤ n → 0 ≤ s → wholeG a l = true → wholeG (s + 1) r = true → wholeG (s + a) (l ++ r) = true
  | n, [], r, a, s, _, _, h, k => by
    rw [wholeG_nil, decide_eq_true_eq] at h
    subst h
    exact k
  | 0, _ :: _, _, _, _, h, _, _, _ => absurd h (by simp)
  | n + 1, o :: l, r, a, s, hn, hs, h, k => by
    simp only [List.length_cons] at hn
    rw [wholeG_cons, Bool.and_eq_true, Bool.and_eq_true] at h
    rw [List.cons_append, wholeG_cons, Bool.and_eq_true, Bool.and_eq_true]
    obtain ⟨⟨h1, h2⟩, h3⟩ := h
    have h2' := of_decide_eq_true h2
    refine ⟨⟨h1, decide_eq_true (by omega)⟩, ?_⟩
    by_cases hz : lazyB o = true
    · rw [if_pos hz] at h3 ⊢
      rw [Bool.and_eq_true, Bool.and_eq_true] at h3 ⊢
      obtain ⟨⟨h4, h5⟩, h6⟩ := h3
      have h4' := of_decide_eq_true h4
      have hle : o.skip.toNat ≤ l.length := by omega
      refine ⟨⟨decide_eq_true (by simp; omega), ?_⟩, ?_⟩
      · rw [List.take_append_of_le_length hle]; exact h5
      · rw [List.drop_append_of_le_length hle]
        have := whole_append n (l.drop o.skip.toNat) r _ s (by simp; omega) hs h6 k
        rw [show s + a + (1 - needsB o) = s + (a + (1 - needsB o)) by omega]
        exact this
    · rw [if_neg hz] at h3 ⊢
      have := whole_append n l r _ s (by omega) hs h3 k
      rw [show s + a + (1 - needsB o) = s + (a + (1 - needsB o)) by omega]
      exact this

/-- What an operation of an expression that may be finds on the stack, and what it leaves. -/
theorem whole_step {b : Bd} {o : OpD} {r : List OpD} {ts : List Tm} (h : wholeG ts.length (o :: r) = true) (he : (stepE b o ts).1 = 0) :
    wholeG (stepE b o ts).2.1.length (if (stepE b o ts).2.2 = true then r.drop o.skip.toNat else r) = true := by
  rw [wholeG_cons, Bool.and_eq_true, Bool.and_eq_true] at h
  obtain ⟨⟨h1, h2⟩, h3⟩ := h
  have h2' := of_decide_eq_true h2
  by_cases k1 : o.kind = 1
  · have hz : ¬ lazyB o = true := by simp [lazyB, k1]
    rw [if_neg hz] at h3
    have hn : needsB o = 0 := by simp [needsB, k1]
    rw [hn] at h3
    unfold stepE at he ⊢
    rw [if_pos k1] at he ⊢
    simp only [Bool.false_eq_true, if_false] at he ⊢
    have : ((valR b o.term ts).2.length : Int) = ts.length + (1 - 0) := by
      unfold valR at he ⊢
      split at he
      · split at he
        · exact absurd (show (8 : Int) = 0 from he) (by decide)
        · rename_i hk _ _ _
          rw [if_pos hk]; simp
      · rename_i hk
        rw [if_neg hk]; simp
    rw [this]; exact h3
  by_cases k2 : o.kind = 2
  · have hz : ¬ lazyB o = true := by simp [lazyB, k2]
    have hn : needsB o = 1 := by simp [needsB, k2]
    rw [if_neg hz, hn] at h3
    rw [hn] at h2'
    unfold stepE at he ⊢
    rw [if_neg k1, if_pos k2] at he ⊢
    rcases List.eq_nil_or_concat ts with rfl | ⟨l, t, rfl⟩
    · simp at h2'
    · simp only [List.concat_eq_append, List.getLast?_concat, List.dropLast_concat] at *
      simpa using h3
  by_cases k3 : o.kind = 3
  · have hz : ¬ lazyB o = true := by simp [lazyB, k3]
    have hn : needsB o = 2 := by simp [needsB, k3]
    rw [if_neg hz, hn] at h3
    rw [hn] at h2'
    unfold stepE at he ⊢
    rw [if_neg k1, if_neg k2, if_pos k3] at he ⊢
    rcases List.eq_nil_or_concat ts with rfl | ⟨l, t, rfl⟩
    · simp at h2'
    · rcases List.eq_nil_or_concat l with rfl | ⟨l, s, rfl⟩
      · simp at h2'
      · simp only [List.concat_eq_append, List.getLast?_concat, List.dropLast_concat] at *
        have e : ((l ++ [s] ++ [t]).length : Int) + (1 - 2) = (l ++ [(binR o.code s t).1]).length := by simp; omega
        rw [e] at h3
        simpa using h3
  · have hz : lazyB o = true := by
      unfold aloneB at h1
      rw [if_neg k1, if_neg k2, if_neg k3, Bool.and_eq_true, Bool.and_eq_true, Bool.and_eq_true] at h1
      exact h1.2.1.1
    have hn := needs_lazy hz
    rw [if_pos hz, hn, Bool.and_eq_true, Bool.and_eq_true] at h3
    rw [hn] at h2'
    unfold stepE at he ⊢
    rw [if_neg k1, if_neg k2, if_neg k3] at he ⊢
    rcases List.eq_nil_or_concat ts with rfl | ⟨l, t, rfl⟩
    · simp at h2'
    · simp only [List.concat_eq_append, List.getLast?_concat, List.dropLast_concat] at *
      split at he
      · exact absurd (show (7 : Int) = 0 from he) (by decide)
      · rename_i h6
        rw [if_neg h6]
        by_cases hq : (decide (t.n = 1) == decide (o.kind = 5)) = true
        · rw [if_pos hq]
          simpa using h3.2
        · rw [if_neg hq]
          have h4 := h3.2
          have e : ((l ++ [t]).length : Int) + (1 - 1) = l.length + 1 := by simp
          rw [e] at h4
          have := whole_append r.length (r.take o.skip.toNat) (r.drop o.skip.toNat) 0 l.length (by simp; omega) (by omega) h3.1.2 h4
          rw [List.take_append_drop] at this
          simpa using this
end Go.Proofs.YtiplipdigabidaaGreat

/- One operation of an expression that may be: whatever its kind, the method called tells stepE. -/
set_option linter.unusedVariables false
set_option linter.unusedSimpArgs false
namespace Go.Proofs.YtiplipdigabidaaGreat
open Go.ChangeShapes Go.WideShapes Go.ChangeAt Go.RowKit

/-- How far one comes. -/
def nextE (b : Bd) (o : OpD) (ts : List Tm) (next : Int) : Int := if (stepE b o ts).2.2 = true then wrap64 (next + o.skip) else next
/-- What a step tells. -/
def StepE (S base D : Nat) (bn bt : Value) (b : Bd) (o : OpD) (ts : List Tm) (next : Int) (w : World) (z : Ending) (w' : World) : Prop :=
  EvE S base D bn bt w w' (stepE b o ts).1 (stepE b o ts).2.1 (nextE b o ts next) z
theorem EvE.as {S base D : Nat} {bn bt : Value} {w w' : World} {e e' : Int} {ts ts' : List Tm} {n n' : Int} {z : Ending} (h : EvE S base D bn bt w w' e ts n z) (h1 : e = e') (h2 : e = 0 → ts = ts') (h3 : e = 0 → n = n') : EvE S base D bn bt w w' e' ts' n' z := by
  subst h1
  obtain ⟨k1, k2, k3⟩ := h
  exact ⟨k1, k2, fun he => by rw [← h2 he, ← h3 he]; exact k3 he⟩
theorem alone_kind {o : OpD} (h : aloneB o = true) : o.kind = 1 ∨ o.kind = 2 ∨ o.kind = 3 ∨ o.kind = 4 ∨ o.kind = 5 := by
  unfold aloneB at h
  split at h
  · exact .inl ‹_›
  · rw [Bool.and_eq_true] at h
    have h2 := h.2
    split at h2
    · exact .inr (.inl ‹_›)
    · split at h2
      · exact .inr (.inr (.inl ‹_›))
      · rw [Bool.and_eq_true, Bool.and_eq_true] at h2
        have h3 := h2.1.1
        unfold lazyB at h3
        rw [Bool.or_eq_true, decide_eq_true_eq, decide_eq_true_eq] at h3
        omega
theorem alone_term {o : OpD} (h : aloneB o = true) (h1 : o.kind = 1) : mayB o.term = true := by
  unfold aloneB at h
  rw [if_pos h1, Bool.and_eq_true] at h
  exact h.2
theorem may_leaves {t : Tm} (h : mayB t = true) : (∀ u ∈ t.l, Leaf u) ∧ t.l.length ≤ 16 := by
  unfold mayB at h
  split at h
  · rw [Bool.and_eq_true] at h
    exact ⟨(rising_parts h.2).2, (rising_parts h.2).1⟩
  · unfold flatMay at h
    rw [Bool.and_eq_true, decide_eq_true_eq] at h
    have : t.l = [] := List.eq_nil_of_length_eq_zero h.1
    rw [this]
    exact ⟨fun u hu => (List.not_mem_nil hu).elim, by simp⟩
section
variable {S base D B c cn ct : Nat} {b : Bd} {An At : Option Addr} {w : World} {xs : List SV} {next : Int} {A : Option Addr} {o : OpD} {ovs : List Value} {r : List OpD}
theorem step1 (hok : BdOk b) (hbn : RL StrR w B (b.names.map mkS) An) (hbt : RL (TmR (D + 1)) w B b.terms At)
    (h : StkE S base D (.slice An b.names.length cn) (.slice At b.terms.length ct) w xs next A c) (ho : (OpR (D + 1)).rd w B o ovs) (hm : aloneB o = true) (hB : B ≤ w.heap.size) (hb : base ≤ w.heap.size) (hn : xs.length ≤ 90000) (hk : o.kind = 1) :
    Calls Tryz.prog 34 #[.pointer (some ⟨S, 0, none⟩), .agg ovs.toArray] w fun z w' => StepE S base D (.slice An b.names.length cn) (.slice At b.terms.length ct) b o (xs.map SV.t) next w z w' := by
  have hl := may_leaves (alone_term hm hk)
  refine (evalue_any hok hbn hbt h ho hl.1 hl.2 hB hb hn).mono fun z w' hz => ?_
  unfold StepE nextE stepE
  rw [if_pos hk]
  exact hz.as rfl (fun _ => rfl) (fun _ => rfl)
theorem last_split {xs : List SV} (h : 1 ≤ xs.length) : ∃ ys x, xs = ys ++ [x] := by
  rcases List.eq_nil_or_concat xs with rfl | ⟨l, t, rfl⟩
  · simp at h
  · exact ⟨l, t, by simp⟩
theorem step2 {bn bt : Value} (h : StkE S base D bn bt w xs next A c) (ho : (OpR (D + 1)).rd w B o ovs) (hl : 1 ≤ xs.length) (hb : base ≤ w.heap.size) (hn : xs.length ≤ 90000) (hk : o.kind = 2) :
    Calls Tryz.prog 35 #[.pointer (some ⟨S, 0, none⟩), .agg ovs.toArray] w fun z w' => StepE S base D bn bt b o (xs.map SV.t) next w z w' := by
  obtain ⟨ys, x, rfl⟩ := last_split hl
  rw [List.length_append] at hn
  refine (eunary_any h ho hb (by omega)).mono fun z w' hz => ?_
  unfold StepE nextE stepE
  rw [if_neg (by omega), if_pos hk]
  simp only [List.map_append, List.map_cons, List.map_nil, List.getLast?_concat, List.dropLast_concat]
  exact hz.as rfl (fun _ => rfl) (fun _ => rfl)
theorem step3 {bn bt : Value} {m : Int} (h : StkE S base D bn bt w xs next A c) (ho : (OpR (D + 1)).rd w B o ovs) (hl : 2 ≤ xs.length) (hb : base ≤ w.heap.size) (hS0 : 0 < S) (hn : xs.length ≤ 90000) (hm : w.cell? ⟨0, 0, none⟩ = some (.int .i64 m)) (h0 : 0 < base) (hk : o.kind = 3) :
    Calls Tryz.prog 36 #[.pointer (some ⟨S, 0, none⟩), .agg ovs.toArray] w fun z w' => StepE S base D bn bt b o (xs.map SV.t) next w z w' := by
  obtain ⟨zs, x, rfl⟩ := last_split (show 1 ≤ xs.length by omega)
  rw [List.length_append, List.length_singleton] at hl hn
  obtain ⟨ys, y, rfl⟩ := last_split (show 1 ≤ zs.length by omega)
  rw [List.length_append] at hn
  refine (ebinary_any h ho hb hS0 (by omega) hm h0).mono fun z w' hz => ?_
  unfold StepE nextE stepE
  rw [if_neg (by omega), if_neg (by omega), if_pos hk]
  simp only [List.map_append, List.map_cons, List.map_nil, List.getLast?_concat, List.dropLast_concat]
  exact hz.as rfl (fun _ => rfl) (fun _ => rfl)
theorem step4 {bn bt : Value} (h : StkE S base D bn bt w xs next A c) (ho : (OpR (D + 1)).rd w B o ovs) (hl : 1 ≤ xs.length) (hb : base ≤ w.heap.size) (hn : xs.length ≤ 90000) (hk : o.kind = 4 ∨ o.kind = 5) :
    Calls Tryz.prog 37 #[.pointer (some ⟨S, 0, none⟩), .agg ovs.toArray] w fun z w' => StepE S base D bn bt b o (xs.map SV.t) next w z w' := by
  obtain ⟨ys, x, rfl⟩ := last_split hl
  rw [List.length_append] at hn
  refine (edecides_any h ho hb (by omega)).mono fun z w' hz => ?_
  unfold StepE nextE stepE
  rw [if_neg (by omega), if_neg (by omega), if_neg (by omega)]
  simp only [List.map_append, List.map_cons, List.map_nil, List.getLast?_concat, List.dropLast_concat]
  unfold decR at hz
  by_cases h6 : x.t.kind = 6
  · rw [if_neg (by simp [h6])] at hz ⊢
    by_cases hq : (decide (x.t.n = 1) == decide (o.kind = 5)) = true
    · rw [if_pos hq] at hz ⊢
      exact hz.as rfl (fun _ => rfl) (fun _ => rfl)
    · rw [if_neg hq] at hz ⊢
      exact hz.as rfl (fun _ => rfl) (fun _ => rfl)
  · rw [if_pos h6] at hz ⊢
    exact hz.as rfl (fun he => absurd (show (7 : Int) = 0 from he) (by decide)) (fun he => absurd (show (7 : Int) = 0 from he) (by decide))
end
theorem stepE_len (b : Bd) (o : OpD) (ts : List Tm) : (stepE b o ts).2.1.length ≤ ts.length + 1 := by
  unfold stepE
  split
  · unfold valR
    split
    · split <;> simp
    · simp
  · split
    · split <;> simp
    · split
      · split <;> simp <;> omega
      · split
        · simp
        · split
          · simp
          · split
            · simp
            · simp; omega
/-- A round, in plain words. -/
theorem round_law {ops : List OpD} {b : Bd} {ts : List Tm} {k : Nat} {o : OpD} (ho : ops[k]? = some o) (hwh : wholeG ts.length (ops.drop k) = true) (hev : evR b ops [] = evR b (ops.drop k) ts) (h32 : ops.length ≤ 32) :
    aloneB o = true ∧ needsB o ≤ ts.length ∧ ((stepE b o ts).1 ≠ 0 → (evR b ops []).1 = (stepE b o ts).1) ∧
      ((stepE b o ts).1 = 0 → ∃ k' : Nat, k < k' ∧ k' ≤ ops.length ∧ nextE b o ts ((k : Int) + 1) = k' ∧ wholeG (stepE b o ts).2.1.length (ops.drop k') = true ∧ evR b ops [] = evR b (ops.drop k') (stepE b o ts).2.1) := by
  have hk : k < ops.length := by
    rcases Nat.lt_or_ge k ops.length with h | h
    · exact h
    · rw [List.getElem?_eq_none h] at ho; cases ho
  have hd : ops.drop k = o :: ops.drop (k + 1) := by
    rw [List.drop_eq_getElem_cons hk]
    rw [List.getElem?_eq_getElem hk] at ho
    simp only [Option.some.injEq] at ho
    rw [ho]
  rw [hd] at hwh hev
  have hc := hwh
  rw [wholeG_cons, Bool.and_eq_true, Bool.and_eq_true, decide_eq_true_eq] at hc
  refine ⟨hc.1.1, hc.1.2, fun he => ?_, fun he => ?_⟩
  · rw [hev, evR_cons, if_pos he]
  · have hst := whole_step hwh he
    rw [evR_cons, if_neg (by simpa using he)] at hev
    by_cases hs : (stepE b o ts).2.2 = true
    · rw [if_pos hs] at hst hev
      have hz : lazyB o = true := by
        rcases alone_kind hc.1.1 with h | h | h | h | h
        · unfold stepE at hs; rw [if_pos h] at hs; cases hs
        · unfold stepE at hs; rw [if_neg (by omega), if_pos h] at hs; split at hs <;> cases hs
        · unfold stepE at hs; rw [if_neg (by omega), if_neg (by omega), if_pos h] at hs; split at hs <;> cases hs
        · simp [lazyB, h]
        · simp [lazyB, h]
      have h3 := hc.2
      rw [if_pos hz, Bool.and_eq_true, Bool.and_eq_true, decide_eq_true_eq] at h3
      have hsk : 1 ≤ o.skip := by
        have h1 := hc.1.1
        unfold aloneB at h1
        unfold lazyB at hz
        rw [Bool.or_eq_true, decide_eq_true_eq, decide_eq_true_eq] at hz
        rw [if_neg (by omega), if_neg (by omega), if_neg (by omega), Bool.and_eq_true, Bool.and_eq_true, decide_eq_true_eq] at h1
        exact h1.2.2
      have hle := h3.1.1
      rw [List.length_drop] at hle
      refine ⟨k + 1 + o.skip.toNat, by omega, by omega, ?_, ?_, ?_⟩
      · unfold nextE
        rw [if_pos hs]
        unfold wrap64
        omega
      · rw [List.drop_drop] at hst
        exact hst
      · rw [List.drop_drop] at hev
        exact hev
    · rw [if_neg hs] at hst hev
      refine ⟨k + 1, by omega, by omega, ?_, hst, hev⟩
      unfold nextE
      rw [if_neg hs]; simp
end Go.Proofs.YtiplipdigabidaaGreat

