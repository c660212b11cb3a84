/- viaticumlaw12.awake. -/
import Derived.Test.YtiplipdigabidaaGreatUniq
import Derived.Test.YtiplipdigabidaaGreatMapF
import Derived.Test.YtiplipdigabidaaGreatEval
set_option linter.unusedVariables false
set_option linter.unusedSimpArgs false
namespace Go.Proofs.YtiplipdigabidaaGreat
open Go.ChangeShapes Go.WideShapes Go.ChangeAt Go.RowKit
theorem rise_parts {l : List Tm} {i : Nat} (h : riseAt l i = true) (hi : i < l.length) : fixedB l[i] = true ∧ l[i].kind ≠ 7 ∧ l[i].kind = headK l ∧ (0 < i → cmpT 3 (l[i - 1]'(by omega)) l[i] < 0) := by
 unfold riseAt at h
 rw [List.getElem?_eq_getElem hi, List.getElem?_eq_getElem (show 0 < l.length by omega), List.getElem?_eq_getElem (show i - 1 < l.length by omega)] at h
 simp only [Bool.and_eq_true, Bool.or_eq_true, decide_eq_true_eq] at h
 obtain ⟨⟨⟨h1, h2⟩, h3⟩, h4⟩ := h
 have h7 : l[i].kind ≠ 7 := by
   intro h7
   unfold flatMay at h1
   simp [h7] at h1
 refine ⟨?_, h7, ?_, fun h0 => ?_⟩
 · unfold fixedB mayB
   rw [if_neg h7, h1, decide_eq_true h2]; rfl
 · rw [h3]
   cases l with
   | nil => simp at hi
   | cons a l => rfl
 · rcases h4 with h4 | h4
   · omega
   · exact h4
theorem rising_ok {l : List Tm} (h : risingB l = true) : OkL l := by
 unfold risingB at h
 rw [Bool.and_eq_true, List.all_eq_true, decide_eq_true_eq] at h
 obtain ⟨hr, hn⟩ := h
 have hp : ∀ i (hi : i < l.length), _ := fun i hi => rise_parts (hr i (List.mem_range.2 hi)) hi
 refine ⟨?_, fun t ht => ?_, hn⟩
 · rw [List.pairwise_iff_getElem]
   intro i j hi hj hij
   induction j with
   | zero => omega
   | succ j ih =>
     have h1 := (hp (j + 1) hj).2.2.2 (by omega)
     simp only [Nat.add_sub_cancel] at h1
     by_cases he : i = j
     · subst he; exact h1
     · have h2 := ih (by omega) (by omega)
       exact (cmpT_ord 3).lt_le h2 (by omega)
 · obtain ⟨i, hi, rfl⟩ := List.getElem_of_mem ht
   obtain ⟨h1, h2, h3, _⟩ := hp i hi
   exact badB_not.2 ⟨h1, h2, h3⟩
theorem fixed_ok {x : Int} {s : ByteArray} {l : List Tm} (h : fixedB ⟨7, x, s, l⟩ = true) : OkL l := by
 have := fixed_parts h
 rw [if_pos rfl] at this
 exact rising_ok this.2.2
theorem ok_filter {l : List Tm} (p : Tm → Bool) (h : OkL l) : OkL (l.filter p) := by
 refine ⟨h.rise.filter p, fun t ht => ?_, Nat.le_trans (List.length_filter_le _ _) h.few⟩
 have hm := (List.mem_filter.1 ht).1
 obtain ⟨u, hu, hk⟩ := headK_mem (l := l.filter p) (fun e => by rw [e] at ht; cases ht)
 have h1 := badB_not.1 (h.good t hm)
 have h2 := badB_not.1 (h.good u (List.mem_filter.1 hu).1)
 exact badB_not.2 ⟨h1.1, h1.2.1, by rw [← hk, h2.2.2, h1.2.2]⟩
theorem fixed_bool (b : Bool) : fixedB (boolT b) = true := by cases b <;> simp [boolT, bit, fixedB, mayB, flatMay, emp] <;> rfl
theorem fixed_intT (n : Int) : fixedB (intT n) = true := fixed_int' n
where fixed_int' (x : Int) : fixedB ⟨2, x, emp, []⟩ = true := by simp [fixedB, mayB, flatMay, emp]; rfl
theorem fixed_txt {s : ByteArray} (h : s.size ≤ 256) : fixedB ⟨3, 0, s, []⟩ = true := by simp [fixedB, mayB, flatMay, h]
def Told (r : Tm × Int) : Prop := (r.2 = 0 → fixedB r.1 = true) ∧ (r.2 ≠ 0 → r.1.kind = 0)
theorem told_no (e : Int) (he : e ≠ 0) : Told (noT, e) := ⟨fun h => absurd h he, fun _ => rfl⟩
theorem told_ok {t : Tm} (h : fixedB t = true) : Told (t, 0) := ⟨fun _ => h, fun h => absurd rfl h⟩
theorem told_rec (code a b : Int) : Told (recT (recR code a b)) := by
 rcases rec_is code a b with ⟨h, _⟩ | ⟨e, h, he⟩
 · rw [h]; exact told_ok (fixed_intT _)
 · rw [h]
   refine ⟨fun h0 => ?_, fun _ => rfl⟩
   have h0 : e = 0 := h0
   omega
theorem told_ite {c : Prop} [Decidable c] {x y : Tm × Int} (h1 : c → Told x) (h2 : ¬ c → Told y) : Told (if c then x else y) := by
 by_cases h : c
 · rw [if_pos h]; exact h1 h
 · rw [if_neg h]; exact h2 h
theorem told_un (code : Int) (a : Tm) : Told (unR code a) := by
 unfold unR
 exact told_ite (fun _ => told_no _ (by decide)) fun _ => told_ite (fun _ => told_ok (fixed_bool _)) fun _ => told_ite (fun _ => told_rec _ _ _) fun _ => told_ite (fun _ => told_ok (fixed_intT _)) fun _ => told_ite (fun _ => told_ok (fixed_intT _)) fun _ => told_no _ (by decide)
theorem told_join {a b : Tm} : Told (joinR a b) := by
 unfold joinR
 split
 · exact told_no _ (by decide)
 · split
   · exact told_no _ (by decide)
   · unfold setR
     split
     · rename_i h
       exact told_ok (ok_fixed (set_ok h))
     · exact told_no _ (by decide)
theorem told_match (p t : ByteArray) : Told (matchR p t) := by
 unfold matchR
 exact told_ite (fun h => told_no _ h) fun _ => told_ok (fixed_bool _)
theorem told_bin (code : Int) (a b : Tm) : Told (binR code a b) := by
 unfold binR
 refine told_ite (fun _ => told_no _ (by decide)) fun h1 => told_ite (fun _ => told_no _ (by decide)) fun hk => ?_
 have fa : fixedB a = true := by
   rcases Bool.eq_false_or_eq_true (fixedB a) with h | h
   · exact h
   · exact absurd (.inl h) h1
 have hk2 : kindsB code a.kind b.kind = true := by
   rcases Bool.eq_false_or_eq_true (kindsB code a.kind b.kind) with h | h
   · exact h
   · exact absurd h hk
 refine told_ite (fun _ => told_ite (fun hl => told_ok (fixed_txt (by rw [ByteArray.size_append]; exact hl))) fun _ => told_no _ (by decide)) fun _ => told_ite (fun _ => told_rec _ _ _) fun _ => told_ite (fun _ => told_ok (fixed_bool _)) fun _ => told_ite (fun _ => told_ok (fixed_bool _)) fun _ => told_ite (fun _ => told_ok (fixed_bool _)) fun _ => told_ite (fun _ => told_match _ _) fun _ => told_ite (fun h15 => ?_) fun _ => told_ite (fun _ => told_join) fun _ => told_ite (fun _ => told_ok (fixed_intT _)) fun _ => told_ite (fun _ => told_ok (fixed_intT _)) fun _ => told_ite (fun _ => told_ok (fixed_intT _)) fun _ => told_ok (fixed_bool _)
 obtain ⟨h7, _⟩ := kinds_set hk2 (.inl h15)
 obtain ⟨ka, x, s, l⟩ := a
 subst h7
 exact told_ok (ok_fixed (ok_filter _ (fixed_ok fa)))
theorem val_shift (b : Bd) (t : Tm) (p ts : List Tm) : valR b t (p ++ ts) = ((valR b t ts).1, p ++ (valR b t ts).2) := by
 unfold valR
 split
 · split <;> simp
 · simp
theorem last_of1 {ts : List Tm} (h : 1 ≤ ts.length) : ∃ l t, ts = l ++ [t] := by
 rcases List.eq_nil_or_concat ts with rfl | ⟨l, t, rfl⟩
 · simp at h
 · exact ⟨l, t, by simp⟩
theorem last_of2 {ts : List Tm} (h : 2 ≤ ts.length) : ∃ l s t, ts = l ++ [s] ++ [t] := by
 obtain ⟨l, t, rfl⟩ := last_of1 (by omega : 1 ≤ ts.length)
 obtain ⟨k, s, rfl⟩ := last_of1 (ts := l) (by simp at h; omega)
 exact ⟨k, s, t, rfl⟩
theorem step_val {b : Bd} {o : OpD} (ts : List Tm) (k : o.kind = 1) : stepE b o ts = ((valR b o.term ts).1, (valR b o.term ts).2, false) := by
 unfold stepE; rw [if_pos k]
theorem step_un {b : Bd} {o : OpD} (l : List Tm) (t : Tm) (k : o.kind = 2) : stepE b o (l ++ [t]) = ((unR o.code t).2, l ++ [(unR o.code t).1], false) := by
 unfold stepE; rw [if_neg (by omega), if_pos k]; simp only [List.getLast?_concat, List.dropLast_concat]
theorem step_bin {b : Bd} {o : OpD} (l : List Tm) (s t : Tm) (k : o.kind = 3) : stepE b o (l ++ [s] ++ [t]) = ((binR o.code s t).2, l ++ [(binR o.code s t).1], false) := by
 unfold stepE; rw [if_neg (by omega), if_neg (by omega), if_pos k]; simp only [List.getLast?_concat, List.dropLast_concat]
theorem step_lazy {b : Bd} {o : OpD} (l : List Tm) (t : Tm) (k : o.kind = 4 ∨ o.kind = 5) : stepE b o (l ++ [t]) = if t.kind ≠ 6 then (7, l ++ [t], false) else if (decide (t.n = 1) == decide (o.kind = 5)) = true then (0, l ++ [t], true) else (0, l, false) := by
 unfold stepE; rw [if_neg (by omega), if_neg (by omega), if_neg (by omega)]; simp only [List.getLast?_concat, List.dropLast_concat]
theorem needs_one {o : OpD} (k : o.kind = 2 ∨ o.kind = 4 ∨ o.kind = 5) : needsB o = 1 := by
 unfold needsB; rw [if_neg (by omega), if_neg (by omega)]
theorem needs_two {o : OpD} (k : o.kind = 3) : needsB o = 2 := by
 unfold needsB; rw [if_neg (by omega), if_pos k]
theorem step_shift {b : Bd} {o : OpD} {ts : List Tm} (p : List Tm) (ha : aloneB o = true) (hn : needsB o ≤ ts.length) :
   stepE b o (p ++ ts) = ((stepE b o ts).1, p ++ (stepE b o ts).2.1, (stepE b o ts).2.2) := by
 rcases alone_kind ha with k | k | k | k | k
 · rw [step_val _ k, step_val _ k, val_shift]
 · obtain ⟨l, t, rfl⟩ := last_of1 (by rw [needs_one (.inl k)] at hn; omega : 1 ≤ ts.length)
   rw [← List.append_assoc, step_un _ _ k, step_un _ _ k]
   simp only [List.append_assoc]
 · obtain ⟨l, s, t, rfl⟩ := last_of2 (by rw [needs_two k] at hn; omega : 2 ≤ ts.length)
   rw [← List.append_assoc, ← List.append_assoc, step_bin _ _ _ k, step_bin _ _ _ k]
   simp only [List.append_assoc]
 · obtain ⟨l, t, rfl⟩ := last_of1 (by rw [needs_one (.inr (.inl k))] at hn; omega : 1 ≤ ts.length)
   rw [← List.append_assoc, step_lazy _ _ (.inl k), step_lazy _ _ (.inl k)]
   split
   · simp only [List.append_assoc]
   · split <;> simp only [List.append_assoc]
 · obtain ⟨l, t, rfl⟩ := last_of1 (by rw [needs_one (.inr (.inr k))] at hn; omega : 1 ≤ ts.length)
   rw [← List.append_assoc, step_lazy _ _ (.inr k), step_lazy _ _ (.inr k)]
   split
   · simp only [List.append_assoc]
   · split <;> simp only [List.append_assoc]
theorem step_skip {b : Bd} {o : OpD} {r ts : List OpD} {us : List Tm} (h : wholeG us.length (o :: r) = true) (hs : (stepE b o us).2.2 = true) : o.skip.toNat ≤ r.length := by
 rw [wholeG_cons, Bool.and_eq_true, Bool.and_eq_true] at h
 have hz : lazyB o = true := by
   rcases alone_kind h.1.1 with k | k | k | k | k
   · rw [step_val _ k] at hs; cases hs
   · obtain ⟨l, t, rfl⟩ := last_of1 (by have := of_decide_eq_true h.1.2; rw [needs_one (.inl k)] at this; omega : 1 ≤ us.length)
     rw [step_un _ _ k] at hs; cases hs
   · obtain ⟨l, s, t, rfl⟩ := last_of2 (by have := of_decide_eq_true h.1.2; rw [needs_two k] at this; omega : 2 ≤ us.length)
     rw [step_bin _ _ _ k] at hs; cases hs
   · simp [lazyB, k]
   · simp [lazyB, k]
 have h3 := h.2
 rw [if_pos hz, Bool.and_eq_true, Bool.and_eq_true, decide_eq_true_eq] at h3
 have := h3.1.1
 omega
theorem evR_app (b : Bd) : ∀ (n : Nat) (l r : List OpD) (p ts : List Tm), l.length ≤ n → wholeG ts.length l = true →
   evR b (l ++ r) (p ++ ts) = if (evR b l ts).1 ≠ 0 then ((evR b l ts).1, p ++ (evR b l ts).2) else evR b r (p ++ (evR b l ts).2)
 | n, [], r, p, ts, _, _ => by rw [evR_nil]; rfl
 | 0, _ :: _, _, _, _, h, _ => absurd h (by simp)
 | n + 1, o :: l, r, p, ts, hn, h => by
   simp only [List.length_cons] at hn
   have hc := h
   rw [wholeG_cons, Bool.and_eq_true, Bool.and_eq_true] at hc
   rw [List.cons_append, evR_cons, evR_cons b o l ts, step_shift p hc.1.1 (of_decide_eq_true hc.1.2)]
   by_cases he : (stepE b o ts).1 = 0
   · have hst := whole_step h he
     simp only [he, ne_eq, not_true_eq_false, if_false]
     by_cases hs : (stepE b o ts).2.2 = true
     · have hk := step_skip (ts := []) h hs
       simp only [hs, if_true] at hst ⊢
       rw [List.drop_append_of_le_length hk]
       exact evR_app b n _ r p _ (by simp; omega) hst
     · simp only [hs, Bool.false_eq_true, if_false] at hst ⊢
       exact evR_app b n _ r p _ (by omega) hst
   · simp only [he, ne_eq, not_false_eq_true, if_true]
theorem evR_len (b : Bd) : ∀ (n : Nat) (l : List OpD) (ts : List Tm), l.length ≤ n → wholeG ts.length l = true → (evR b l ts).1 = 0 → (evR b l ts).2.length = 1
 | n, [], ts, _, h, _ => by
   rw [wholeG_nil, decide_eq_true_eq] at h
   rw [evR_nil]
   show ts.length = 1
   omega
 | 0, _ :: _, _, h, _, _ => absurd h (by simp)
 | n + 1, o :: l, ts, hn, h, he => by
   simp only [List.length_cons] at hn
   rw [evR_cons] at he ⊢
   by_cases hs : (stepE b o ts).1 = 0
   · rw [if_neg (by simpa using hs)] at he ⊢
     exact evR_len b n _ _ (by split <;> (try simp only [List.length_drop]) <;> omega) (whole_step h hs) he
   · rw [if_pos hs] at he
     exact absurd he hs
def Goods (ts : List Tm) : Prop := ∀ t ∈ ts, fixedB t = true
theorem Goods.add {l : List Tm} {t : Tm} (h : Goods l) (ht : fixedB t = true) : Goods (l ++ [t]) := fun u hu => by
 rcases List.mem_append.1 hu with h1 | h1
 · exact h u h1
 · rw [List.mem_singleton] at h1; rw [h1]; exact ht
theorem Goods.left {l r : List Tm} (h : Goods (l ++ r)) : Goods l := fun u hu => h u (List.mem_append_left _ hu)
theorem may_fixed {t : Tm} (h : mayB t = true) (hk : t.kind ≠ 1) : fixedB t = true := by
 unfold fixedB; simp [h, hk]
theorem step_good {b : Bd} {o : OpD} {ts : List Tm} (hok : BdOk b) (ha : aloneB o = true) (hn : needsB o ≤ ts.length) (hg : Goods ts) (he : (stepE b o ts).1 = 0) : Goods (stepE b o ts).2.1 := by
 rcases alone_kind ha with k | k | k | k | k
 · rw [step_val _ k] at he ⊢
   unfold valR at he ⊢
   split at he
   · rename_i h1
     split at he
     · exact absurd (show (8 : Int) = 0 from he) (by decide)
     · rename_i u hu
       rw [if_pos h1]
       simp only [hu]
       exact hg.add (hok.fixed u (lookR_mem hu))
   · rename_i h1
     rw [if_neg h1]
     exact hg.add (may_fixed (alone_term ha k) h1)
 · obtain ⟨l, t, rfl⟩ := last_of1 (by rw [needs_one (.inl k)] at hn; omega : 1 ≤ ts.length)
   rw [step_un _ _ k] at he ⊢
   exact hg.left.add ((told_un o.code t).1 he)
 · obtain ⟨l, s, t, rfl⟩ := last_of2 (by rw [needs_two k] at hn; omega : 2 ≤ ts.length)
   rw [step_bin _ _ _ k] at he ⊢
   exact hg.left.left.add ((told_bin o.code s t).1 he)
 · obtain ⟨l, t, rfl⟩ := last_of1 (by rw [needs_one (.inr (.inl k))] at hn; omega : 1 ≤ ts.length)
   rw [step_lazy _ _ (.inl k)]
   split
   · exact hg
   · split
     · exact hg
     · exact hg.left
 · obtain ⟨l, t, rfl⟩ := last_of1 (by rw [needs_one (.inr (.inr k))] at hn; omega : 1 ≤ ts.length)
   rw [step_lazy _ _ (.inr k)]
   split
   · exact hg
   · split
     · exact hg
     · exact hg.left
theorem evR_good {b : Bd} (hok : BdOk b) : ∀ (n : Nat) (l : List OpD) (ts : List Tm), l.length ≤ n → wholeG ts.length l = true → Goods ts → (evR b l ts).1 = 0 → Goods (evR b l ts).2
 | n, [], ts, _, _, hg, _ => by rw [evR_nil]; exact hg
 | 0, _ :: _, _, h, _, _, _ => absurd h (by simp)
 | n + 1, o :: l, ts, hn, h, hg, he => by
   simp only [List.length_cons] at hn
   have hc := h
   rw [wholeG_cons, Bool.and_eq_true, Bool.and_eq_true] at hc
   rw [evR_cons] at he ⊢
   by_cases hs : (stepE b o ts).1 = 0
   · rw [if_neg (by simpa using hs)] at he ⊢
     exact evR_good hok n _ _ (by split <;> (try simp only [List.length_drop]) <;> omega) (whole_step h hs) (step_good hok hc.1.1 (of_decide_eq_true hc.1.2) hg hs) he
   · rw [if_pos hs] at he
     exact absurd he hs
theorem evT_parts {b : Bd} {l : List OpD} (hok : BdOk b) (hw : wholeG 0 l = true) : (∃ t, evalT b l = (t, 0) ∧ evR b l [] = (0, [t]) ∧ fixedB t = true) ∨ (∃ e ts, e ≠ 0 ∧ evalT b l = (noT, e) ∧ evR b l [] = (e, ts)) := by
 by_cases he : (evR b l []).1 = 0
 · have h1 := evR_len b l.length l [] (Nat.le_refl _) hw he
   have h2 := evR_good hok l.length l [] (Nat.le_refl _) hw (fun _ h => by cases h) he
   generalize hr : evR b l [] = r at *
   obtain ⟨e, ts⟩ := r
   simp only at he h1 h2
   subst he
   match ts, h1 with
   | [t], _ =>
     refine .inl ⟨t, ?_, rfl, h2 t (by simp)⟩
     unfold evalT
     rw [hr]; rfl
 · refine .inr ⟨(evR b l []).1, (evR b l []).2, he, ?_, rfl⟩
   unfold evalT
   rw [if_pos he]
open Go.ChangeShapes Go.WideShapes Go.ChangeAt Go.RowKit
def evalE (b : Bd) (ops : List OpD) : Tm × Int := if (mayExprB ops && bindB b) = true then evalT b ops else (noT, 1)
open Go.ChangeShapes Go.WideShapes Go.ChangeAt Go.RowKit
theorem ret_op {fn : Func} {tmps : Array Value} {p : Tmp} {g : Nat} {w : World} {cs : Array Value} (h : fn.results = #[.cell p 35]) (hp : tmps.getD p undef = .pointer (some ⟨g, 0, none⟩)) (hb : Blk w g cs) (hn : cs.size = 7) :
   (results fn tmps).run Tryz.prog w = .ok (.agg cs) w := by
 obtain ⟨T, hb⟩ := hb
 exact results_cell_row h tmps w g T cs (0, 0) _ hp hb Tryz.underlying35 rfl (by rw [hn]; kernel_rfl)
theorem Blk.rls {α : Type} {R : Reader α} {w : World} {B b : Nat} {xs : List α} {cells : Array Value} (h : Blk w b cells) (hf : Flat R w B xs cells.toList) (hb : b < B) : RL R w B xs (some ⟨b, 0, none⟩) := fun _ =>
 ⟨b, 0, rfl, hb, fun i hi => ⟨_, R.len (hf.2 i hi), ⟨xs[i], List.getElem?_eq_getElem hi, hf.2 i hi⟩, fun j v hj => by
   rw [List.getElem?_take] at hj
   split at hj
   · rw [List.getElem?_drop] at hj
     rw [Nat.zero_add, h.cell, ← Array.getElem?_toList]
     exact hj
   · cases hj⟩⟩
def opT (n : Int) : OpD := ⟨1, ⟨2, n, ⟨#[]⟩, []⟩, 0, 0⟩
def opC (c : Int) : OpD := ⟨3, ⟨0, 0, ⟨#[]⟩, []⟩, c, 0⟩
def opV (k : Int) (t : Tm) (c s : Int) : List Value := [.int .i64 k, .int .i64 t.kind, .int .i64 t.n, .string t.s, .slice none 0 0, .int .i64 c, .int .i64 s]
theorem op_rd {w : World} {B : Nat} {o : OpD} (d : Nat) (h1 : I64 o.kind) (h2 : I64 o.code) (h3 : I64 o.skip) (k1 : I64 o.term.kind) (k2 : I64 o.term.n) (k3 : o.term.s.size ≤ 140737488351232) (k4 : o.term.l = []) : (OpR (d + 1)).rd w B o (opV o.kind o.term o.code o.skip) := by
 obtain ⟨k, ⟨tk, n, s, l⟩, c, sk⟩ := o
 simp only at k4
 subst k4
 exact ⟨[.int .i64 tk, .int .i64 n, .string s, .slice none 0 0], rfl, h1, h2, h3, none, 0, rfl, Nat.le_refl _, ⟨by simp, by omega⟩, k3, k1, k2, fun h => absurd h (by simp)⟩
theorem i64_lit {n : Int} (h : -1000000 ≤ n) (h' : n ≤ 1000000) : I64 n := by unfold I64; omega
theorem opT_rd {w : World} {B : Nat} (d : Nat) {n : Int} (h : -1000000 ≤ n) (h' : n ≤ 1000000) : (OpR (d + 1)).rd w B (opT n) (opV 1 ⟨2, n, ⟨#[]⟩, []⟩ 0 0) :=
 op_rd (o := opT n) d (i64_lit (by simp [opT]) (by simp [opT])) (i64_lit (by simp [opT]) (by simp [opT])) (i64_lit (by simp [opT]) (by simp [opT])) (i64_lit (by simp [opT]) (by simp [opT])) (i64_lit h h') (show (0 : Nat) ≤ 140737488351232 by omega) rfl
theorem opC_rd {w : World} {B : Nat} (d : Nat) {n : Int} (h : -1000000 ≤ n) (h' : n ≤ 1000000) : (OpR (d + 1)).rd w B (opC n) (opV 3 ⟨0, 0, ⟨#[]⟩, []⟩ n 0) :=
 op_rd (o := opC n) d (i64_lit (by simp [opC]) (by simp [opC])) (i64_lit h h') (i64_lit (by simp [opC]) (by simp [opC])) (i64_lit (by simp [opC]) (by simp [opC])) (i64_lit (by simp [opC]) (by simp [opC])) (show (0 : Nat) ≤ 140737488351232 by omega) rfl
theorem awake_eval : evalE ⟨[], []⟩ [opT 1, opT 2, opC 7] = (⟨2, 3, ⟨#[]⟩, []⟩, 0) := by kernel_rfl
set_option maxRecDepth 100000 in
set_option maxHeartbeats 1000000 in
theorem number12_any (n : Int) (w : World) :
   Calls Tryz.prog 33 #[.int .i64 n] w fun e w' => e = .returned (.agg #[.int .i64 1, .int .i64 2, .int .i64 n, .string ⟨#[]⟩, .slice none 0 0, .int .i64 0, .int .i64 0]) ∧ Below w.heap.size w w' := by
 go_enter Tryz.func33, Tryz.ntmps33
 go_wp2_with fail
 generalize hW : World.alloc _ _ = w1
 obtain ⟨hb1, hz⟩ := al1 hW
 have b_r := n11 hW
 have HB1 := Lib.hid hb1
 clear hW hb1
 have k_r := b_r.cell
 have f_r := b_r.free
 have l_r := b_r.lt
 go_wp2_with fail
 exact bodyPost_ret (ret_op rfl rfl b_r rfl) rfl ⟨rfl, HB1.out⟩
set_option maxRecDepth 100000 in
set_option maxHeartbeats 4000000 in
theorem awake12_any {w : World} {m : Int} (hm : w.cell? ⟨0, 0, none⟩ = some (.int .i64 m)) (h0 : 0 < w.heap.size) :
   Calls Tryz.prog 13 #[] w fun z w' => z = .returned (.bool true) ∧ Below w.heap.size w w' := by
 have HM := Lib.hid hm
 clear hm
 go_enter Tryz.func13, Tryz.ntmps13
 go_wp2_with fail
 refine (number12_any 1 _).mono ?_
 rintro x w1 ⟨rfl, hb⟩
 have HB1 := Lib.hid hb
 clear hb
 go_wp2_with fail
 refine (number12_any 2 _).mono ?_
 rintro x w2 ⟨rfl, hb⟩
 have HB2 := Lib.hid (bthen HB1.out hb)
 clear hb
 go_wp2_with fail
 generalize hW : World.alloc _ _ = w3
 obtain ⟨hb, hz⟩ := al1 hW
 have b_o := n11 hW
 have HB3 := Lib.hid (bthen HB2.out hb)
 clear hb hW
 have hsz := HB3.out.size
 have hrl : RL (OpR 1) w3 w3.heap.size [opT 1, opT 2, opC 7] (some ⟨w2.heap.size, 0, none⟩) := b_o.rls (((Flat.one (opT_rd 0 (n := 1) (by omega) (by omega))).append (Flat.one (opT_rd 0 (n := 2) (by omega) (by omega)))).append (Flat.one (opC_rd 0 (n := 7) (by omega) (by omega)))) b_o.lt
 have hex : (ExR 1).rd w3 w3.heap.size [opT 1, opT 2, opC 7] [.slice (some ⟨w2.heap.size, 0, none⟩) 3 3] := ⟨_, rfl, _, _, rfl, Nat.le_refl _, ⟨by simp [OpR], by omega⟩, hrl⟩
 refine (eval_any (evs := [_]) (D := 0) (b := ⟨[], []⟩) (An := none) (At := none) (cn := 0) (ct := 0) hex (fun h => absurd h (by simp)) (fun h => absurd h (by simp)) (Nat.le_refl _) ((HB3.out.cell (p := ⟨0, 0, none⟩) h0).trans HM.out) (Nat.lt_of_lt_of_le h0 hsz)).mono ?_
 rintro z w4 ⟨⟨A, c, rfl, hrd⟩, hb⟩
 have HB4 := Lib.hid (bthen HB3.out hb)
 clear hb hrd hex hrl b_o
 have hev : (if (mayExprB [opT 1, opT 2, opC 7] && bindB ⟨[], []⟩) = true then evalT ⟨[], []⟩ [opT 1, opT 2, opC 7] else (noT, 1)) = (⟨2, 3, ⟨#[]⟩, []⟩, 0) := awake_eval
 rw [hev]
 clear hev
 go_upto_region 2 with fail
 generalize hW : World.alloc _ _ = w5
 obtain ⟨hb, hz5⟩ := al1 hW
 have b_t := n11 hW
 have HB5 := Lib.hid (bthen HB4.out hb)
 clear hb hW
 have k_t := b_t.cell
 go_wp2_with fail
 go_ret
 exact ⟨rfl, HB5.out⟩
end Go.Proofs.YtiplipdigabidaaGreat
