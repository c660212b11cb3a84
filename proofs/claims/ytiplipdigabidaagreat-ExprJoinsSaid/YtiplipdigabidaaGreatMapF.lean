/- A map with int keys that a call makes: its entries known whole; an insertion, a look. -/
import Derived.Test.YtiplipdigabidaaGreatEvSpec
import Derived.MapKept
import Derived.Below
import Derived.ProofKit
import Derived.WalkKit
set_option linter.unusedVariables false
set_option linter.unusedSimpArgs false
namespace Go.Proofs.YtiplipdigabidaaGreat
open Go.ChangeShapes Go.WideShapes Go.ChangeAt Go.RowKit
def nextE (b : Bd) (o : OpD) (ts : List Tm) (next : Int) : Int := if (stepE b o ts).2.2 = true then wrap64 (next + o.skip) else next
def StepE (S base D : Nat) (bn bt : Value) (b : Bd) (o : OpD) (ts : List Tm) (next : Int) (w : World) (z : Ending) (w' : World) : Prop :=
 EvE S base D bn bt w w' (stepE b o ts).1 (stepE b o ts).2.1 (nextE b o ts next) z
theorem EvE.as {S base D : Nat} {bn bt : Value} {w w' : World} {e e' : Int} {ts ts' : List Tm} {n n' : Int} {z : Ending} (h : EvE S base D bn bt w w' e ts n z) (h1 : e = e') (h2 : e = 0 → ts = ts') (h3 : e = 0 → n = n') : EvE S base D bn bt w w' e' ts' n' z := by
 subst h1
 obtain ⟨k1, k2, k3⟩ := h
 exact ⟨k1, k2, fun he => by rw [← h2 he, ← h3 he]; exact k3 he⟩
theorem alone_kind {o : OpD} (h : aloneB o = true) : o.kind = 1 ∨ o.kind = 2 ∨ o.kind = 3 ∨ o.kind = 4 ∨ o.kind = 5 := by
 unfold aloneB at h
 split at h
 · exact .inl ‹_›
 · rw [Bool.and_eq_true] at h
   have h2 := h.2
   split at h2
   · exact .inr (.inl ‹_›)
   · split at h2
     · exact .inr (.inr (.inl ‹_›))
     · rw [Bool.and_eq_true, Bool.and_eq_true] at h2
       have h3 := h2.1.1
       unfold lazyB at h3
       rw [Bool.or_eq_true, decide_eq_true_eq, decide_eq_true_eq] at h3
       omega
theorem alone_term {o : OpD} (h : aloneB o = true) (h1 : o.kind = 1) : mayB o.term = true := by
 unfold aloneB at h
 rw [if_pos h1, Bool.and_eq_true] at h
 exact h.2
theorem may_leaves {t : Tm} (h : mayB t = true) : (∀ u ∈ t.l, Leaf u) ∧ t.l.length ≤ 16 := by
 unfold mayB at h
 split at h
 · rw [Bool.and_eq_true] at h
   exact ⟨(rising_parts h.2).2, (rising_parts h.2).1⟩
 · unfold flatMay at h
   rw [Bool.and_eq_true, decide_eq_true_eq] at h
   have : t.l = [] := List.eq_nil_of_length_eq_zero h.1
   rw [this]
   exact ⟨fun u hu => (List.not_mem_nil hu).elim, by simp⟩
section
variable {S base D B c cn ct : Nat} {b : Bd} {An At : Option Addr} {w : World} {xs : List SV} {next : Int} {A : Option Addr} {o : OpD} {ovs : List Value} {r : List OpD}
theorem step1 (hok : BdOk b) (hbn : RL StrR w B (b.names.map mkS) An) (hbt : RL (TmR (D + 1)) w B b.terms At)
   (h : StkE S base D (.slice An b.names.length cn) (.slice At b.terms.length ct) w xs next A c) (ho : (OpR (D + 1)).rd w B o ovs) (hm : aloneB o = true) (hB : B ≤ w.heap.size) (hb : base ≤ w.heap.size) (hn : xs.length ≤ 90000) (hk : o.kind = 1) :
   Calls Tryz.prog 34 #[.pointer (some ⟨S, 0, none⟩), .agg ovs.toArray] w fun z w' => StepE S base D (.slice An b.names.length cn) (.slice At b.terms.length ct) b o (xs.map SV.t) next w z w' := by
 have hl := may_leaves (alone_term hm hk)
 refine (evalue_any hok hbn hbt h ho hl.1 hl.2 hB hb hn).mono fun z w' hz => ?_
 unfold StepE nextE stepE
 rw [if_pos hk]
 exact hz.as rfl (fun _ => rfl) (fun _ => rfl)
theorem last_split {xs : List SV} (h : 1 ≤ xs.length) : ∃ ys x, xs = ys ++ [x] := by
 rcases List.eq_nil_or_concat xs with rfl | ⟨l, t, rfl⟩
 · simp at h
 · exact ⟨l, t, by simp⟩
theorem step2 {bn bt : Value} (h : StkE S base D bn bt w xs next A c) (ho : (OpR (D + 1)).rd w B o ovs) (hl : 1 ≤ xs.length) (hb : base ≤ w.heap.size) (hn : xs.length ≤ 90000) (hk : o.kind = 2) :
   Calls Tryz.prog 35 #[.pointer (some ⟨S, 0, none⟩), .agg ovs.toArray] w fun z w' => StepE S base D bn bt b o (xs.map SV.t) next w z w' := by
 obtain ⟨ys, x, rfl⟩ := last_split hl
 rw [List.length_append] at hn
 refine (eunary_any h ho hb (by omega)).mono fun z w' hz => ?_
 unfold StepE nextE stepE
 rw [if_neg (by omega), if_pos hk]
 simp only [List.map_append, List.map_cons, List.map_nil, List.getLast?_concat, List.dropLast_concat]
 exact hz.as rfl (fun _ => rfl) (fun _ => rfl)
theorem step3 {bn bt : Value} {m : Int} (h : StkE S base D bn bt w xs next A c) (ho : (OpR (D + 1)).rd w B o ovs) (hl : 2 ≤ xs.length) (hb : base ≤ w.heap.size) (hS0 : 0 < S) (hn : xs.length ≤ 90000) (hm : w.cell? ⟨0, 0, none⟩ = some (.int .i64 m)) (h0 : 0 < base) (hk : o.kind = 3) :
   Calls Tryz.prog 36 #[.pointer (some ⟨S, 0, none⟩), .agg ovs.toArray] w fun z w' => StepE S base D bn bt b o (xs.map SV.t) next w z w' := by
 obtain ⟨zs, x, rfl⟩ := last_split (show 1 ≤ xs.length by omega)
 rw [List.length_append, List.length_singleton] at hl hn
 obtain ⟨ys, y, rfl⟩ := last_split (show 1 ≤ zs.length by omega)
 rw [List.length_append] at hn
 refine (ebinary_any h ho hb hS0 (by omega) hm h0).mono fun z w' hz => ?_
 unfold StepE nextE stepE
 rw [if_neg (by omega), if_neg (by omega), if_pos hk]
 simp only [List.map_append, List.map_cons, List.map_nil, List.getLast?_concat, List.dropLast_concat]
 exact hz.as rfl (fun _ => rfl) (fun _ => rfl)
theorem step4 {bn bt : Value} (h : StkE S base D bn bt w xs next A c) (ho : (OpR (D + 1)).rd w B o ovs) (hl : 1 ≤ xs.length) (hb : base ≤ w.heap.size) (hn : xs.length ≤ 90000) (hk : o.kind = 4 ∨ o.kind = 5) :
   Calls Tryz.prog 37 #[.pointer (some ⟨S, 0, none⟩), .agg ovs.toArray] w fun z w' => StepE S base D bn bt b o (xs.map SV.t) next w z w' := by
 obtain ⟨ys, x, rfl⟩ := last_split hl
 rw [List.length_append] at hn
 refine (edecides_any h ho hb (by omega)).mono fun z w' hz => ?_
 unfold StepE nextE stepE
 rw [if_neg (by omega), if_neg (by omega), if_neg (by omega)]
 simp only [List.map_append, List.map_cons, List.map_nil, List.getLast?_concat, List.dropLast_concat]
 unfold decR at hz
 by_cases h6 : x.t.kind = 6
 · rw [if_neg (by simp [h6])] at hz ⊢
   by_cases hq : (decide (x.t.n = 1) == decide (o.kind = 5)) = true
   · rw [if_pos hq] at hz ⊢
     exact hz.as rfl (fun _ => rfl) (fun _ => rfl)
   · rw [if_neg hq] at hz ⊢
     exact hz.as rfl (fun _ => rfl) (fun _ => rfl)
 · rw [if_pos h6] at hz ⊢
   exact hz.as rfl (fun he => absurd (show (7 : Int) = 0 from he) (by decide)) (fun he => absurd (show (7 : Int) = 0 from he) (by decide))
end
theorem stepE_len (b : Bd) (o : OpD) (ts : List Tm) : (stepE b o ts).2.1.length ≤ ts.length + 1 := by
 unfold stepE
 split
 · unfold valR
   split
   · split <;> simp
   · simp
 · split
   · split <;> simp
   · split
     · split <;> simp <;> omega
     · split
       · simp
       · split
         · simp
         · split
           · simp
           · simp; omega
theorem round_law {ops : List OpD} {b : Bd} {ts : List Tm} {k : Nat} {o : OpD} (ho : ops[k]? = some o) (hwh : wholeG ts.length (ops.drop k) = true) (hev : evR b ops [] = evR b (ops.drop k) ts) (h32 : ops.length ≤ 32) :
   aloneB o = true ∧ needsB o ≤ ts.length ∧ ((stepE b o ts).1 ≠ 0 → (evR b ops []).1 = (stepE b o ts).1) ∧
     ((stepE b o ts).1 = 0 → ∃ k' : Nat, k < k' ∧ k' ≤ ops.length ∧ nextE b o ts ((k : Int) + 1) = k' ∧ wholeG (stepE b o ts).2.1.length (ops.drop k') = true ∧ evR b ops [] = evR b (ops.drop k') (stepE b o ts).2.1) := by
 have hk : k < ops.length := by
   rcases Nat.lt_or_ge k ops.length with h | h
   · exact h
   · rw [List.getElem?_eq_none h] at ho; cases ho
 have hd : ops.drop k = o :: ops.drop (k + 1) := by
   rw [List.drop_eq_getElem_cons hk]
   rw [List.getElem?_eq_getElem hk] at ho
   simp only [Option.some.injEq] at ho
   rw [ho]
 rw [hd] at hwh hev
 have hc := hwh
 rw [wholeG_cons, Bool.and_eq_true, Bool.and_eq_true, decide_eq_true_eq] at hc
 refine ⟨hc.1.1, hc.1.2, fun he => ?_, fun he => ?_⟩
 · rw [hev, evR_cons, if_pos he]
 · have hst := whole_step hwh he
   rw [evR_cons, if_neg (by simpa using he)] at hev
   by_cases hs : (stepE b o ts).2.2 = true
   · rw [if_pos hs] at hst hev
     have hz : lazyB o = true := by
       rcases alone_kind hc.1.1 with h | h | h | h | h
       · unfold stepE at hs; rw [if_pos h] at hs; cases hs
       · unfold stepE at hs; rw [if_neg (by omega), if_pos h] at hs; split at hs <;> cases hs
       · unfold stepE at hs; rw [if_neg (by omega), if_neg (by omega), if_pos h] at hs; split at hs <;> cases hs
       · simp [lazyB, h]
       · simp [lazyB, h]
     have h3 := hc.2
     rw [if_pos hz, Bool.and_eq_true, Bool.and_eq_true, decide_eq_true_eq] at h3
     have hsk : 1 ≤ o.skip := by
       have h1 := hc.1.1
       unfold aloneB at h1
       unfold lazyB at hz
       rw [Bool.or_eq_true, decide_eq_true_eq, decide_eq_true_eq] at hz
       rw [if_neg (by omega), if_neg (by omega), if_neg (by omega), Bool.and_eq_true, Bool.and_eq_true, decide_eq_true_eq] at h1
       exact h1.2.2
     have hle := h3.1.1
     rw [List.length_drop] at hle
     refine ⟨k + 1 + o.skip.toNat, by omega, by omega, ?_, ?_, ?_⟩
     · unfold nextE
       rw [if_pos hs]
       unfold wrap64
       omega
     · rw [List.drop_drop] at hst
       exact hst
     · rw [List.drop_drop] at hev
       exact hev
   · rw [if_neg hs] at hst hev
     refine ⟨k + 1, by omega, by omega, ?_, hst, hev⟩
     unfold nextE
     rw [if_neg hs]; simp
open Go.RowKit
theorem insert_int {P : Program} {w : World} {t kt et : TypeId} {r n : Nat} {es : Array MapEntry} (ht : P.underlying t = some (.map kt et)) (hk : P.underlying kt = some (.int .i64)) (hb : w.heap[r]? = some (.map es n)) (k : Int) (v : Value)
   (hne : Instr.findNow (.int .i64) (.int .i64 k) es.toList 0 = some none) :
   ∃ w', (Instr.mapUpdate t (.map (some r)) (.int .i64 k) v).run P w = .ok () w' ∧ w'.heap[r]? = some (.map (es.push ⟨.int .i64 k, v, n⟩) (n + 1)) ∧ (∀ b, b ≠ r → w'.heap[b]? = w.heap[b]?) ∧ Below r w w' := by
 refine ⟨{ w with heap := w.heap.setIfInBounds r (.map (es.push ⟨.int .i64 k, v, n⟩) (n + 1)) }, ?_, (Go.MapKept.heap_set hb).1, (Go.MapKept.heap_set hb).2, ⟨rfl, rfl, rfl, by simp, fun b hbr => (Go.MapKept.heap_set hb).2 b (by omega)⟩⟩
 have h1 := Go.MapKept.run_getObj_map (P := P) hb
 have h2 := Go.MapKept.run_setObj_map (P := P) (.map (es.push ⟨.int .i64 k, v, n⟩) (n + 1)) hb
 have h3 := Go.MapKept.run_checkKey (P := P) (w := w) hk (k := .int .i64 k) (by simp [Go.MapKept.IsKey]) false 9999
 have h4 := Go.MapKept.run_findKey (P := P) (w := w) hk hne
 unfold Instr.mapUpdate
 simp only [Sem.run_bind, run_underlying ht, Result.andThen, h1, h3, h4, h2]
theorem lookup_int {P : Program} {w : World} {t kt et : TypeId} {r n i : Nat} {es : Array MapEntry} (ht : P.underlying t = some (.map kt et)) (hk : P.underlying kt = some (.int .i64)) (hb : w.heap[r]? = some (.map es n)) (k : Int) (v : Value)
   (hf : Instr.findNow (.int .i64) (.int .i64 k) es.toList 0 = some (some (i, v))) :
   (Instr.lookup t (.map (some r)) (.int .i64 k) false).run P w = .ok v w := by
 have h1 := Go.MapKept.run_getObj_map (P := P) hb
 have h3 := fun e => Go.MapKept.run_checkKey (P := P) (w := w) hk (k := .int .i64 k) (by simp [Go.MapKept.IsKey]) e 9999
 have h4 := Go.MapKept.run_findKey (P := P) (w := w) hk hf
 unfold Instr.lookup
 simp only [Sem.run_bind, run_underlying ht, Result.andThen, h1, h3, h4, Sem.run_pure]
 rfl
end Go.Proofs.YtiplipdigabidaaGreat
