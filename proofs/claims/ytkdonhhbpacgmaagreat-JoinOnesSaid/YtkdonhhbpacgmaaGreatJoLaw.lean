/- What it is for a fact to fit a predicate: the plain law. -/
import Derived.Test.YtkdonhhbpacgmaaGreatBind
import Derived.Test.YtkdonhhbpacgmaaGreatSort
set_option linter.unusedVariables false
set_option linter.unusedSimpArgs false
namespace Go.Proofs.YtkdonhhbpacgmaaGreat
open Go.ChangeShapes Go.WideShapes Go.ChangeAt Go.RowKit
def putL {α : Type} (L : List α) (p : Nat) (x : α) : List α := L.take p ++ x :: L.drop p
section
variable {α : Type} {L : List α} {p k : Nat} {x y : α}
theorem length_putL (h : p ≤ L.length) : (putL L p x).length = L.length + 1 := by simp [putL]; omega
theorem putL_lt (hp : p ≤ L.length) (h : k < p) : (putL L p x)[k]? = L[k]? := by
 unfold putL
 rw [List.getElem?_append_left (by simp; omega), List.getElem?_take_of_lt h]
theorem putL_at (hp : p ≤ L.length) : (putL L p x)[p]? = some x := by
 unfold putL
 rw [List.getElem?_append_right (by simp; omega)]
 simp [Nat.min_eq_left hp]
theorem putL_gt (hp : p ≤ L.length) (h : p ≤ k) : (putL L p x)[k + 1]? = L[k]? := by
 unfold putL
 rw [List.getElem?_append_right (by simp; omega)]
 have e : k + 1 - (L.take p).length = (k - p) + 1 := by simp; omega
 rw [e, List.getElem?_cons_succ, List.getElem?_drop]
 congr 1; omega
theorem mem_putL : y ∈ putL L p x ↔ y = x ∨ y ∈ L := by
 unfold putL
 rw [List.mem_append, List.mem_cons]
 constructor
 · rintro (h | h | h)
   · exact .inr (List.mem_of_mem_take h)
   · exact .inl h
   · exact .inr (List.mem_of_mem_drop h)
 · rintro (h | h)
   · exact .inr (.inl h)
   · rw [← List.take_append_drop p L, List.mem_append] at h
     rcases h with h | h
     · exact .inl h
     · exact .inr (.inr h)
end
section
variable {L : List Bytes} {t : Bytes} {k : Nat}
theorem posL_le : posL L t ≤ L.length := List.findIdx_le_length
theorem posL_before (hk : k < L.length) (h : k < posL L t) : L[k] < t := by
 have := List.not_of_lt_findIdx h
 simpa using this
theorem posL_after (hs : L.Pairwise (· < ·)) (hk : k < L.length) (h : posL L t ≤ k) : ¬ L[k] < t := by
 have hp : posL L t < L.length := Nat.lt_of_le_of_lt h hk
 have h0 : ¬ L[posL L t] < t := by
   have := List.findIdx_getElem (xs := L) (p := fun x => !decide (x < t)) (w := hp)
   have h2 : (!decide (L[posL L t] < t)) = true := this
   simpa using h2
 rcases Nat.lt_or_eq_of_le h with h1 | h1
 · intro h2
   exact h0 (List.lt_trans (List.pairwise_iff_getElem.1 hs _ k hp hk h1) h2)
 · subst h1; exact h0
theorem posL_there (hs : L.Pairwise (· < ·)) (hk : k < L.length) (e : L[k] = t) : posL L t = k := by
 refine posL_eq (Nat.le_of_lt hk) (fun j hj hjk => ?_) (fun j hj hkj => ?_)
 · rw [← e]; exact List.pairwise_iff_getElem.1 hs j k hj hk hjk
 · rcases Nat.lt_or_ge k j with h1 | h1
   · rw [← e]
     exact fun h2 => List.lt_asymm (List.pairwise_iff_getElem.1 hs k j hk hj h1) h2
   · obtain rfl : j = k := by omega
     rw [e]; exact List.lt_irrefl t
theorem bytes_tri {a b : Bytes} (h1 : ¬ a < b) (h2 : a ≠ b) : b < a := by
 rcases List.le_iff_lt_or_eq.1 (List.not_lt.1 h1) with h | h
 · exact h
 · exact absurd h.symm h2
theorem rise_ins (hs : L.Pairwise (· < ·)) (hn : t ∉ L) : (putL L (posL L t) t).Pairwise (· < ·) := by
 have hb : ∀ a ∈ L.take (posL L t), a < t := by
   intro a ha
   obtain ⟨i, hi, rfl⟩ := List.getElem_of_mem ha
   rw [List.length_take] at hi
   rw [List.getElem_take]
   exact posL_before (by omega) (by omega)
 have ha : ∀ a ∈ L.drop (posL L t), t < a := by
   intro a ha
   obtain ⟨i, hi, rfl⟩ := List.getElem_of_mem ha
   rw [List.length_drop] at hi
   rw [List.getElem_drop]
   exact bytes_tri (posL_after hs (by omega) (Nat.le_add_right _ _)) (fun e => hn (e ▸ List.getElem_mem _))
 unfold putL
 rw [List.pairwise_append]
 refine ⟨hs.take, ?_, fun a h1 b h2 => ?_⟩
 · rw [List.pairwise_cons]
   exact ⟨ha, hs.drop⟩
 · rcases List.mem_cons.1 h2 with rfl | h2
   · exact hb a h1
   · exact List.lt_trans (hb a h1) (ha b h2)
end
structure OkN (b : Bd) : Prop where
 len : b.names.length = b.terms.length
 rise : b.names.Pairwise (· < ·)
 may : ∀ n ∈ b.names, nameB n = true
 fixed : ∀ t ∈ b.terms, fixedB t = true
theorem bindB_iff {b : Bd} : bindB b = true ↔ OkN b ∧ b.names.length ≤ 32 := by
 constructor
 · intro h
   obtain ⟨h1, h2⟩ := bindB_parts h
   exact ⟨⟨h1.len, h1.rise, h2, h1.fixed⟩, h1.few⟩
 · rintro ⟨⟨h1, h2, h3, h4⟩, h5⟩
   unfold bindB
   rw [Bool.and_eq_true, Bool.and_eq_true, List.all_eq_true]
   refine ⟨⟨decide_eq_true h1, decide_eq_true h5⟩, fun i hi => ?_⟩
   have hi : i < b.names.length := by simpa using hi
   unfold bindAt
   rw [List.getElem?_eq_getElem hi, List.getElem?_eq_getElem (h1 ▸ hi), List.getElem?_eq_getElem (show i - 1 < b.names.length by omega)]
   simp only [h3 _ (List.getElem_mem hi), h4 _ (List.getElem_mem (h1 ▸ hi)), Bool.true_and, Bool.or_eq_true, decide_eq_true_eq]
   rcases Nat.eq_zero_or_pos i with h | h
   · exact .inl h
   · exact .inr (List.pairwise_iff_getElem.1 h2 (i - 1) i (by omega) hi (by omega))
theorem OkN.bd {b : Bd} (h : OkN b) (h32 : b.names.length ≤ 32) : bindB b = true := bindB_iff.2 ⟨h, h32⟩
def insB (b : Bd) (n : Bytes) (t : Tm) : Bd := ⟨putL b.names (posL b.names n) n, putL b.terms (posL b.names n) t⟩
section
variable {b c : Bd} {n m : Bytes} {t u : Tm}
theorem ins_len : (insB b n t).names.length = b.names.length + 1 := length_putL posL_le
theorem OkN.ins (h : OkN b) (hn : n ∉ b.names) (hm : nameB n = true) (ht : fixedB t = true) : OkN (insB b n t) := by
 refine ⟨?_, rise_ins h.rise hn, fun a ha => ?_, fun a ha => ?_⟩
 · rw [ins_len]
   show _ = (putL b.terms (posL b.names n) t).length
   rw [length_putL (h.len ▸ posL_le), h.len]
 · rcases mem_putL.1 ha with rfl | ha
   · exact hm
   · exact h.may a ha
 · rcases mem_putL.1 ha with rfl | ha
   · exact ht
   · exact h.fixed a ha
theorem look_iff (h : OkN b) : lookR b m = some u ↔ ∃ k : Nat, b.names[k]? = some m ∧ b.terms[k]? = some u := by
 constructor
 · intro e
   unfold lookR at e
   split at e
   · rename_i hm
     obtain ⟨k, hk, hkm⟩ := List.getElem_of_mem hm
     have hp := posL_there h.rise hk hkm
     exact ⟨k, by rw [List.getElem?_eq_getElem hk, hkm], by rw [← hp]; exact e⟩
   · cases e
 · rintro ⟨k, h1, h2⟩
   obtain ⟨hk, hkm⟩ := List.getElem?_eq_some_iff.1 h1
   unfold lookR
   rw [if_pos (hkm ▸ List.getElem_mem hk), posL_there h.rise hk hkm]
   exact h2
theorem look_none (h : OkN b) : lookR b m = none ↔ m ∉ b.names := by
 constructor
 · intro e hm
   obtain ⟨k, hk, hkm⟩ := List.getElem_of_mem hm
   have : lookR b m = some (b.terms[k]'(h.len ▸ hk)) := (look_iff h).2 ⟨k, by rw [List.getElem?_eq_getElem hk, hkm], List.getElem?_eq_getElem _⟩
   rw [e] at this; cases this
 · intro hm; unfold lookR; rw [if_neg hm]
theorem look_fixed (h : OkN b) (e : lookR b m = some u) : fixedB u = true := by
 obtain ⟨k, _, h2⟩ := (look_iff h).1 e
 exact h.fixed u (List.mem_of_getElem? h2)
theorem look_ins (h : OkN b) (hn : n ∉ b.names) (h' : OkN (insB b n t)) : lookR (insB b n t) m = some u ↔ (m = n ∧ u = t) ∨ lookR b m = some u := by
 have hp1 : posL b.names n ≤ b.names.length := posL_le
 have hp2 : posL b.names n ≤ b.terms.length := h.len ▸ posL_le
 rw [look_iff h', look_iff h]
 constructor
 · rintro ⟨k, h1, h2⟩
   have h1 : (putL b.names (posL b.names n) n)[k]? = some m := h1
   have h2 : (putL b.terms (posL b.names n) t)[k]? = some u := h2
   rcases Nat.lt_trichotomy k (posL b.names n) with hk | hk | hk
   · rw [putL_lt hp1 hk] at h1
     rw [putL_lt hp2 hk] at h2
     exact .inr ⟨k, h1, h2⟩
   · subst hk
     rw [putL_at hp1] at h1
     rw [putL_at hp2] at h2
     simp only [Option.some.injEq] at h1 h2
     exact .inl ⟨h1.symm, h2.symm⟩
   · obtain ⟨j, rfl⟩ : ∃ j, k = j + 1 := ⟨k - 1, by omega⟩
     rw [putL_gt hp1 (by omega)] at h1
     rw [putL_gt hp2 (by omega)] at h2
     exact .inr ⟨j, h1, h2⟩
 · rintro (⟨rfl, rfl⟩ | ⟨k, h1, h2⟩)
   · exact ⟨posL b.names m, putL_at hp1, putL_at hp2⟩
   · rcases Nat.lt_or_ge k (posL b.names n) with hk | hk
     · exact ⟨k, (putL_lt hp1 hk).trans h1, (putL_lt hp2 hk).trans h2⟩
     · exact ⟨k + 1, (putL_gt hp1 hk).trans h1, (putL_gt hp2 hk).trans h2⟩
end
def fit1 (b : Bd) (x y : Tm) : Option Bd :=
 if x.kind = 1 then (match lookR b (bs x.s) with | some z => if sameB z y = true then some b else none | none => some (insB b (bs x.s) y))
 else if sameB x y = true then some b else none
def fitL : List Tm → List Tm → Bd → Option Bd
 | x :: xs, y :: ys, b => match fit1 b x y with | some c => fitL xs ys c | none => none
 | _, _, b => some b
def okB (r : Option Bd) : Option Bd := match r with | some c => if bindB c = true then some c else none | none => none
def fitPR (p f : Pr) (b : Bd) : Option Bd :=
 if p.name = f.name ∧ p.terms.length = f.terms.length then okB (fitL p.terms f.terms b) else none
def oneR (p f : Pr) (b : Bd) : Option Bd := if mayPredB p = true ∧ mayFactB f = true ∧ bindB b = true then fitPR p f b else none
def fill1 (b : Bd) (x : Tm) : Option Tm := if x.kind = 1 then lookR b (bs x.s) else some x
def fillL (b : Bd) : List Tm → Option (List Tm)
 | [] => some []
 | x :: xs => match fill1 b x with | some z => (match fillL b xs with | some zs => some (z :: zs) | none => none) | none => none
def fillR (p : Pr) (b : Bd) : Option Pr := if mayPredB p = true ∧ bindB b = true then (match fillL b p.terms with | some zs => some ⟨p.name, zs⟩ | none => none) else none
def okPair (c : Bd) (x y : Tm) : Prop := if x.kind = 1 then ∃ z, lookR c (bs x.s) = some z ∧ sameB z y = true else sameB x y = true
def Keeps (b c : Bd) : Prop := ∀ m u, lookR b m = some u → lookR c m = some u
theorem may_name {x : Tm} (h : mayB x = true) (h1 : x.kind = 1) : nameB (bs x.s) = true := by
 unfold mayB at h
 rw [if_neg (by rw [h1]; decide)] at h
 unfold flatMay at h
 simp [h1] at h
 exact h.2.2
theorem cmpT_self0 (t : Tm) : sameB t t = true := by unfold sameB; rw [(cmpT_ord 3).self]; rfl
section
variable {b c : Bd} {x y : Tm}
theorem okPair.keep (h : okPair b x y) (hk : Keeps b c) : okPair c x y := by
 unfold okPair at h ⊢
 split
 · rename_i h1
   rw [if_pos h1] at h
   obtain ⟨z, h2, h3⟩ := h
   exact ⟨z, hk _ _ h2, h3⟩
 · rename_i h1
   rw [if_neg h1] at h
   exact h
theorem fit1_ok (h : OkN b) (hx : mayB x = true) (hy : fixedB y = true) (e : fit1 b x y = some c) : OkN c ∧ Keeps b c ∧ b.names.length ≤ c.names.length ∧ okPair c x y := by
 unfold fit1 at e
 split at e
 · rename_i h1
   split at e
   · rename_i z hz
     split at e
     · rename_i hs
       simp only [Option.some.injEq] at e
       subst e
       exact ⟨h, fun _ _ h => h, Nat.le_refl _, by unfold okPair; rw [if_pos h1]; exact ⟨z, hz, hs⟩⟩
     · cases e
   · rename_i hz
     simp only [Option.some.injEq] at e
     subst e
     have hn := (look_none h).1 hz
     have h' := h.ins hn (may_name hx h1) hy
     refine ⟨h', fun m u hu => (look_ins h hn h').2 (.inr hu), by rw [ins_len]; omega, ?_⟩
     unfold okPair
     rw [if_pos h1]
     exact ⟨y, (look_ins h hn h').2 (.inl ⟨rfl, rfl⟩), cmpT_self0 y⟩
 · rename_i h1
   split at e
   · rename_i hs
     simp only [Option.some.injEq] at e
     subst e
     exact ⟨h, fun _ _ h => h, Nat.le_refl _, by unfold okPair; rw [if_neg h1]; exact hs⟩
   · cases e
theorem fit1_again (h : okPair c x y) : fit1 c x y = some c := by
 unfold okPair at h
 unfold fit1
 split
 · rename_i h1
   rw [if_pos h1] at h
   obtain ⟨z, h2, h3⟩ := h
   rw [h2]
   simp [h3]
 · rename_i h1
   rw [if_neg h1] at h
   rw [if_pos h]
end
theorem fitL_ok : ∀ (xs ys : List Tm) (b c : Bd), OkN b → (∀ x ∈ xs, mayB x = true) → (∀ y ∈ ys, fixedB y = true) → fitL xs ys b = some c → OkN c ∧ Keeps b c ∧ b.names.length ≤ c.names.length ∧ ∀ q ∈ xs.zip ys, okPair c q.1 q.2
 | [], _, b, c, h, _, _, e => by
   simp only [fitL, Option.some.injEq] at e
   subst e
   exact ⟨h, fun _ _ h => h, Nat.le_refl _, by simp⟩
 | _ :: _, [], b, c, h, _, _, e => by
   simp only [fitL, Option.some.injEq] at e
   subst e
   exact ⟨h, fun _ _ h => h, Nat.le_refl _, by simp⟩
 | x :: xs, y :: ys, b, c, h, hx, hy, e => by
   unfold fitL at e
   split at e
   · rename_i d hd
     obtain ⟨h1, h2, h3, h4⟩ := fit1_ok h (hx x (by simp)) (hy y (by simp)) hd
     obtain ⟨k1, k2, k3, k4⟩ := fitL_ok xs ys d c h1 (fun z hz => hx z (by simp [hz])) (fun z hz => hy z (by simp [hz])) e
     refine ⟨k1, fun m u hu => k2 _ _ (h2 _ _ hu), Nat.le_trans h3 k3, fun q hq => ?_⟩
     rw [List.zip_cons_cons, List.mem_cons] at hq
     rcases hq with rfl | hq
     · exact h4.keep k2
     · exact k4 q hq
   · cases e
theorem fitL_again : ∀ (xs ys : List Tm) (c : Bd), (∀ q ∈ xs.zip ys, okPair c q.1 q.2) → fitL xs ys c = some c
 | [], _, c, _ => by simp [fitL]
 | _ :: _, [], c, _ => by simp [fitL]
 | x :: xs, y :: ys, c, h => by
   unfold fitL
   rw [fit1_again (h (x, y) (by simp))]
   exact fitL_again xs ys c fun q hq => h q (by simp [hq])
theorem fill_fits : ∀ (xs ys : List Tm) (c : Bd), xs.length = ys.length → (∀ q ∈ xs.zip ys, okPair c q.1 q.2) → ∃ zs, fillL c xs = some zs ∧ zs.length = ys.length ∧ ∀ q ∈ zs.zip ys, sameB q.1 q.2 = true
 | [], [], c, _, _ => ⟨[], rfl, rfl, by simp⟩
 | [], _ :: _, c, hl, _ => by simp at hl
 | _ :: _, [], c, hl, _ => by simp at hl
 | x :: xs, y :: ys, c, hl, h => by
   obtain ⟨zs, h1, h2, h3⟩ := fill_fits xs ys c (by simpa using hl) fun q hq => h q (by simp [hq])
   have h0 : okPair c x y := h (x, y) (by simp)
   have : ∃ z, fill1 c x = some z ∧ sameB z y = true := by
     unfold okPair at h0
     unfold fill1
     split
     · rename_i hk
       rw [if_pos hk] at h0
       exact h0
     · rename_i hk
       rw [if_neg hk] at h0
       exact ⟨x, rfl, h0⟩
   obtain ⟨z, h4, h5⟩ := this
   refine ⟨z :: zs, by unfold fillL; rw [h4, h1], by simp [h2], fun q hq => ?_⟩
   rw [List.zip_cons_cons, List.mem_cons] at hq
   rcases hq with rfl | hq
   · exact h5
   · exact h3 q hq
theorem fitL_step {xs ys : List Tm} {k : Nat} {b : Bd} (h1 : k < xs.length) (h2 : k < ys.length) : fitL (xs.drop k) (ys.drop k) b = match fit1 b xs[k] ys[k] with | some c => fitL (xs.drop (k + 1)) (ys.drop (k + 1)) c | none => none := by
 rw [List.drop_eq_getElem_cons h1, List.drop_eq_getElem_cons h2]
 rfl
theorem fitL_end {xs ys : List Tm} {b : Bd} (k : Nat) (h1 : xs.length ≤ k) : fitL (xs.drop k) (ys.drop k) b = some b := by
 rw [List.drop_eq_nil_of_le h1]
 unfold fitL; rfl
theorem fitL_many {xs ys : List Tm} {b : Bd} (h : OkN b) (hx : ∀ x ∈ xs, mayB x = true) (hy : ∀ y ∈ ys, fixedB y = true) (hm : 32 < b.names.length) : okB (fitL xs ys b) = none := by
 unfold okB
 split
 · rename_i c hc
   obtain ⟨h1, _, h3, _⟩ := fitL_ok xs ys b c h hx hy hc
   rw [if_neg]
   intro h4
   have := (bindB_iff.1 h4).2
   omega
 · rfl
theorem may_terms {p : Pr} (h : mayPredB p = true) : p.terms.length ≤ 8 ∧ ∀ x ∈ p.terms, mayB x = true := by
 unfold mayPredB at h
 simp only [Bool.and_eq_true, decide_eq_true_eq, List.all_eq_true] at h
 exact h.2
theorem fact_terms {p : Pr} (h : mayFactB p = true) : mayPredB p = true ∧ ∀ x ∈ p.terms, fixedB x = true := by
 unfold mayFactB at h
 simp only [Bool.and_eq_true, decide_eq_true_eq, List.all_eq_true] at h
 exact ⟨h.1, h.2.2⟩
theorem one_law {p f : Pr} {b c : Bd} (h : oneR p f b = some c) :
   bindB c = true ∧ Keeps b c ∧ oneR p f c = some c ∧ ∃ zs, fillR p c = some ⟨p.name, zs⟩ ∧ p.name = f.name ∧ zs.length = f.terms.length ∧ ∀ q ∈ zs.zip f.terms, sameB q.1 q.2 = true := by
 unfold oneR at h
 split at h
 · rename_i hm
   obtain ⟨h1, h2, h3⟩ := hm
   unfold fitPR okB at h
   split at h
   · rename_i hn
     split at h
     · rename_i d hd
       split at h
       · rename_i hb
         simp only [Option.some.injEq] at h
         subst h
         obtain ⟨k1, k2, k3, k4⟩ := fitL_ok _ _ _ _ (bindB_iff.1 h3).1 (may_terms h1).2 (fact_terms h2).2 hd
         obtain ⟨zs, j1, j2, j3⟩ := fill_fits _ _ d hn.2 k4
         refine ⟨hb, k2, ?_, zs, ?_, hn.1, j2, j3⟩
         · unfold oneR fitPR okB
           rw [if_pos ⟨h1, h2, hb⟩, if_pos hn, fitL_again _ _ d k4]
           simp [hb]
         · unfold fillR
           rw [if_pos ⟨h1, hb⟩, j1]
       · cases h
     · cases h
   · cases h
 · cases h
end Go.Proofs.YtkdonhhbpacgmaaGreat
