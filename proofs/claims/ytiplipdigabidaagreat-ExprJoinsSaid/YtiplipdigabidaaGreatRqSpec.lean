/- What the document's pattern compiler computes, as functions; it is what the program's compiler computes. -/
import Derived.Test.YtiplipdigabidaaGreatMat1
set_option linter.unusedVariables false
set_option linter.unusedSimpArgs false
namespace Go.Proofs.YtiplipdigabidaaGreat
def memberQ (s : ByteArray) (p : PS) : Nat × PS := nextP s (if isP s p 92 then p.step else if isP s p 93 then failP p 3 else p)
def dashP (s : ByteArray) (p : PS) : Bool := isP s p 45 && (decide (p.at_ + 1 < s.size) && decide (byteAt s (p.at_ + 1) ≠ 93))
def spanQ (s : ByteArray) (p : PS) : (Nat × Nat) × PS :=
 let r := memberQ s p
 if dashP s r.2 then
   let q := memberQ s r.2.step
   ((r.1, q.1), if q.1 < r.1 then failP q.2 3 else q.2)
 else ((r.1, r.1), r.2)
def classLQ (s : ByteArray) : Nat → Bool → PS → Ins → Ins × PS
 | 0, _, p, i => (i, p)
 | n + 1, first, p, i =>
   if first || (!endsP s p && !isP s p 93) then
     let r := spanQ s p
     if r.2.e ≠ 0 then (i, r.2) else classLQ s n false r.2 (rangeI i r.1.1 r.1.2)
   else (i, p)
def classQ (s : ByteArray) (p : PS) : List Ins × PS :=
 let not_ := isP s p 94
 let p1 := if not_ then p.step else p
 let r := classLQ s (s.size + 2 - p1.at_) true p1 charI
 if endsP s r.2 then ([], failP r.2 3) else ([if not_ then complI r.1 else r.1], r.2.step)
def barQ (c : Nat) : Bool := decide (c = 42) || decide (c = 43) || decide (c = 63) || decide (c = 41)
mutual
def patQ (s : ByteArray) : Nat → PS → List Ins × PS
 | 0, p => ([], p)
 | n + 1, p =>
   let r := rowQ s n p []
   if isP s r.2 124 then
     let q := patQ s n r.2.step
     (eitherL r.1 q.1, q.2)
   else r
def rowQ (s : ByteArray) : Nat → PS → List Ins → List Ins × PS
 | 0, p, out => (out, p)
 | n + 1, p, out =>
   if !endsP s p && (!isP s p 124 && !isP s p 41) then
     let r := pieceQ s n p
     rowQ s n r.2 (out ++ movedL r.1 out.length)
   else (out, p)
def pieceQ (s : ByteArray) : Nat → PS → List Ins × PS
 | 0, p => ([], p)
 | n + 1, p =>
   let r := atomQ s n p
   if isP s r.2 42 then ([splitI 1 (r.1.length + 2)] ++ movedL r.1 1 ++ [jumpI 0], r.2.step)
   else if isP s r.2 43 then (r.1 ++ [splitI 0 (r.1.length + 1)], r.2.step)
   else if isP s r.2 63 then ([splitI 1 (r.1.length + 1)] ++ movedL r.1 1, r.2.step)
   else r
def atomQ (s : ByteArray) : Nat → PS → List Ins × PS
 | 0, p => ([], p)
 | n + 1, p =>
   let b := byteAt s p.at_
   let p1 := p.step
   if b = 92 then (if endsP s p1 then ([], failP p1 3) else ([hasI charI (byteAt s p1.at_)], p1.step))
   else if b = 46 then ([anyI], p1)
   else if b = 94 then ([⟨4, 0, 0, 0, 0, 0, 0⟩], p1)
   else if b = 36 then ([⟨5, 0, 0, 0, 0, 0, 0⟩], p1)
   else if b = 91 then classQ s p1
   else if b = 40 then
     if p1.deep = 20 then ([], failP p1 4)
     else
       let q := patQ s n ⟨p1.at_, p1.deep + 1, p1.e⟩
       let z : PS := ⟨q.2.at_, q.2.deep - 1, q.2.e⟩
       if isP s z 41 then (q.1, z.step) else ([], failP z 3)
   else if barQ b then ([], failP p1 3)
   else ([hasI charI b], p1)
end
def Alike {α : Type} (r r' : α × PS) : Prop := r.2.e = r'.2.e ∧ (r.2.e = 0 → r = r')
theorem Alike.refl {α : Type} (r : α × PS) : Alike r r := ⟨rfl, fun _ => rfl⟩
theorem ends_err {s : ByteArray} {p : PS} (h : p.e ≠ 0) : endsP s p = true := by simp [endsP, h]
theorem is_err {s : ByteArray} {p : PS} {c : Nat} (h : p.e ≠ 0) : isP s p c = false := by simp [isP, ends_err h]
theorem fail_err {p : PS} {e : Int} (h : p.e ≠ 0) : failP p e = p := by simp [failP, h]
theorem next_err {s : ByteArray} {p : PS} (h : p.e ≠ 0) : nextP s p = (0, p) := by unfold nextP; rw [ends_err h, fail_err h]; rfl
theorem member_err {s : ByteArray} {p : PS} (h : p.e ≠ 0) : memberP s p = (0, p) := by unfold memberP; simp [next_err h]
theorem classL_err {s : ByteArray} {p : PS} {i : Ins} (h : p.e ≠ 0) : ∀ n, classL s n p i = (i, p)
 | 0 => rfl
 | n + 1 => by unfold classL; simp [ends_err h]
theorem member_same {s : ByteArray} {p : PS} (h : isP s p 93 = false) : memberQ s p = memberP s p := by
 unfold memberQ memberP
 by_cases h9 : isP s p 92 = true
 · rw [if_pos h9]
   unfold isP at h9
   rw [Bool.and_eq_true, decide_eq_true_eq] at h9
   have he : endsP s p = false := by simpa using h9.1
   have : nextP s p = (92, p.step) := by unfold nextP; rw [he]; simp [h9.2]
   simp only [this, if_true]
 · rw [if_neg h9, if_neg (by simp [h])]
   have : (nextP s p).1 ≠ 92 := by
     unfold nextP
     split
     · simp
     · rename_i he
       intro h2
       apply h9
       unfold isP
       simp [he]
       exact h2
   simp only [this, if_false]
theorem span_same {s : ByteArray} {p : PS} (h : isP s p 93 = false) : spanQ s p = ((spanP s p).1, if (spanP s p).1.2 < (spanP s p).1.1 then failP (spanP s p).2 3 else (spanP s p).2) := by
 unfold spanQ spanP
 simp only [member_same h]
 unfold dashP
 by_cases hd : (isP s (memberP s p).2 45 && (decide ((memberP s p).2.at_ + 1 < s.size) && decide (byteAt s ((memberP s p).2.at_ + 1) ≠ 93))) = true
 · rw [if_pos hd, if_pos hd]
   have h3 : isP s (memberP s p).2.step 93 = false := by
     rw [Bool.and_eq_true, Bool.and_eq_true, decide_eq_true_eq, decide_eq_true_eq] at hd
     unfold isP PS.step
     simp [hd.2.2]
   rw [member_same h3]
 · rw [if_neg hd, if_neg hd]
   simp
theorem next_more {s : ByteArray} {p : PS} (h : (nextP s p).2.e = 0) : (nextP s p).2 = p.step ∧ endsP s p = false ∧ p.e = 0 := by
 unfold nextP at h ⊢
 split
 · rename_i he
   rw [if_pos he] at h
   unfold failP at h
   split at h
   · exact absurd (show (3 : Int) = 0 from h) (by decide)
   · rename_i h0; exact absurd h h0
 · rename_i he
   rw [if_neg he] at h
   exact ⟨rfl, by simpa using he, h⟩
theorem member_more {s : ByteArray} {p : PS} (h : (memberP s p).2.e = 0) : p.at_ + 1 ≤ (memberP s p).2.at_ := by
 unfold memberP at h ⊢
 simp only at h ⊢
 split
 · rename_i h9
   rw [if_pos h9] at h
   obtain ⟨h1, _, h3⟩ := next_more h
   obtain ⟨h4, _⟩ := next_more h3
   rw [h1, h4]; simp [PS.step]
 · rename_i h9
   rw [if_neg h9] at h
   rw [(next_more h).1]; exact Nat.le_refl _
theorem span_more {s : ByteArray} {p : PS} (h : (spanP s p).2.e = 0) : p.at_ + 1 ≤ (spanP s p).2.at_ := by
 unfold spanP at h ⊢
 simp only at h ⊢
 split
 · rename_i hd
   rw [if_pos hd] at h
   have h1 : (memberP s p).2.at_ + 1 + 1 ≤ (memberP s (memberP s p).2.step).2.at_ := member_more h
   have h0 : (memberP s p).2.e = 0 := by
     have : (memberP s p).2.step.e = 0 := by
       apply Classical.byContradiction
       intro hn
       rw [member_err hn] at h
       exact hn h
     exact this
   have h2 := member_more h0
   show p.at_ + 1 ≤ (memberP s (memberP s p).2.step).2.at_
   omega
 · rename_i hd
   rw [if_neg hd] at h
   exact member_more h
theorem classL_same (s : ByteArray) : ∀ (n m : Nat) (p : PS) (i : Ins), s.size + 1 - p.at_ ≤ n → s.size + 1 - p.at_ ≤ m → Alike (classLQ s m false p i) (classL s n p i)
 | n, m, p, i, hn, hm => by
   by_cases hc : (!endsP s p && !isP s p 93) = true
   · have hlt : p.at_ < s.size := by
       rw [Bool.and_eq_true] at hc
       have := hc.1
       unfold endsP at this
       simp at this
       omega
     match n, m, hn, hm with
     | 0, _, hn, _ => omega
     | _ + 1, 0, _, hm => omega
     | n + 1, m + 1, hn, hm =>
       unfold classLQ classL
       rw [Bool.false_or, if_pos hc, if_pos hc]
       have h93 : isP s p 93 = false := by rw [Bool.and_eq_true] at hc; simpa using hc.2
       simp only [span_same h93]
       by_cases he : (if (spanP s p).1.2 < (spanP s p).1.1 then failP (spanP s p).2 3 else (spanP s p).2).e = 0
       · rw [if_neg (by simp [he])]
         have hlt2 : ¬ (spanP s p).1.2 < (spanP s p).1.1 := by
           intro h
           rw [if_pos h] at he
           unfold failP at he
           split at he
           · exact absurd (show (3 : Int) = 0 from he) (by decide)
           · rename_i h0; exact h0 he
         rw [if_neg hlt2] at he ⊢
         have := span_more he
         exact classL_same s n m _ _ (by omega) (by omega)
       · rw [if_pos he]
         rw [classL_err he]
         exact ⟨rfl, fun h => absurd h he⟩
   · have e1 : classLQ s m false p i = (i, p) := by
       cases m with
       | zero => rfl
       | succ m => unfold classLQ; rw [Bool.false_or, if_neg hc]
     have e2 : classL s n p i = (i, p) := by
       cases n with
       | zero => rfl
       | succ n => unfold classL; rw [if_neg hc]
     rw [e1, e2]
     exact Alike.refl _
theorem failQ_e {p : PS} {e : Int} (h : p.e = 0) : (failP p e).e = e := by unfold failP; rw [if_pos h]
theorem class_same (s : ByteArray) (p : PS) (h0 : p.e = 0) : Alike (classQ s p) ([(classP s p).1], (classP s p).2) := by
 unfold classQ classP
 simp only
 have hp1 : (if isP s p 94 = true then p.step else p).e = 0 := by split <;> exact h0
 generalize (if isP s p 94 = true then p.step else p) = p1 at *
 by_cases h93 : isP s p1 93 = true
 · -- a bracket at once
   have hlt : p1.at_ < s.size := by
     unfold isP endsP at h93
     simp at h93
     omega
   have e1 : classLQ s (s.size + 2 - p1.at_) true p1 charI = (charI, failP p1 3) := by
     obtain ⟨k, hk⟩ : ∃ k, s.size + 2 - p1.at_ = k + 1 := ⟨s.size + 1 - p1.at_, by omega⟩
     rw [hk]
     unfold classLQ
     have hm : memberQ s p1 = (0, failP p1 3) := by
       unfold memberQ
       have h92 : isP s p1 92 = false := by
         unfold isP at h93 ⊢
         rw [Bool.and_eq_true, decide_eq_true_eq] at h93
         simp [h93.2]
       rw [if_neg (by simp [h92]), if_pos h93]
       exact next_err (by rw [failQ_e hp1]; decide)
     have hs : spanQ s p1 = ((0, 0), failP p1 3) := by
       unfold spanQ
       simp only [hm]
       have : dashP s (failP p1 3) = false := by
         unfold dashP
         rw [is_err (by rw [failQ_e hp1]; decide)]; rfl
       rw [this]; rfl
     rw [hs]
     simp only [Bool.true_or, if_true]
     rw [if_pos (by rw [failQ_e hp1]; decide)]
   rw [if_pos h93, e1]
   have hf : (failP p1 3).e ≠ 0 := by rw [failQ_e hp1]; decide
   simp only [ends_err hf, if_true, fail_err hf]
   rw [classL_err hf]
   simp only [next_err hf]
   exact ⟨rfl, fun h => absurd h hf⟩
 · rw [if_neg h93]
   have h93' : isP s p1 93 = false := by simpa using h93
   by_cases he : endsP s p1 = true
   · have e1 : ∃ i, classLQ s (s.size + 2 - p1.at_) true p1 charI = (i, failP p1 3) ∨ (s.size + 2 ≤ p1.at_ ∧ classLQ s (s.size + 2 - p1.at_) true p1 charI = (charI, p1)) := by
       rcases Nat.eq_zero_or_pos (s.size + 2 - p1.at_) with hz | hz
       · exact ⟨charI, .inr ⟨by omega, by rw [hz]; rfl⟩⟩
       · obtain ⟨k, hk⟩ : ∃ k, s.size + 2 - p1.at_ = k + 1 := ⟨s.size + 2 - p1.at_ - 1, by omega⟩
         refine ⟨charI, .inl ?_⟩
         rw [hk]
         unfold classLQ
         have hm : memberP s p1 = (0, failP p1 3) := by
           have : nextP s p1 = (0, failP p1 3) := by unfold nextP; rw [he]; rfl
           unfold memberP
           simp [this]
         have hs : spanP s p1 = ((0, 0), failP p1 3) := by
           unfold spanP
           simp [hm, is_err (show (failP p1 3).e ≠ 0 by rw [failQ_e hp1]; decide)]
         rw [span_same h93', hs]
         simp only [Bool.true_or, if_true, Nat.lt_irrefl, if_false]
         rw [if_pos (by rw [failQ_e hp1]; decide)]
     have e2 : classL s (s.size + 1 - p1.at_) p1 charI = (charI, p1) := by
       cases s.size + 1 - p1.at_ with
       | zero => rfl
       | succ n => unfold classL; simp [he]
     have e3 : nextP s p1 = (0, failP p1 3) := by unfold nextP; rw [he]; rfl
     have hf : (failP p1 3).e ≠ 0 := by rw [failQ_e hp1]; decide
     rw [e2]
     simp only [e3]
     obtain ⟨i, e1 | ⟨_, e1⟩⟩ := e1
     · rw [e1]
       simp only [ends_err hf, if_true, fail_err hf]
       exact ⟨rfl, fun h => absurd h hf⟩
     · rw [e1]
       simp only [he, if_true]
       exact ⟨rfl, fun h => absurd h hf⟩
   · have he' : endsP s p1 = false := by simpa using he
     have hlt : p1.at_ < s.size := by
       unfold endsP at he'
       simp at he'
       omega
     obtain ⟨k, hk⟩ : ∃ k, s.size + 2 - p1.at_ = k + 1 := ⟨s.size + 1 - p1.at_, by omega⟩
     obtain ⟨j, hj⟩ : ∃ j, s.size + 1 - p1.at_ = j + 1 := ⟨s.size - p1.at_, by omega⟩
     have key : Alike (classLQ s (s.size + 2 - p1.at_) true p1 charI) (classL s (s.size + 1 - p1.at_) p1 charI) := by
       have e1 : classLQ s (s.size + 2 - p1.at_) true p1 charI = classLQ s (s.size + 2 - p1.at_) false p1 charI := by
         rw [hk]
         unfold classLQ
         rw [he', h93']
         rfl
       rw [e1]
       exact classL_same s _ _ _ _ (Nat.le_refl _) (by omega)
     generalize classLQ s (s.size + 2 - p1.at_) true p1 charI = a at *
     generalize classL s (s.size + 1 - p1.at_) p1 charI = c at *
     obtain ⟨k1, k2⟩ := key
     by_cases h : a.2.e = 0
     · have := k2 h
       subst this
       by_cases hx : endsP s a.2 = true
       · rw [if_pos hx]
         have e3 : nextP s a.2 = (0, failP a.2 3) := by unfold nextP; rw [hx]; rfl
         simp only [e3]
         exact ⟨rfl, fun hq => absurd hq (by rw [failQ_e h]; decide)⟩
       · rw [if_neg hx]
         have e3 : (nextP s a.2).2 = a.2.step := by unfold nextP; rw [if_neg hx]
         simp only [e3]
         exact Alike.refl _
     · have h' : c.2.e ≠ 0 := by rw [← k1]; exact h
       simp only [ends_err h, if_true, fail_err h, next_err h']
       exact ⟨k1, fun hq => absurd hq h⟩
theorem err_all (s : ByteArray) : ∀ n, (∀ p, p.e ≠ 0 → (patR s n p).2.e = p.e) ∧ (∀ p out, p.e ≠ 0 → rowR s n p out = (out, p)) ∧ (∀ p, p.e ≠ 0 → (patQ s n p).2.e = p.e) ∧ (∀ p out, p.e ≠ 0 → rowQ s n p out = (out, p))
 | 0 => ⟨fun p _ => by unfold patR; rfl, fun p out _ => by unfold rowR; rfl, fun p _ => by unfold patQ; rfl, fun p out _ => by unfold rowQ; rfl⟩
 | n + 1 => by
   have ih := err_all s n
   refine ⟨fun p h => ?_, fun p out h => ?_, fun p h => ?_, fun p out h => ?_⟩
   · unfold patR
     simp only [ih.2.1 p [] h, is_err h]
     rfl
   · unfold rowR
     simp [ends_err h]
   · unfold patQ
     simp only [ih.2.2.2 p [] h, is_err h]
     rfl
   · unfold rowQ
     simp [ends_err h]
theorem more_at {s : ByteArray} {p : PS} (h : endsP s p = false) : p.e = 0 ∧ p.at_ < s.size := by
 unfold endsP at h
 simp at h
 exact h
theorem atom_same (s : ByteArray) (n : Nat) (p : PS) (hm : endsP s p = false) (hb : isP s p 124 = false) (hpat : ∀ p, p.e = 0 → Alike (patQ s n p) (patR s n p)) : Alike (atomQ s (n + 1) p) (atomR s (n + 1) p) := by
 obtain ⟨h0, hlt⟩ := more_at hm
 have hnx : nextP s p = (byteAt s p.at_, p.step) := by unfold nextP; rw [hm]; rfl
 have h124 : byteAt s p.at_ ≠ 124 := by
   unfold isP at hb
   rw [hm] at hb
   simpa using hb
 have h1 : p.step.e = 0 := h0
 unfold atomQ atomR
 simp only [hnx]
 generalize byteAt s p.at_ = b at *
 generalize p.step = p1 at *
 by_cases c40 : b = 40
 · subst c40
   simp only [show ¬ (40 : Nat) = 92 by decide, show ¬ (40 : Nat) = 46 by decide, show ¬ (40 : Nat) = 94 by decide, show ¬ (40 : Nat) = 36 by decide, show ¬ (40 : Nat) = 91 by decide, true_and, if_false, if_true]
   rw [if_pos h1]
   by_cases hd : p1.deep = 20
   · rw [if_pos hd, if_pos hd]; exact Alike.refl _
   · rw [if_neg hd, if_neg hd]
     have hq := hpat ⟨p1.at_, p1.deep + 1, p1.e⟩ h1
     generalize patQ s n ⟨p1.at_, p1.deep + 1, p1.e⟩ = a at *
     generalize patR s n ⟨p1.at_, p1.deep + 1, p1.e⟩ = c at *
     obtain ⟨k1, k2⟩ := hq
     by_cases h : a.2.e = 0
     · have := k2 h
       subst this
       by_cases hx : isP s ⟨a.2.at_, a.2.deep - 1, a.2.e⟩ 41 = true
       · rw [if_pos hx]
         have hx' : isP s a.2 41 = true := hx
         have hz : nextP s a.2 = (41, a.2.step) := by
           unfold isP at hx'
           rw [Bool.and_eq_true, decide_eq_true_eq] at hx'
           unfold nextP
           rw [show endsP s a.2 = false by simpa using hx'.1]
           simp [hx'.2]
         simp only [hz]
         exact Alike.refl _
       · rw [if_neg hx]
         have hx' : ¬ isP s a.2 41 = true := hx
         have hf3 : (failP ⟨a.2.at_, a.2.deep - 1, a.2.e⟩ 3).e = 3 := failQ_e h
         refine ⟨hf3.trans ?_, fun hq => absurd (hf3.symm.trans hq) (by decide)⟩
         show (3 : Int) = (if (nextP s a.2).1 ≠ 41 then failP (nextP s a.2).2 3 else (nextP s a.2).2).e
         by_cases hy : endsP s a.2 = true
         · have hz : nextP s a.2 = (0, failP a.2 3) := by unfold nextP; rw [hy]; rfl
           simp only [hz, show (0 : Nat) ≠ 41 by decide, ne_eq, not_false_eq_true, if_true]
           rw [fail_err (by rw [failQ_e h]; decide)]
           exact (failQ_e h).symm
         · have hz : nextP s a.2 = (byteAt s a.2.at_, a.2.step) := by unfold nextP; rw [if_neg hy]
           have hne : byteAt s a.2.at_ ≠ 41 := by
             intro e
             apply hx'
             unfold isP
             simp [hy, e]
           simp only [hz, hne, ne_eq, not_false_eq_true, if_true]
           exact (failQ_e (show a.2.step.e = 0 from h)).symm
     · have h' : c.2.e ≠ 0 := by rw [← k1]; exact h
       have hi : isP s ⟨a.2.at_, a.2.deep - 1, a.2.e⟩ 41 = false := is_err h
       rw [if_neg (by simp [hi])]
       rw [fail_err (show (⟨a.2.at_, a.2.deep - 1, a.2.e⟩ : PS).e ≠ 0 from h)]
       simp only [next_err h', show (0 : Nat) ≠ 41 by decide, ne_eq, not_false_eq_true, if_true]
       rw [fail_err h']
       exact ⟨k1, fun hq => absurd hq h⟩
 · by_cases c92 : b = 92
   · subst c92
     simp only [show ¬ (92 : Nat) = 40 by decide, show ¬ (92 : Nat) = 91 by decide, show ¬ (92 : Nat) = 46 by decide, show ¬ (92 : Nat) = 94 by decide, show ¬ (92 : Nat) = 36 by decide, false_and, if_false, if_true]
     by_cases hy : endsP s p1 = true
     · rw [if_pos hy]
       have hz : nextP s p1 = (0, failP p1 3) := by unfold nextP; rw [hy]; rfl
       simp only [hz]
       exact ⟨rfl, fun hq => absurd hq (by rw [failQ_e h1]; decide)⟩
     · rw [if_neg hy]
       have hz : nextP s p1 = (byteAt s p1.at_, p1.step) := by unfold nextP; rw [if_neg hy]
       simp only [hz]
       exact Alike.refl _
   · by_cases c91 : b = 91
     · subst c91
       simp only [show ¬ (91 : Nat) = 40 by decide, show ¬ (91 : Nat) = 92 by decide, show ¬ (91 : Nat) = 46 by decide, show ¬ (91 : Nat) = 94 by decide, show ¬ (91 : Nat) = 36 by decide, false_and, if_false, if_true]
       exact class_same s p1 h1
     · by_cases c46 : b = 46
       · subst c46
         simp only [show ¬ (46 : Nat) = 40 by decide, show ¬ (46 : Nat) = 92 by decide, show ¬ (46 : Nat) = 91 by decide, false_and, if_false, if_true]
         exact Alike.refl _
       · by_cases c94 : b = 94
         · subst c94
           simp only [show ¬ (94 : Nat) = 40 by decide, show ¬ (94 : Nat) = 92 by decide, show ¬ (94 : Nat) = 91 by decide, show ¬ (94 : Nat) = 46 by decide, false_and, if_false, if_true]
           exact Alike.refl _
         · by_cases c36 : b = 36
           · subst c36
             simp only [show ¬ (36 : Nat) = 40 by decide, show ¬ (36 : Nat) = 92 by decide, show ¬ (36 : Nat) = 91 by decide, show ¬ (36 : Nat) = 46 by decide, show ¬ (36 : Nat) = 94 by decide, false_and, if_false, if_true]
             exact Alike.refl _
           · have hbar : barred b = barQ b := by
               unfold barred barQ
               simp only [h124, decide_false, Bool.or_false]
               cases decide (b = 41) <;> cases decide (b = 42) <;> cases decide (b = 43) <;> cases decide (b = 63) <;> rfl
             simp only [c40, c92, c91, c46, c94, c36, false_and, if_false, hbar]
             by_cases hbq : barQ b = true
             · rw [if_pos hbq, if_pos hbq]
               exact ⟨rfl, fun hq => absurd hq (by rw [failQ_e h1]; decide)⟩
             · rw [if_neg hbq, if_neg hbq]; exact Alike.refl _
theorem piece_same (s : ByteArray) (n : Nat) (p : PS) (h : Alike (atomQ s n p) (atomR s n p)) : Alike (pieceQ s (n + 1) p) (pieceR s (n + 1) p) := by
 unfold pieceQ pieceR
 simp only
 generalize atomQ s n p = a at *
 generalize atomR s n p = c at *
 obtain ⟨k1, k2⟩ := h
 by_cases h : a.2.e = 0
 · have := k2 h
   subst this
   exact Alike.refl _
 · have h' : c.2.e ≠ 0 := by rw [← k1]; exact h
   simp only [is_err h, is_err h', Bool.false_eq_true, if_false]
   exact ⟨k1, fun hq => absurd hq h⟩
theorem all_same (s : ByteArray) : ∀ n, (∀ p, p.e = 0 → Alike (patQ s n p) (patR s n p)) ∧ (∀ p out, p.e = 0 → Alike (rowQ s n p out) (rowR s n p out)) ∧ (∀ p, endsP s p = false → isP s p 124 = false → Alike (pieceQ s n p) (pieceR s n p)) ∧ (∀ p, endsP s p = false → isP s p 124 = false → Alike (atomQ s n p) (atomR s n p))
 | 0 => ⟨fun p h => by unfold patQ patR; exact Alike.refl _, fun p out h => by unfold rowQ rowR; exact Alike.refl _, fun p _ _ => by unfold pieceQ pieceR; exact Alike.refl _, fun p _ _ => by unfold atomQ atomR; exact Alike.refl _⟩
 | n + 1 => by
   obtain ⟨i1, i2, i3, i4⟩ := all_same s n
   have herr := err_all s n
   refine ⟨fun p h => ?_, fun p out h => ?_, fun p hm hb => piece_same s n p (i4 p hm hb), fun p hm hb => atom_same s n p hm hb i1⟩
   · unfold patQ patR
     simp only
     have hr := i2 p [] h
     generalize rowQ s n p [] = a at *
     generalize rowR s n p [] = c at *
     obtain ⟨k1, k2⟩ := hr
     by_cases h0 : a.2.e = 0
     · have := k2 h0
       subst this
       by_cases hx : isP s a.2 124 = true
       · rw [if_pos hx, if_pos hx]
         have hq := i1 a.2.step h0
         generalize patQ s n a.2.step = x at *
         generalize patR s n a.2.step = y at *
         obtain ⟨m1, m2⟩ := hq
         refine ⟨m1, fun hz => ?_⟩
         have := m2 hz
         subst this
         rfl
       · rw [if_neg hx, if_neg hx]; exact Alike.refl _
     · have h' : c.2.e ≠ 0 := by rw [← k1]; exact h0
       simp only [is_err h0, is_err h', Bool.false_eq_true, if_false]
       exact ⟨k1, fun hq => absurd hq h0⟩
   · unfold rowQ rowR
     by_cases hc : (!endsP s p && (!isP s p 124 && !isP s p 41)) = true
     · rw [if_pos hc, if_pos hc]
       rw [Bool.and_eq_true, Bool.and_eq_true] at hc
       have hp := i3 p (by simpa using hc.1) (by simpa using hc.2.1)
       simp only
       generalize pieceQ s n p = a at *
       generalize pieceR s n p = c at *
       obtain ⟨k1, k2⟩ := hp
       by_cases h0 : a.2.e = 0
       · have := k2 h0
         subst this
         exact i2 _ _ h0
       · have h' : c.2.e ≠ 0 := by rw [← k1]; exact h0
         rw [herr.2.2.2 _ _ h0, herr.2.1 _ _ h']
         exact ⟨k1, fun hq => absurd hq h0⟩
     · rw [if_neg hc, if_neg hc]; exact Alike.refl _
def compQ (s : ByteArray) : List Ins × Int :=
 if 256 < s.size then ([], 4)
 else
   let r := patQ s (fuelOf s.size) ⟨0, 0, 0⟩
   if (finP s r.2).e = 0 then (r.1 ++ [doneI], 0) else ([], (finP s r.2).e)
theorem comp_same (s : ByteArray) : compQ s = compR s := by
 unfold compQ compR
 split
 · rfl
 · simp only
   have h := (all_same s (fuelOf s.size)).1 ⟨0, 0, 0⟩ rfl
   generalize patQ s (fuelOf s.size) ⟨0, 0, 0⟩ = a at *
   generalize patR s (fuelOf s.size) ⟨0, 0, 0⟩ = c at *
   obtain ⟨k1, k2⟩ := h
   by_cases h0 : a.2.e = 0
   · have := k2 h0
     subst this
     rfl
   · have h' : c.2.e ≠ 0 := by rw [← k1]; exact h0
     have f1 : finP s a.2 = a.2 := by unfold finP; rw [ends_err h0]; rfl
     have f2 : finP s c.2 = c.2 := by unfold finP; rw [ends_err h']; rfl
     rw [f1, f2, if_neg h0, if_neg h', k1]
end Go.Proofs.YtiplipdigabidaaGreat
