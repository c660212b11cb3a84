/- What the document's matcher computes, as functions; it is what the program's matcher computes. -/
import Derived.Test.YtiplipdigabidaaGreatRqSpec
set_option linter.unusedVariables false
set_option linter.unusedSimpArgs false
namespace Go.Proofs.YtiplipdigabidaaGreat
def dfs (outs : Int → List Int) : Nat → List Int → List Bool → List Bool
 | 0, _, on => on
 | _ + 1, [], on => on
 | n + 1, i :: todo, on => if on.getD i.toNat false = true then dfs outs n todo on else dfs outs n (outs i ++ todo) (on.set i.toNat true)
def MemB (on : List Bool) (i : Nat) : Prop := on.getD i false = true
theorem mem_set {on : List Bool} {i j : Nat} : MemB (on.set i true) j ↔ MemB on j ∨ (j = i ∧ i < on.length) := by
 unfold MemB
 rw [List.getD_eq_getElem?_getD, List.getD_eq_getElem?_getD, List.getElem?_set]
 by_cases h : i = j
 · subst h
   by_cases hl : i < on.length
   · simp [hl]
   · simp [hl]
 · simp [h]
   intro e
   exact absurd e.symm h
structure Clo (outs : Int → List Int) (L : Nat) (on : List Bool) (todo : List Int) (r : List Bool) : Prop where
 len : r.length = L
 sub : ∀ i, MemB on i → MemB r i
 all : ∀ i ∈ todo, MemB r i.toNat
 step : ∀ i : Int, 0 ≤ i → i < L → MemB r i.toNat → ¬ MemB on i.toNat → ∀ k ∈ outs i, MemB r k.toNat
 least : ∀ S : Nat → Prop, (∀ i, MemB on i → S i) → (∀ i ∈ todo, S i.toNat) → (∀ i : Int, 0 ≤ i → i < L → S i.toNat → ¬ MemB on i.toNat → ∀ k ∈ outs i, S k.toNat) → ∀ i, MemB r i → S i
theorem clo_nil (outs : Int → List Int) (on : List Bool) : Clo outs on.length on [] on :=
 ⟨rfl, fun _ h => h, fun _ h => (List.not_mem_nil h).elim, fun _ _ _ h hn => absurd h hn, fun S h _ _ i hi => h i hi⟩
theorem dfs_clo (outs : Int → List Int) (L : Nat) (ho : ∀ i : Int, 0 ≤ i → i < L → (outs i).length ≤ 2 ∧ ∀ k ∈ outs i, 0 ≤ k ∧ k < L) :
   ∀ (n : Nat) (todo : List Int) (on : List Bool), 3 * offs on + todo.length ≤ n → on.length = L → (∀ k ∈ todo, 0 ≤ k ∧ k < L) → Clo outs L on todo (dfs outs n todo on) := by
 intro n
 induction n with
 | zero =>
   intro todo on h hl hk
   obtain rfl : todo = [] := List.eq_nil_of_length_eq_zero (by omega)
   subst hl
   exact clo_nil outs on
 | succ n ih =>
   intro todo on h hl hk
   cases todo with
   | nil => subst hl; exact clo_nil outs on
   | cons i todo =>
     simp only [List.length_cons] at h
     have hi := hk i List.mem_cons_self
     have hk' : ∀ k ∈ todo, 0 ≤ k ∧ k < L := fun k hm => hk k (List.mem_cons_of_mem _ hm)
     unfold dfs
     by_cases hm : on.getD i.toNat false = true
     · rw [if_pos hm]
       have c := ih todo on (by omega) hl hk'
       refine ⟨c.len, c.sub, fun k hkm => ?_, c.step, fun S h1 h2 h3 => c.least S h1 (fun k hkm => h2 k (List.mem_cons_of_mem _ hkm)) h3⟩
       rcases List.mem_cons.1 hkm with rfl | hkm
       · exact c.sub _ hm
       · exact c.all k hkm
     · rw [if_neg hm]
       have hf : on.getD i.toNat false = false := by simpa using hm
       have hlt : i.toNat < on.length := by omega
       have hs := set_offs (on := on) (i := i.toNat) hf hlt
       have hoi := ho i hi.1 hi.2
       have c := ih (outs i ++ todo) (on.set i.toNat true) (by simp only [List.length_append]; omega) (by simpa using hl) (fun k hkm => by
         rcases List.mem_append.1 hkm with hkm | hkm
         · exact hoi.2 k hkm
         · exact hk' k hkm)
       refine ⟨c.len, fun j hj => c.sub j (mem_set.2 (.inl hj)), fun k hkm => ?_, fun j hj0 hjL hjr hjn k hkm => ?_, fun S h1 h2 h3 => c.least S (fun j hj => ?_) (fun k hkm => ?_) fun j hj0 hjL hjs hjn k hkm => ?_⟩
       · rcases List.mem_cons.1 hkm with rfl | hkm
         · exact c.sub _ (mem_set.2 (.inr ⟨rfl, hlt⟩))
         · exact c.all k (List.mem_append_right _ hkm)
       · by_cases hji : j = i
         · subst hji
           exact c.all k (List.mem_append_left _ hkm)
         · refine c.step j hj0 hjL hjr (fun hq => ?_) k hkm
           rcases mem_set.1 hq with hq | ⟨hq, _⟩
           · exact hjn hq
           · exact hji (by omega)
       · rcases mem_set.1 hj with hj | ⟨rfl, _⟩
         · exact h1 j hj
         · exact h2 i List.mem_cons_self
       · rcases List.mem_append.1 hkm with hkm | hkm
         · exact h3 i hi.1 hi.2 (h2 i List.mem_cons_self) hm k hkm
         · exact h2 k (List.mem_cons_of_mem _ hkm)
       · exact h3 j hj0 hjL hjs (fun hq => hjn (mem_set.2 (.inl hq))) k hkm
theorem list_ext_mem {a b : List Bool} (hl : a.length = b.length) (h : ∀ i, MemB a i ↔ MemB b i) : a = b := by
 apply List.ext_getElem hl
 intro i h1 h2
 have := h i
 unfold MemB at this
 rw [List.getD_eq_getElem?_getD, List.getD_eq_getElem?_getD, List.getElem?_eq_getElem h1, List.getElem?_eq_getElem h2] at this
 simp only [Option.getD_some] at this
 cases ha : a[i] <;> cases hb : b[i] <;> simp_all
theorem clo_unique {o1 o2 : Int → List Int} {L : Nat} {on : List Bool} {todo : List Int} {a b : List Bool} (ho : ∀ i k, k ∈ o1 i ↔ k ∈ o2 i) (ha : Clo o1 L on todo a) (hb : Clo o2 L on todo b) : a = b :=
 list_ext_mem (ha.len.trans hb.len.symm) fun i =>
   ⟨fun h => ha.least (MemB b) hb.sub hb.all (fun j h0 h1 hj hn k hk => hb.step j h0 h1 hj hn k ((ho j k).1 hk)) i h,
    fun h => hb.least (MemB a) ha.sub ha.all (fun j h0 h1 hj hn k hk => ha.step j h0 h1 hj hn k ((ho j k).2 hk)) i h⟩
theorem enter_dfs (l : List Ins) (f t : Bool) : ∀ n todo st, (enterR l f t n todo st).1 = dfs (fun i => outsI (insAt l i) i f t) n todo st.1
 | 0, _, _ => rfl
 | n + 1, [], _ => rfl
 | n + 1, i :: todo, st => by
   unfold enterR dfs
   split
   · exact enter_dfs l f t n todo st
   · exact enter_dfs l f t n _ _
def outsQ (x : Ins) (i : Int) (first last : Bool) : List Int :=
 if x.kind = 2 then [x.y, x.x] else if x.kind = 3 then [x.x] else if (x.kind = 4 ∧ first = true) ∨ (x.kind = 5 ∧ last = true) then [i + 1] else []
def reachQ (l : List Ins) (first last : Bool) (i : Int) (on : List Bool) : List Bool := dfs (fun i => outsQ (insAt l i) i first last) (3 * l.length + 2) [i] on
theorem outs_mem (x : Ins) (i : Int) (f t : Bool) (k : Int) : k ∈ outsQ x i f t ↔ k ∈ outsI x i f t := by
 unfold outsQ outsI
 split
 · simp only [List.mem_cons, List.not_mem_nil, or_false]
   exact Or.comm
 · rfl
theorem outsQ_le (x : Ins) (i : Int) (f l : Bool) : (outsQ x i f l).length ≤ 2 := by
 unfold outsQ
 split
 · simp
 · split
   · simp
   · split <;> simp
theorem reach_clo {l : List Ins} (h : Prg l) (f t : Bool) {i : Int} (h0 : 0 ≤ i) (h1 : i < l.length) {on : List Bool} (hl : on.length = l.length) (n : Nat) (hn : 3 * offs on + 1 ≤ n) :
   Clo (fun i => outsQ (insAt l i) i f t) l.length on [i] (dfs (fun i => outsQ (insAt l i) i f t) n [i] on) :=
 dfs_clo _ _ (fun j j0 j1 => ⟨outsQ_le _ _ _ _, fun k hk => outs_in h j0 j1 f t k ((outs_mem _ _ _ _ _).1 hk)⟩) n [i] on (by simpa using hn) hl (fun k hk => by rw [List.mem_singleton] at hk; subst hk; exact ⟨h0, h1⟩)
theorem entered_reach {l : List Ins} (h : Prg l) (f t : Bool) {i : Int} (h0 : 0 ≤ i) (h1 : i < l.length) {st : List Bool × Bool} (hl : st.1.length = l.length) : (entered l f t i st).1 = reachQ l f t i st.1 := by
 have ho := offs_le st.1
 unfold entered reachQ
 rw [enter_dfs]
 refine clo_unique (fun j k => (outs_mem _ _ _ _ _).symm) (dfs_clo _ l.length (fun j j0 j1 => ⟨outs_le _ _ _ _, outs_in h j0 j1 f t⟩) _ [i] st.1 (by simp; omega) hl fun k hk => ?_) (reach_clo h f t h0 h1 hl _ (by omega))
 rw [List.mem_singleton] at hk; subst hk; exact ⟨h0, h1⟩
def DoneLast (l : List Ins) : Prop := ∀ i : Nat, i < l.length → ((insAt l i).kind = 6 ↔ i + 1 = l.length)
theorem enter_done {l : List Ins} (hd : DoneLast l) (hp : Prg l) (f t : Bool) : ∀ n todo st, st.1.length = l.length → (∀ k ∈ todo, 0 ≤ k ∧ k < (l.length : Int)) → st.2 = st.1.getD (l.length - 1) false → (enterR l f t n todo st).2 = (enterR l f t n todo st).1.getD (l.length - 1) false
 | 0, _, st, _, _, h => h
 | n + 1, [], st, _, _, h => h
 | n + 1, i :: todo, st, hl, hk, h => by
   have hi := hk i List.mem_cons_self
   have hk' : ∀ k ∈ todo, 0 ≤ k ∧ k < (l.length : Int) := fun k hm => hk k (List.mem_cons_of_mem _ hm)
   unfold enterR
   split
   · exact enter_done hd hp f t n todo st hl hk' h
   · refine enter_done hd hp f t n _ _ (by simpa using hl) (fun k hkm => ?_) ?_
     · rcases List.mem_append.1 hkm with hkm | hkm
       · exact outs_in hp hi.1 hi.2 f t k hkm
       · exact hk' k hkm
     · have hx := hd i.toNat (by omega)
       have e : insAt l (i.toNat : Int) = insAt l i := by unfold insAt; rw [Int.toNat_natCast]
       rw [e] at hx
       simp only
       rw [List.getD_eq_getElem?_getD, List.getElem?_set]
       by_cases he : i.toNat = l.length - 1
       · have hpos := hp.pos
         have h6 : (insAt l i).kind = 6 := hx.2 (by omega)
         rw [if_pos he, if_pos (by omega), decide_eq_true h6]
         simp
       · have h6 : ¬ (insAt l i).kind = 6 := fun hq => he (by have := hx.1 hq; omega)
         simp [he, h6]
         rw [h, List.getD_eq_getElem?_getD]
def takesQ (l : List Ins) (c : Nat) (last : Bool) : Nat → List Bool → List Bool → List Bool
 | _, [], next => next
 | k, on :: r, next => takesQ l c last (k + 1) r (if on && takesI (insAt l k) c then reachQ l false last (k + 1) next else next)
def runQ (l : List Ins) (t : ByteArray) : Nat → Nat → List Bool → Bool
 | 0, _, on => on.getD (l.length - 1) false
 | n + 1, i, on =>
   if on.getD (l.length - 1) false = true then true
   else
     let last := decide (i + 1 = t.size)
     runQ l t n (i + 1) (reachQ l false last 0 (takesQ l (byteAt t i) last 0 on (List.replicate l.length false)))
theorem reachQ_len {l : List Ins} (h : Prg l) (f t : Bool) {i : Int} (h0 : 0 ≤ i) (h1 : i < l.length) {on : List Bool} (hl : on.length = l.length) : (reachQ l f t i on).length = l.length := by
 have ho := offs_le on
 exact (reach_clo h f t h0 h1 hl _ (by omega)).len
def Same2 (l : List Ins) (st : List Bool × Bool) (on : List Bool) : Prop := st.1 = on ∧ on.length = l.length ∧ st.2 = on.getD (l.length - 1) false
theorem entered_same {l : List Ins} (hd : DoneLast l) (h : Prg l) (f t : Bool) {i : Int} (h0 : 0 ≤ i) (h1 : i < l.length) {st : List Bool × Bool} {on : List Bool} (hs : Same2 l st on) : Same2 l (entered l f t i st) (reachQ l f t i on) := by
 obtain ⟨rfl, hl, hdn⟩ := hs
 refine ⟨entered_reach h f t h0 h1 hl, reachQ_len h f t h0 h1 hl, ?_⟩
 rw [← entered_reach h f t h0 h1 hl]
 exact enter_done hd h f t _ _ _ hl (fun k hk => by rw [List.mem_singleton] at hk; subst hk; exact ⟨h0, h1⟩) hdn
theorem takesL_same {l : List Ins} (hd : DoneLast l) (h : Prg l) (c : Nat) (last : Bool) : ∀ (r : List Bool) (k : Nat) (st : List Bool × Bool) (on : List Bool), k + r.length ≤ l.length → Same2 l st on → Same2 l (takesL l c last k r st) (takesQ l c last k r on)
 | [], _, _, _, _, hs => hs
 | b :: r, k, st, on, hk, hs => by
   simp only [List.length_cons] at hk
   unfold takesL takesQ
   refine takesL_same hd h c last r (k + 1) _ _ (by omega) ?_
   by_cases hb : (b && takesI (insAt l k) c) = true
   · rw [if_pos hb, if_pos hb]
     rw [Bool.and_eq_true] at hb
     have := takes_in h (k := k) (by omega) hb.2
     exact entered_same hd h false last (by omega) (by omega) hs
   · rw [if_neg hb, if_neg hb]; exact hs
theorem none_same {l : List Ins} (h : Prg l) : Same2 l (noneOn l) (List.replicate l.length false) := by
 refine ⟨rfl, by simp, ?_⟩
 have := h.pos
 unfold noneOn
 rw [List.getD_eq_getElem?_getD, List.getElem?_replicate]
 split <;> rfl
theorem run_same {l : List Ins} (hd : DoneLast l) (h : Prg l) (t : ByteArray) : ∀ (n i : Nat) (st : List Bool × Bool) (on : List Bool), Same2 l st on → fitsL l t false n i st = runQ l t n i on
 | 0, _, st, on, hs => hs.2.2
 | n + 1, i, st, on, hs => by
   have hp := h.pos
   unfold fitsL runQ
   rw [hs.2.2]
   by_cases hq : on.getD (l.length - 1) false = true
   · rw [if_pos hq, if_pos (by rw [hq]; rfl)]
   · rw [if_neg hq, if_neg (by simpa using hq)]
     simp only [Bool.false_eq_true, if_false]
     refine run_same hd h t n (i + 1) _ _ (entered_same hd h false _ (by omega) (by omega) ?_)
     unfold takes
     rw [hs.1]
     exact takesL_same hd h _ _ on 0 _ _ (by rw [hs.2.1]; omega) (none_same h)
def Plain (l : List Ins) : Prop := ∀ i ∈ l, i.kind ≠ 6
theorem plain_app {a b : List Ins} (h : Plain a) (k : Plain b) : Plain (a ++ b) := fun i hi => by
 rcases List.mem_append.1 hi with hi | hi
 · exact h i hi
 · exact k i hi
theorem plain_one {i : Ins} (h : i.kind ≠ 6) : Plain [i] := fun j hj => by rw [List.mem_singleton] at hj; rw [hj]; exact h
theorem plain_moved {l : List Ins} (h : Plain l) (k : Int) : Plain (movedL l k) := fun i hi => by
 unfold movedL at hi
 obtain ⟨j, hj, rfl⟩ := List.mem_map.1 hi
 have := h j hj
 unfold movedI
 split
 · exact this
 · split <;> exact this
theorem plain_nil : Plain [] := fun _ h => by cases h
theorem plain_all (s : ByteArray) : ∀ n, (∀ p, Plain (patR s n p).1) ∧ (∀ p out, Plain out → Plain (rowR s n p out).1) ∧ (∀ p, Plain (pieceR s n p).1) ∧ (∀ p, Plain (atomR s n p).1)
 | 0 => ⟨fun p => by unfold patR; exact plain_nil, fun p out h => by unfold rowR; exact h, fun p => by unfold pieceR; exact plain_nil, fun p => by unfold atomR; exact plain_nil⟩
 | n + 1 => by
   obtain ⟨i1, i2, i3, i4⟩ := plain_all s n
   refine ⟨fun p => ?_, fun p out h => ?_, fun p => ?_, fun p => ?_⟩
   · unfold patR
     simp only
     split
     · unfold eitherL
       exact plain_app (plain_app (plain_app (plain_one (by simp [splitI])) (plain_moved (i2 _ _ plain_nil) _)) (plain_one (by simp [jumpI]))) (plain_moved (i1 _) _)
     · exact i2 _ _ plain_nil
   · unfold rowR
     split
     · exact i2 _ _ (plain_app h (plain_moved (i3 _) _))
     · exact h
   · unfold pieceR
     simp only
     split
     · exact plain_app (plain_app (plain_one (by simp [splitI])) (plain_moved (i4 _) _)) (plain_one (by simp [jumpI]))
     · split
       · exact plain_app (i4 _) (plain_one (by simp [splitI]))
       · split
         · exact plain_app (plain_one (by simp [splitI])) (plain_moved (i4 _) _)
         · exact i4 _
   · unfold atomR
     simp only
     have hc : (hasI charI (nextP s p).1).kind ≠ 6 := by rw [hasI_kind]; simp [charI]
     split
     · split
       · exact plain_nil
       · exact i1 _
     · split
       · exact plain_one (by rw [classP_kind]; decide)
       · split
         · exact plain_one (by simp [anyI])
         · split
           · exact plain_one (by simp)
           · split
             · exact plain_one (by simp)
             · split
               · exact plain_one (by rw [hasI_kind]; simp [charI])
               · split
                 · exact plain_one (by simp [charI])
                 · exact plain_one hc
theorem comp_done {s : ByteArray} (h : (compR s).2 = 0) : DoneLast (compR s).1 := by
 unfold compR at h ⊢
 split
 · rename_i hs; rw [if_pos hs] at h; exact absurd (show (4 : Int) = 0 from h) (by decide)
 · rename_i hs
   rw [if_neg hs] at h
   simp only at h ⊢
   have hp := (plain_all s (fuelOf s.size)).1 ⟨0, 0, 0⟩
   generalize patR s (fuelOf s.size) ⟨0, 0, 0⟩ = r at *
   split
   · intro i hi
     simp only [List.length_append, List.length_cons, List.length_nil] at hi ⊢
     unfold insAt
     rw [Int.toNat_natCast, List.getD_eq_getElem?_getD]
     rcases Nat.lt_or_ge i r.1.length with hlt | hge
     · rw [List.getElem?_append_left hlt, List.getElem?_eq_getElem hlt]
       simp only [Option.getD_some]
       have := hp r.1[i] (List.getElem_mem hlt)
       exact ⟨fun hq => absurd hq this, fun hq => by omega⟩
     · obtain rfl : i = r.1.length := by omega
       rw [List.getElem?_append_right (Nat.le_refl _)]
       simp [doneI]
   · rename_i h0
     rw [if_neg h0] at h
     exact absurd h h0
def matchQ (pat t : ByteArray) : Bool × Int :=
 if 256 < t.size then (false, 1)
 else if (compQ pat).2 ≠ 0 then (false, (compQ pat).2)
 else (runQ (compQ pat).1 t t.size 0 (reachQ (compQ pat).1 true (decide (t.size = 0)) 0 (List.replicate (compQ pat).1.length false)), 0)
theorem match_same (pat t : ByteArray) : matchQ pat t = fitsR pat t false := by
 unfold matchQ fitsR
 rw [comp_same]
 split
 · rfl
 · split
   · rfl
   · rename_i h
     have h0 : (compR pat).2 = 0 := by simpa using h
     have hp := comp_prg h0
     have hpos := hp.pos
     rw [run_same (comp_done h0) hp t t.size 0 _ _ (entered_same (comp_done h0) hp true _ (Int.le_refl 0) (by omega) (none_same hp))]
end Go.Proofs.YtiplipdigabidaaGreat
