/- expr.stack.push. -/
import Derived.Deep.RegionHeld3
import Derived.StillTail
import Derived.ProofKit
import Derived.Test.YtiplipdigabidaaGreatFresh
import Derived.Deep.RegionLaw
set_option linter.unusedVariables false
set_option linter.unusedSimpArgs false
namespace Go.Proofs.YtiplipdigabidaaGreat
section
variable {P : Program} {md : Region.Mode} {ops : Array Oper} {Q : Exit → Act → World → Prop} {S : World → Prop} {n : Nat}
def wpUpto (P : Program) (md : Region.Mode) (ops : Array Oper) (Q : Exit → Act → World → Prop) (S : World → Prop) (n : Nat) : Nat → Array Bool → Act → World → Prop
 | 0, l, a, w => Region.ready md ops l = [] ∧ Q .normal a w
 | f + 1, l, a, w => (Region.ready md ops l = [] → Q .normal a w) ∧ ∀ i ∈ Region.ready md ops l, wpOp P ops Q i (fun a' w' => (i < n → S w') ∧ wpUpto P md ops Q S n f (l.setIfInBounds i true) a' w') a w
theorem wpAny_of_upto : ∀ (f : Nat) (l : Array Bool) (a : Act) (w : World), wpUpto P md ops Q S n f l a w → wpAny P md ops Q f l a w
 | 0, _, _, _, h => h
 | f + 1, _, _, _, h => ⟨h.1, fun i hi => wpOp_mono (fun a' w' h' => wpAny_of_upto f _ a' w' h'.2) (h.2 i hi)⟩
structure UptoInv (md : Region.Mode) (ops : Array Oper) (n : Nat) (l : Array Bool) : Prop where
 head : HeadInv md ops n l
 sink : Region.sinkB md ops n = true
 chain : Region.chainB md ops n = true
 lt : n < ops.size
theorem upto_first {i : Nat} {oi : Oper} {v : Value} (hi : ops[i]? = some oi) (hin : i < n) (hsel : ∀ (j : Nat) (o : Oper) cs b, ops[j]? = some o → o.op ≠ .select cs b)
   (hQ : ∀ c a w, Q (.panic c) (a.put oi.dst v) w → Q (.panic c) a w) :
   ∀ (f : Nat) (l : Array Bool) (a : Act) (w : World), UptoInv md ops n l →
     (∀ j oj, ops[j]? = some oj → j ≠ i → l.getD j true = false → (∀ e ∈ oj.after, Region.binds md e = true → e.on ≠ i) → oi.apart ops oj = true) →
     i ∈ Region.ready md ops l → YieldsIf P ops S oi v a → S w →
     wpUpto P md ops Q S n f (l.setIfInBounds i true) (a.put oi.dst v) w → wpUpto P md ops Q S n (f + 1) l a w := by
 intro f
 induction f with
 | zero =>
   intro l a w _ _ hr hy hS H
   refine ⟨fun h => (by rw [h] at hr; cases hr), fun j hj => ?_⟩
   by_cases hji : j = i
   · subst hji; exact hy.wpOp hi hS ⟨fun _ => hS, H⟩
   · have h1 := ready_mono hj hji
     rw [H.1] at h1
     cases h1
 | succ f ih =>
   intro l a w inv hfree hr hy hS H
   refine ⟨fun h => (by rw [h] at hr; cases hr), fun j hj => ?_⟩
   by_cases hji : j = i
   · subst hji; exact hy.wpOp hi hS ⟨fun _ => hS, H⟩
   · have hjn : j < n := by
       rcases Nat.lt_or_ge j n with h | h
       · exact h
       · exact absurd hj (tail_waits inv.sink inv.chain inv.lt inv.head (n - i) i rfl hin (mem_ready.1 hr).1 j h)
     have h1 := H.2 j (ready_mono hj hji)
     obtain ⟨hjun, oj, hoj, hall⟩ := mem_ready.1 hj
     have hnot : ∀ e ∈ oj.after, Region.binds md e = true → e.on ≠ i := fun e he hb heq => by
       have k1 := hall e he hb
       have k0 := (mem_ready.1 hr).1
       rw [heq] at k1
       rw [getD_both k0] at k1
       cases k1
     have h2 := wpOp_putIf hoj (hfree j oj hoj hji hjun hnot) (fun cs b => hsel i oi cs b hi) (fun cs b => hsel j oj cs b hoj) hQ hy h1
     have hfree' : ∀ k ok, ops[k]? = some ok → k ≠ i → (l.setIfInBounds j true).getD k true = false →
         (∀ e ∈ ok.after, Region.binds md e = true → e.on ≠ i) → oi.apart ops ok = true := fun k ok hk hki hun hno => by
       refine hfree k ok hk hki ?_ hno
       by_cases hjk : j = k
       · subst hjk; exact hjun
       · rw [getD_set_ne true hjk] at hun; exact hun
     refine wpOp_mono (fun a' w' h3 => ⟨h3.2.1, ih (l.setIfInBounds j true) a' w' ⟨inv.head.set hj hjn, inv.sink, inv.chain, inv.lt⟩ hfree' (ready_mono hr (Ne.symm hji)) h3.1 (h3.2.1 hjn) ?_⟩) h2
     rw [Array.setIfInBounds_comm _ _ hji]
     exact h3.2.2
def Upto (P : Program) (md : Region.Mode) (ops : Array Oper) (Q : Exit → Act → World → Prop) (S : World → Prop) (n : Nat) (f : Nat) (l : Array Bool) (a : Act) (w : World) : Prop :=
 UptoInv md ops n l → S w → wpUpto P md ops Q S n f l a w
theorem upto_take {i : Nat} {oi : Oper} {v : Value} {f : Nat} {l : Array Bool} {a : Act} {w : World} (hi : ops[i]? = some oi) (hin : decide (i < n) = true)
   (hs : Region.noSelect ops = true) (hf : Region.free md ops l i = true) (hr : (Region.ready md ops l).contains i = true)
   (hQ : ∀ c a w, Q (.panic c) (a.put oi.dst v) w → Q (.panic c) a w) (hw : Region.wanted oi (yielded ops a.tmps) = true) (hy : ∀ w, S w → (execOp a.eval oi).run P w = .ok (.value v) w)
   (h : Upto P md ops Q S n f (l.setIfInBounds i true) (a.put oi.dst v) w) : Upto P md ops Q S n (f + 1) l a w := fun inv hS => by
 have hri : i ∈ Region.ready md ops l := by simpa using hr
 have hin' := of_decide_eq_true hin
 exact upto_first hi hin' (Region.noSelect_spec hs) hQ f l a w inv (Region.free_spec hi hf) hri (.inl ⟨hw, hy⟩) hS (h ⟨inv.head.set hri hin', inv.sink, inv.chain, inv.lt⟩ hS)
def AllUpto (P : Program) (md : Region.Mode) (ops : Array Oper) (Q : Exit → Act → World → Prop) (S : World → Prop) (n f : Nat) (l : Array Bool) (a : Act) (w : World) (rs : List Nat) : Prop :=
 ∀ i ∈ rs, wpOp P ops Q i (fun a' w' => S w' ∧ Upto P md ops Q S n f (l.setIfInBounds i true) a' w') a w
theorem AllUpto.nil {f : Nat} {l : Array Bool} {a : Act} {w : World} : AllUpto P md ops Q S n f l a w [] := fun _ h => by cases h
theorem AllUpto.cons {f : Nat} {l : Array Bool} {a : Act} {w : World} {i : Nat} {o : Oper} {rs : List Nat} (ho : ops[i]? = some o)
   (h : ∀ K' : Act → World → Prop, Shut (∀ a w, S w → Upto P md ops Q S n f (l.setIfInBounds i true) a w → K' a w) → if Region.wanted o (yielded ops a.tmps) = true then Oper.wp P o a w K' Q else K' (a.put o.dst undef) w)
   (hs : AllUpto P md ops Q S n f l a w rs) : AllUpto P md ops Q S n f l a w (i :: rs) := fun j hj => by
 rcases List.mem_cons.1 hj with rfl | hj
 · exact wpOp_step ho (fun K' hK => h K' (fun a w hS hW => hK a w ⟨hS, hW⟩))
 · exact hs j hj
theorem upto_ready {rs : List Nat} {f : Nat} {l : Array Bool} {a : Act} {w : World} (hr : Region.ready md ops l = rs) (hne : rs.isEmpty = false) (hlt : (rs.all fun i => decide (i < n)) = true)
   (h : AllUpto P md ops Q S n f l a w rs) : Upto P md ops Q S n (f + 1) l a w := fun inv hS => by
 subst hr
 refine ⟨fun h0 => (by rw [h0] at hne; cases hne), fun i hi => ?_⟩
 have hin : i < n := by simpa using List.all_eq_true.1 hlt i hi
 exact wpOp_mono (fun a' w' h' => ⟨fun _ => h'.1, h'.2 ⟨inv.head.set hi hin, inv.sink, inv.chain, inv.lt⟩ h'.1⟩) (h i hi)
theorem upto_last {f : Nat} {l : Array Bool} {a : Act} {w : World} {o : Oper} (hr : Region.ready md ops l = [n]) (hr2 : Region.ready md ops (l.setIfInBounds n true) = []) (ho : ops[n]? = some o)
   (h : ∀ K' : Act → World → Prop, Shut (∀ a w, Q .normal a w → K' a w) → if Region.wanted o (yielded ops a.tmps) = true then Oper.wp P o a w K' Q else K' (a.put o.dst undef) w) : Upto P md ops Q S n (f + 1) l a w := fun inv hS => by
 refine ⟨fun h0 => (by rw [hr] at h0; cases h0), fun i hi => ?_⟩
 rw [hr] at hi
 obtain rfl : i = n := by simpa using hi
 refine wpOp_step ho (fun K' hK => h K' fun a w hq => hK a w ⟨fun hlt => absurd hlt (Nat.lt_irrefl _), ?_⟩)
 cases f with
 | zero => exact ⟨hr2, hq⟩
 | succ f => exact ⟨fun _ => hq, by rw [hr2]; simp⟩
theorem wp_region_upto {id : Nat} {a : Act} {w : World} (n : Nat) (hm : P.follows .mixedOrders = true) (hs : Region.sinkB .any ops n = true) (hc : Region.chainB .any ops n = true) (hn : decide (n < ops.size) = true) (hS : S w.drew)
   (h : Upto P .any ops Q S n ops.size (Array.replicate ops.size false) a w.drew) : (Code.region id ops true).wp P Q a w := by
 have hn' := of_decide_eq_true hn
 refine wp_region_any hm (wpAny_of_upto _ _ _ _ (h ⟨⟨by simp, fun j oj hoj hl => ?_, fun t ht ht' => ?_⟩, hs, hc, hn'⟩ hS))
 · rw [getD_replicate_false] at hl; cases hl
 · simp [ht']
end
open Go.ChangeShapes Go.WideShapes Go.ChangeAt Go.RowKit
def zeroS : SV := ⟨⟨0, 0, ⟨#[]⟩, []⟩, none, 0⟩
theorem StkE.push {S base D c : Nat} {bn bt : Value} {w w' : World} {xs : List SV} {x : SV} {next : Int} {A A' : Option Addr} {c' : Nat} (h : StkE S base D bn bt w xs next A c) (hx : TmAt D w x) (hap : Apart S A x) (hlt : ∀ a, x.a = some a → base ≤ a.block ∧ a.block < w.heap.size)
   (hb : Below 0 w w') (hk : ∀ b, b < w.heap.size → b ≠ S → (∀ a, A = some a → a.block ≠ b) → w'.heap[b]? = w.heap[b]?)
   (hd : BlkT w' S #[bn, bt, .slice A' (xs ++ [x]).length c', .int .i64 next] 59) (ho : OwnR SvR 33 w' base 0 (.slice A' (xs ++ [x]).length c') (xs ++ [x]))
   (hf : ∀ b, A' = some b → (∃ a, A = some a ∧ a.block = b.block) ∨ w.heap.size ≤ b.block) : StkE S base D bn bt w' (xs ++ [x]) next A' c' := by
 have key : ∀ y, TmAt D w y → (∀ a, y.a = some a → a.block ≠ S ∧ ∀ b, A = some b → a.block ≠ b.block) → (∀ a, y.a = some a → base ≤ a.block ∧ a.block < w.heap.size) → TmAt D w' y ∧ ∀ a, y.a = some a → (base ≤ a.block ∧ a.block < w'.heap.size) ∧ a.block ≠ S ∧ ∀ b, A' = some b → a.block ≠ b.block := by
   intro y hy hs hl
   refine ⟨hy.keep hb fun a ha => hk _ (hl a ha).2 (hs a ha).1 fun b hb2 e => (hs a ha).2 b hb2 e.symm, fun a ha => ⟨⟨(hl a ha).1, Nat.lt_of_lt_of_le (hl a ha).2 hb.size⟩, (hs a ha).1, fun b hb2 e => ?_⟩⟩
   rcases hf b hb2 with ⟨a2, h2, e2⟩ | h2
   · exact (hs a ha).2 a2 h2 (e.trans e2.symm)
   · have := (hl a ha).2
     omega
 have hall : ∀ y ∈ xs ++ [x], TmAt D w' y ∧ ∀ a, y.a = some a → (base ≤ a.block ∧ a.block < w'.heap.size) ∧ a.block ≠ S ∧ ∀ b, A' = some b → a.block ≠ b.block := by
   intro y hy
   rcases List.mem_append.1 hy with h1 | h1
   · exact key y (h.tms y h1) (h.sep y h1) (h.lt y h1)
   · rw [List.mem_singleton] at h1
     subst h1
     exact key y hx hap hlt
 exact ⟨hd, ho, fun y hy => (hall y hy).1, fun y hy a ha => ((hall y hy).2 a ha).2, fun y hy a ha => ((hall y hy).2 a ha).1⟩
structure BelX (B S : Nat) (w w' : World) : Prop where
 os : w'.os = w.os
 tape : w'.tape = w.tape
 output : w'.output = w.output
 size : w.heap.size ≤ w'.heap.size
 block : ∀ k, k < B → k ≠ S → w'.heap[k]? = w.heap[k]?
section
variable {B S : Nat} {w w' w'' : World}
theorem BelX.of (h : Below B w w') : BelX B S w w' := ⟨h.os, h.tape, h.output, h.size, fun k hk _ => h.block k hk⟩
theorem BelX.exc (h : Exc S w w') (hb : B ≤ w.heap.size) : BelX B S w w' := ⟨h.1.os, h.1.tape, h.1.output, h.1.size, fun k hk hne => h.2 k (Nat.lt_of_lt_of_le hk hb) hne⟩
theorem BelX.refl (B S : Nat) (w : World) : BelX B S w w := .of (.refl _ _)
theorem BelX.trans (h : BelX B S w w') (k : BelX B S w' w'') : BelX B S w w'' := ⟨k.os.trans h.os, k.tape.trans h.tape, k.output.trans h.output, Nat.le_trans h.size k.size, fun i hi hne => (k.block i hi hne).trans (h.block i hi hne)⟩
theorem BelX.setCell (h : BelX B S w w') {p : Addr} (hp : B ≤ p.block) (v : Value) : BelX B S w (w'.setCell p v) := h.trans (.of ((Below.refl B w').setCell hp v))
theorem BelX.setS (h : BelX B S w w') (i : Nat) (v : Value) : BelX B S w (w'.setCell ⟨S, i, none⟩ v) :=
 have k := (Below.refl 0 w').setCell (p := ⟨S, i, none⟩) (Nat.zero_le _) v
 h.trans ⟨k.os, k.tape, k.output, k.size, fun b _ hne => Below.heap_setCell w' ⟨S, i, none⟩ v b hne⟩
theorem BelX.drew (h : BelX B S w w') : BelX B S w w'.drew := h.trans (.of (Below.refl B w').drew)
theorem BelX.zero (h : BelX B S w w') : Below 0 w w' := ⟨h.os, h.tape, h.output, h.size, fun k hk => absurd hk (Nat.not_lt_zero _)⟩
theorem BelX.mono {B' : Nat} (h : BelX B S w w') (hB : B' ≤ B) : BelX B' S w w' := ⟨h.os, h.tape, h.output, h.size, fun k hk => h.block k (by omega)⟩
theorem BelX.low (h : BelX B S w w') (hB : B ≤ S) : Below B w w' := ⟨h.os, h.tape, h.output, h.size, fun k hk => h.block k hk (by omega)⟩
end
theorem push_end {S base D c g2 c2 : Nat} {bn bt : Value} {w wA w2 wf : World} {xs : List SV} {x : SV} {next : Int} {A : Option Addr} (h : StkE S base D bn bt w xs next A c) (hx : TmAt D w x) (hap : Apart S A x) (hlt : ∀ a, x.a = some a → base ≤ a.block ∧ a.block < w.heap.size) (hb : base ≤ w.heap.size)
   (hA : Below w.heap.size w wA) (hg : wA.grownBy w2 (Value.slice A xs.length c).ownBlock) (hf : FreshV wA (.slice A xs.length c) (.slice (some ⟨g2, 0, none⟩) (xs.length + 1) c2)) (hg2 : base ≤ g2)
   (hfin : ∀ b, b ≠ S → b ≠ g2 → wf.heap[b]? = w2.heap[b]?) (hbf : BelX base S w2 wf)
   (hd : BlkT wf S #[bn, bt, .slice (some ⟨g2, 0, none⟩) (xs.length + 1) c2, .int .i64 next] 59) (ho : OwnR SvR 33 wf base 0 (.slice (some ⟨g2, 0, none⟩) (xs.length + 1) c2) (xs ++ [x])) :
   BelX base S w wf ∧ ∃ A' c', StkE S base D bn bt wf (xs ++ [x]) next A' c' := by
 have hAb : ∀ k, (Value.slice A xs.length c).ownBlock = some k → base ≤ k := by
   obtain ⟨cells, how, _⟩ := h.own
   exact fun k hk => (how.lt k hk).1
 have hsz := hA.size
 have hB2 : Below base wA w2 := (Below.refl base wA).grown hg (by omega) hAb
 have hB : BelX base S w wf := (BelX.of ((hA.mono hb).trans hB2)).trans hbf
 have e1 : xs.length + 1 = (xs ++ [x]).length := by simp
 rw [e1] at hd ho
 refine ⟨hB, _, _, h.push hx hap hlt hB.zero (fun b hbl hbS2 hne => ?_) hd ho fun b hb2 => ?_⟩
 · have hnr : some b ≠ (Value.slice A xs.length c).ownBlock := by
     rcases A with _ | a
     · simp [Value.ownBlock]
     · simp only [Value.ownBlock, ne_eq, Option.some.injEq]
       exact fun e => hne a rfl e.symm
   have hng : b ≠ g2 := by
     rcases hf with hf | ⟨k, hk, hk2⟩
     · intro e
       subst e
       exact hnr hf
     · simp only [Value.ownBlock, Option.some.injEq] at hk
       omega
   rw [hfin b hbS2 hng, hg.block b (Nat.lt_of_lt_of_le hbl hsz) hnr, hA.block b hbl]
 · simp only [Option.some.injEq] at hb2
   subst hb2
   rcases hf with hf | ⟨k, hk, hk2⟩
   · rcases A with _ | a
     · simp [Value.ownBlock] at hf
     · simp only [Value.ownBlock, Option.some.injEq] at hf
       exact .inl ⟨a, rfl, hf.symm⟩
   · simp only [Value.ownBlock, Option.some.injEq] at hk
     subst hk
     exact .inr (by show w.heap.size ≤ g2; omega)
theorem last_of {w2 : World} {base g2 c2 : Nat} {xs : List SV} (ho : OwnR SvR 33 w2 base 0 (.slice (some ⟨g2, 0, none⟩) (xs.length + 1) c2) (xs ++ [zeroS])) (x : SV) : OwnR SvR 33 ((((w2.setCell ⟨g2, xs.length * 4, none⟩ (.int .i64 x.t.kind)).setCell ⟨g2, xs.length * 4 + 1, none⟩ (.int .i64 x.t.n)).setCell ⟨g2, xs.length * 4 + 2, none⟩ (.string x.t.s)).setCell ⟨g2, xs.length * 4 + 3, none⟩ (.slice x.a x.t.l.length x.c)) base 0 (.slice (some ⟨g2, 0, none⟩) (xs.length + 1) c2) (xs ++ [x]) := by
 obtain ⟨g3, c3, e3, _, _, _, _, _, _, hp3⟩ := ho.last
 simp only [Value.slice.injEq, Option.some.injEq, Addr.mk.injEq, and_true, true_and] at e3
 obtain ⟨rfl, rfl⟩ := e3
 exact hp3 x
theorem push_end1 {S base D c g2 c2 : Nat} {bn bt : Value} {w wA w2 : World} {xs : List SV} {x : SV} {next : Int} {A : Option Addr} (h : StkE S base D bn bt w xs next A c) (hx : TmAt D w x) (hap : Apart S A x) (hlt : ∀ a, x.a = some a → base ≤ a.block ∧ a.block < w.heap.size) (hb : base ≤ w.heap.size)
   (hA : Below w.heap.size w wA) (ho : OwnR SvR 33 w2 base 0 (.slice (some ⟨g2, 0, none⟩) (xs.length + 1) c2) (xs ++ [zeroS])) (hg : wA.grownBy w2 (Value.slice A xs.length c).ownBlock) (hf : FreshV wA (.slice A xs.length c) (.slice (some ⟨g2, 0, none⟩) (xs.length + 1) c2)) (hg2 : base ≤ g2) (hne : S ≠ g2) (hd : BlkT w2 S #[bn, bt, .slice A xs.length c, .int .i64 next] 59) :
   BelX base S w (((((w2.setCell ⟨g2, xs.length * 4, none⟩ (.int .i64 x.t.kind)).setCell ⟨g2, xs.length * 4 + 1, none⟩ (.int .i64 x.t.n)).setCell ⟨g2, xs.length * 4 + 2, none⟩ (.string x.t.s)).setCell ⟨g2, xs.length * 4 + 3, none⟩ (.slice x.a x.t.l.length x.c)).setCell ⟨S, 2, none⟩ (.slice (some ⟨g2, 0, none⟩) (xs.length + 1) c2)) ∧ ∃ A' c', StkE S base D bn bt (((((w2.setCell ⟨g2, xs.length * 4, none⟩ (.int .i64 x.t.kind)).setCell ⟨g2, xs.length * 4 + 1, none⟩ (.int .i64 x.t.n)).setCell ⟨g2, xs.length * 4 + 2, none⟩ (.string x.t.s)).setCell ⟨g2, xs.length * 4 + 3, none⟩ (.slice x.a x.t.l.length x.c)).setCell ⟨S, 2, none⟩ (.slice (some ⟨g2, 0, none⟩) (xs.length + 1) c2)) (xs ++ [x]) next A' c' := by
 have d1 := hd.far hne (xs.length * 4) (.int .i64 x.t.kind)
 have d2 := d1.far hne (xs.length * 4 + 1) (.int .i64 x.t.n)
 have d3 := d2.far hne (xs.length * 4 + 2) (.string x.t.s)
 have d4 := d3.far hne (xs.length * 4 + 3) (.slice x.a x.t.l.length x.c)
 have b1 := (Below.refl base w2).setCell (p := ⟨g2, xs.length * 4, none⟩) hg2 (.int .i64 x.t.kind)
 have b2 := b1.setCell (p := ⟨g2, xs.length * 4 + 1, none⟩) hg2 (.int .i64 x.t.n)
 have b3 := b2.setCell (p := ⟨g2, xs.length * 4 + 2, none⟩) hg2 (.string x.t.s)
 have b4 := b3.setCell (p := ⟨g2, xs.length * 4 + 3, none⟩) hg2 (.slice x.a x.t.l.length x.c)
 have b5 := (BelX.of (S := S) b4).setS 2 (.slice (some ⟨g2, 0, none⟩) (xs.length + 1) c2)
 refine push_end h hx hap hlt hb hA hg hf hg2 (fun b h1 h2 => ?_) b5 (d4.set_ 2 (.slice (some ⟨g2, 0, none⟩) (xs.length + 1) c2)) ((last_of ho x).farT d4 s_ne 2 (.slice (some ⟨g2, 0, none⟩) (xs.length + 1) c2))
 rw [Below.heap_setCell _ ⟨S, 2, none⟩ _ b h1, Below.heap_setCell _ ⟨g2, xs.length * 4 + 3, none⟩ _ b h2, Below.heap_setCell _ ⟨g2, xs.length * 4 + 2, none⟩ _ b h2, Below.heap_setCell _ ⟨g2, xs.length * 4 + 1, none⟩ _ b h2, Below.heap_setCell _ ⟨g2, xs.length * 4, none⟩ _ b h2]
theorem push_end2 {S base D c g2 c2 : Nat} {bn bt : Value} {w wA w2 : World} {xs : List SV} {x : SV} {next : Int} {A : Option Addr} (h : StkE S base D bn bt w xs next A c) (hx : TmAt D w x) (hap : Apart S A x) (hlt : ∀ a, x.a = some a → base ≤ a.block ∧ a.block < w.heap.size) (hb : base ≤ w.heap.size)
   (hA : Below w.heap.size w wA) (ho : OwnR SvR 33 w2 base 0 (.slice (some ⟨g2, 0, none⟩) (xs.length + 1) c2) (xs ++ [zeroS])) (hg : wA.grownBy w2 (Value.slice A xs.length c).ownBlock) (hf : FreshV wA (.slice A xs.length c) (.slice (some ⟨g2, 0, none⟩) (xs.length + 1) c2)) (hg2 : base ≤ g2) (hne : S ≠ g2) (hd : BlkT w2 S #[bn, bt, .slice A xs.length c, .int .i64 next] 59) :
   BelX base S w (((((w2.setCell ⟨S, 2, none⟩ (.slice (some ⟨g2, 0, none⟩) (xs.length + 1) c2)).setCell ⟨g2, xs.length * 4, none⟩ (.int .i64 x.t.kind)).setCell ⟨g2, xs.length * 4 + 1, none⟩ (.int .i64 x.t.n)).setCell ⟨g2, xs.length * 4 + 2, none⟩ (.string x.t.s)).setCell ⟨g2, xs.length * 4 + 3, none⟩ (.slice x.a x.t.l.length x.c)) ∧ ∃ A' c', StkE S base D bn bt (((((w2.setCell ⟨S, 2, none⟩ (.slice (some ⟨g2, 0, none⟩) (xs.length + 1) c2)).setCell ⟨g2, xs.length * 4, none⟩ (.int .i64 x.t.kind)).setCell ⟨g2, xs.length * 4 + 1, none⟩ (.int .i64 x.t.n)).setCell ⟨g2, xs.length * 4 + 2, none⟩ (.string x.t.s)).setCell ⟨g2, xs.length * 4 + 3, none⟩ (.slice x.a x.t.l.length x.c)) (xs ++ [x]) next A' c' := by
 have d0 := hd.set_ 2 (.slice (some ⟨g2, 0, none⟩) (xs.length + 1) c2)
 have d1 := d0.far hne (xs.length * 4) (.int .i64 x.t.kind)
 have d2 := d1.far hne (xs.length * 4 + 1) (.int .i64 x.t.n)
 have d3 := d2.far hne (xs.length * 4 + 2) (.string x.t.s)
 have d4 := d3.far hne (xs.length * 4 + 3) (.slice x.a x.t.l.length x.c)
 have b0 := (BelX.refl base S w2).setS 2 (.slice (some ⟨g2, 0, none⟩) (xs.length + 1) c2)
 have b1 := b0.setCell (p := ⟨g2, xs.length * 4, none⟩) hg2 (.int .i64 x.t.kind)
 have b2 := b1.setCell (p := ⟨g2, xs.length * 4 + 1, none⟩) hg2 (.int .i64 x.t.n)
 have b3 := b2.setCell (p := ⟨g2, xs.length * 4 + 2, none⟩) hg2 (.string x.t.s)
 have b4 := b3.setCell (p := ⟨g2, xs.length * 4 + 3, none⟩) hg2 (.slice x.a x.t.l.length x.c)
 refine push_end h hx hap hlt hb hA hg hf hg2 (fun b h1 h2 => ?_) b4 d4 (last_of (ho.farT hd s_ne 2 (.slice (some ⟨g2, 0, none⟩) (xs.length + 1) c2)) x)
 rw [Below.heap_setCell _ ⟨g2, xs.length * 4 + 3, none⟩ _ b h2, Below.heap_setCell _ ⟨g2, xs.length * 4 + 2, none⟩ _ b h2, Below.heap_setCell _ ⟨g2, xs.length * 4 + 1, none⟩ _ b h2, Below.heap_setCell _ ⟨g2, xs.length * 4, none⟩ _ b h2, Below.heap_setCell _ ⟨S, 2, none⟩ _ b h1]
set_option maxRecDepth 100000 in
set_option maxHeartbeats 1000000 in
theorem push_ok {S base D c : Nat} {bn bt : Value} {w : World} {xs : List SV} {x : SV} {next : Int} {A : Option Addr} (h : StkE S base D bn bt w xs next A c) (hx : TmAt D w x) (hap : Apart S A x) (hlt : ∀ a, x.a = some a → base ≤ a.block ∧ a.block < w.heap.size) (hb : base ≤ w.heap.size) (hn : xs.length ≤ 100000) :
   Calls Tryz.prog 65 #[.pointer (some ⟨S, 0, none⟩), .agg x.cs.toArray, .int .i64 0] w fun e w' => e = .returned (.int .i64 0) ∧ BelX base S w w' ∧ ∃ A' c', StkE S base D bn bt w' (xs ++ [x]) next A' c' := by
 obtain ⟨i0, hi0, hz0, hz1, hz2⟩ := info_parts infoTm
 have HS := Lib.hid h
 have HX := Lib.hid (And.intro hx (And.intro hap hlt))
 have hSlt := h.hd.blk.lt
 clear h hx hap hlt
 unfold SV.cs
 go_enter Tryz.func65, Tryz.ntmps65
 go_wp2_with fail
 generalize hW : World.alloc _ _ = w1
 obtain ⟨hb1, hz⟩ := al1 hW
 have BX := Lib.hid (show BlkT w1 w.heap.size #[.int .i64 x.t.kind, .int .i64 x.t.n, .string x.t.s, .slice x.a x.t.l.length x.c] 33 from hW ▸ heap_alloc_new w _)
 have HS1 := Lib.hid (HS.out.later hb1)
 have HB1 := Lib.hid hb1
 clear hW hb1
 have s1 : w1.drew.cell? ⟨S, 2, none⟩ = some (.slice A xs.length c) := HS1.out.hd.blk.cell 2
 have s2 : w1.drew.cell? ⟨w.heap.size, 0, none⟩ = some (.int .i64 x.t.kind) := BX.out.blk.cell 0
 have s3 : w1.drew.cell? ⟨w.heap.size, 1, none⟩ = some (.int .i64 x.t.n) := BX.out.blk.cell 1
 have s4 : w1.drew.cell? ⟨w.heap.size, 2, none⟩ = some (.string x.t.s) := BX.out.blk.cell 2
 have s5 : w1.drew.cell? ⟨w.heap.size, 3, none⟩ = some (.slice x.a x.t.l.length x.c) := BX.out.blk.cell 3
 clear s1 s2 s3 s4 s5
 have k_s := HS1.out.hd.blk.cell
 have k_x := BX.out.blk.cell
 have hXlt : w.heap.size < w1.heap.size := by omega
 have hS1 : S < w1.heap.size := by omega
 have hsrc := (Blk.src (R := SvR) (B := 0) (x := zeroS) (Blk.drew (Blk.new w1 #[.int .i64 0, .int .i64 0, .string ⟨#[]⟩, .slice none 0 0] 33)) rfl)
 rw [hz] at hsrc
 have HN := Lib.hid (And.intro (HS1.out.own.later ((below_new (w := w1) (o := .cells #[.int .i64 0, .int .i64 0, .string ⟨#[]⟩, .slice none 0 0] 33) rfl).drew) (Nat.zero_le _)) hsrc)
 clear hsrc
 have hii : (xs.length : Int) < (xs.length : Int) + 1 := by omega
 go_region_law (
   refine step_append_F (R := SvR) (e := 33) (base := base) (xs := xs) (ys := [zeroS]) rfl (.tmp 12) (.tmp 15) 26 rfl (bytes := 56) Tryz.underlying26 hi0 hz0 hz1 hz2 rfl (show 0 < 4 by omega) single_sv rfl HN.out.1 rfl HN.out.2 rfl (by simp only [List.length_cons, List.length_nil]; omega) (by omega) (by rw [World.size_drew, World.size_alloc]; omega) ?_
   intro v2 w2 hown2 hg2 hf2
   have HO2 : Hid (OwnR SvR 33 w2 base 0 v2 (xs ++ [zeroS]) ∧ World.grownBy (w1.alloc (.cells #[.int .i64 0, .int .i64 0, .string ⟨#[]⟩, .slice none 0 0] 33)).drew w2 (Value.slice A xs.length c).ownBlock ∧ FreshV (w1.alloc (.cells #[.int .i64 0, .int .i64 0, .string ⟨#[]⟩, .slice none 0 0] 33)).drew (.slice A xs.length c) v2) := Lib.hid ⟨hown2, hg2, hf2⟩
   have bd := ((HS1.out.hd.later (below_new (w := w1) (o := .cells #[.int .i64 0, .int .i64 0, .string ⟨#[]⟩, .slice none 0 0] 33) rfl)).drew).grown hg2 (HN.out.1.ne ((HS1.out.hd.later (below_new (w := w1) (o := .cells #[.int .i64 0, .int .i64 0, .string ⟨#[]⟩, .slice none 0 0] 33) rfl)).drew) s_ne)
   have hne2 := hown2.ne bd s_ne
   have ks2 := bd.blk.cell 2
   have fs2 := bd.blk.free
   have BD := Lib.hid bd
   obtain ⟨g2, c2, rfl, hg2lt, hg2b, hn2, hc2, hcell2, hfr2, hput2⟩ := hown2.last
   simp only [Value.ownBlock, ne_eq, Option.some.injEq] at hne2
   have hne3 : S ≠ g2 := fun e => hne2 e.symm
   have HP2 := Lib.hid hput2
   clear bd
   have e0 : w2.cell? ⟨g2, xs.length * 4, none⟩ = some (.int .i64 0) := hcell2 0 _ rfl
   have e1 : w2.cell? ⟨g2, xs.length * 4 + 1, none⟩ = some (.int .i64 0) := hcell2 1 _ rfl
   have e2 : w2.cell? ⟨g2, xs.length * 4 + 2, none⟩ = some (.string ⟨#[]⟩) := hcell2 2 _ rfl
   have e3 : w2.cell? ⟨g2, xs.length * 4 + 3, none⟩ = some (.slice none 0 0) := hcell2 3 _ rfl
   clear hown2 hg2 hf2 hput2 hcell2)
 all_goals
   go_wp2_with fail
   go_ret
   obtain ⟨hx, hap, hlt⟩ := HX.out
   have hwA : Below w.heap.size w (w1.alloc (.cells #[.int .i64 0, .int .i64 0, .string ⟨#[]⟩, .slice none 0 0] 33)).drew := (HB1.out.alloc HB1.out.size _).drew
   refine ⟨rfl, ?_⟩
   first
     | (with_reducible exact push_end1 HS.out hx hap hlt hb hwA HO2.out.1 HO2.out.2.1 HO2.out.2.2 hg2b hne3 BD.out)
     | (with_reducible exact push_end2 HS.out hx hap hlt hb hwA HO2.out.1 HO2.out.2.1 HO2.out.2.2 hg2b hne3 BD.out)
def PushS (S base D : Nat) (bn bt : Value) (w : World) (xs : List SV) (x : SV) (next e : Int) : Prop :=
 (e = 0 ∧ ∃ A c, StkE S base D bn bt w (xs ++ [x]) next A c) ∨ (e ≠ 0 ∧ ∃ A c, StkE S base D bn bt w xs next A c)
set_option maxRecDepth 100000 in
set_option maxHeartbeats 1000000 in
theorem spush_any {S base D c : Nat} {bn bt : Value} {w : World} {xs : List SV} {x : SV} {next e0 : Int} {A : Option Addr} (h : StkE S base D bn bt w xs next A c) (hx : TmAt D w x) (hap : Apart S A x) (hlt : ∀ a, x.a = some a → base ≤ a.block ∧ a.block < w.heap.size) (hb : base ≤ w.heap.size) (hn : xs.length ≤ 100000) :
   Calls Tryz.prog 65 #[.pointer (some ⟨S, 0, none⟩), .agg x.cs.toArray, .int .i64 e0] w fun e w' => e = .returned (.int .i64 e0) ∧ BelX base S w w' ∧ PushS S base D bn bt w' xs x next e0 := by
 by_cases he : e0 = 0
 · subst he
   exact (push_ok h hx hap hlt hb hn).mono fun _ _ ⟨h1, h2, h3⟩ => ⟨h1, h2, .inl ⟨rfl, h3⟩⟩
 · have HS := Lib.hid h
   have hq : (e0 == 0) = false := by simpa using he
   have HE := Lib.hid he
   clear h hx hap hlt he
   unfold SV.cs
   go_enter Tryz.func65, Tryz.ntmps65
   go_wp2_with fail
   go_ret
   have hb1 := below_new (w := w) (o := .cells #[.int .i64 x.t.kind, .int .i64 x.t.n, .string x.t.s, .slice x.a x.t.l.length x.c] 33) rfl
   exact ⟨rfl, .of (hb1.mono hb), .inr ⟨HE.out, A, c, HS.out.later hb1⟩⟩
end Go.Proofs.YtiplipdigabidaaGreat
