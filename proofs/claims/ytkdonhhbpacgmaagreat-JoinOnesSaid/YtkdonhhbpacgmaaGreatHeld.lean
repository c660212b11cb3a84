/- A region that draws its order and whose last operation waits for all others: one condition on the world up to that one. -/
import Derived.Test.YtkdonhhbpacgmaaGreatTmAt
import Derived.Test.YtkdonhhbpacgmaaGreatApp
import Derived.Deep.RegionHeld3
import Derived.StillTail
import Derived.ProofKit
set_option linter.unusedVariables false
set_option linter.unusedSimpArgs false
namespace Go.Proofs.YtkdonhhbpacgmaaGreat
open Go.ChangeShapes Go.WideShapes Go.ChangeAt Go.RowKit
structure StkQ (base D : Nat) (w : World) (xs : List SV) (A : Option Addr) (c : Nat) : Prop where
 own : OwnR SvR 44 w base 0 (.slice A xs.length c) xs
 tms : ∀ x ∈ xs, TmAt D w x
 sep : ∀ x ∈ xs, ∀ a, x.a = some a → ∀ b, A = some b → a.block ≠ b.block
 lt : ∀ x ∈ xs, ∀ a, x.a = some a → base ≤ a.block ∧ a.block < w.heap.size
section
variable {base D c : Nat} {w w' w2 : World} {xs : List SV} {x y : SV} {A : Option Addr}
theorem StkQ.nil (base D : Nat) (w : World) : StkQ base D w [] none 0 := ⟨OwnR.nil _ _ _ _ _, by simp, by simp, by simp⟩
theorem StkQ.later (h : StkQ base D w xs A c) (hb : Below w.heap.size w w') : StkQ base D w' xs A c :=
 ⟨h.own.later hb (Nat.zero_le _), fun x hx => (h.tms x hx).later hb, h.sep, fun x hx a ha => ⟨(h.lt x hx a ha).1, Nat.lt_of_lt_of_le (h.lt x hx a ha).2 hb.size⟩⟩
theorem StkQ.row (h : StkQ base D w xs A c) : ∀ b, A = some b → base ≤ b.block ∧ b.block < w.heap.size := by
 intro b hb
 subst hb
 obtain ⟨cells, how, _⟩ := h.own
 exact how.lt b.block rfl
theorem StkQ.apart (h : StkQ base D w xs A c) {n : Nat} (hn : w.heap.size ≤ n) (hx : ∀ a, x.a = some a → n ≤ a.block) : ∀ a, x.a = some a → ∀ b, A = some b → a.block ≠ b.block := by
 intro a ha b hb
 have h1 := hx a ha
 have h2 := (h.row b hb).2
 omega
theorem StkQ.app (h : StkQ base D w xs A c) (hx : TmAt D w x) (hap : ∀ a, x.a = some a → ∀ b, A = some b → a.block ≠ b.block) (hlt : ∀ a, x.a = some a → base ≤ a.block ∧ a.block < w.heap.size) (hbase : base ≤ w.heap.size)
   {A2 : Option Addr} {c2 : Nat} (ho : OwnR SvR 44 w2 base 0 (.slice A2 (xs.length + 1) c2) (xs ++ [x])) (hg : w.grownBy w2 (Value.slice A xs.length c).ownBlock) (hf : FreshV w (.slice A xs.length c) (.slice A2 (xs.length + 1) c2)) :
   StkQ base D w2 (xs ++ [x]) A2 c2 ∧ Below base w w2 := by
 have hb : Below base w w2 := (Below.refl base w).grown hg hbase (fun k hk => by
   obtain ⟨cells, how, _⟩ := h.own
   exact (how.lt k hk).1)
 have hb0 : Below 0 w w2 := hb.mono (Nat.zero_le _)
 have key : ∀ y, TmAt D w y → (∀ a, y.a = some a → ∀ b, A = some b → a.block ≠ b.block) → (∀ a, y.a = some a → base ≤ a.block ∧ a.block < w.heap.size) → TmAt D w2 y ∧ ∀ a, y.a = some a → (base ≤ a.block ∧ a.block < w2.heap.size) ∧ ∀ b, A2 = some b → a.block ≠ b.block := by
   intro y hy hs hl
   refine ⟨hy.keep hb0 fun a ha => hg.block _ (hl a ha).2 ?_, fun a ha => ⟨⟨(hl a ha).1, Nat.lt_of_lt_of_le (hl a ha).2 hb.size⟩, fun b hb2 e => ?_⟩⟩
   · intro e
     rcases hA : A with _ | b
     · rw [hA] at e; cases e
     · rw [hA] at e
       simp only [Value.ownBlock, Option.some.injEq] at e
       exact hs a ha b hA e
   · subst hb2
     rcases hf with hf | ⟨k, hk, hk2⟩
     · rcases hA : A with _ | a2
       · rw [hA] at hf; simp [Value.ownBlock] at hf
       · rw [hA] at hf
         simp only [Value.ownBlock, Option.some.injEq] at hf
         exact hs a ha a2 hA (e.trans hf)
     · simp only [Value.ownBlock, Option.some.injEq] at hk
       have := (hl a ha).2
       omega
 have hall : ∀ y ∈ xs ++ [x], TmAt D w2 y ∧ ∀ a, y.a = some a → (base ≤ a.block ∧ a.block < w2.heap.size) ∧ ∀ b, A2 = some b → a.block ≠ b.block := by
   intro y hy
   rcases List.mem_append.1 hy with h1 | h1
   · exact key y (h.tms y h1) (h.sep y h1) (h.lt y h1)
   · rw [List.mem_singleton] at h1
     subst h1
     exact key y hx hap hlt
 refine ⟨⟨?_, fun y hy => (hall y hy).1, fun y hy a ha => ((hall y hy).2 a ha).2, fun y hy a ha => ((hall y hy).2 a ha).1⟩, hb⟩
 rw [List.length_append, List.length_singleton]
 exact ho
theorem StkQ.top (h : StkQ base D w (xs ++ [y]) A c) : ∃ g, A = some ⟨g, 0, none⟩ ∧ g < w.heap.size ∧ base ≤ g ∧ xs.length + 1 ≤ c ∧ c ≤ 9223372036854775807 ∧ (∀ j u, y.cs[j]? = some u → w.cell? ⟨g, xs.length * 4 + j, none⟩ = some u) ∧ (∀ o, w.frozen? ⟨g, o, none⟩ = false) ∧
   ∀ x : SV, TmAt D w x → (∀ a, x.a = some a → a.block ≠ g) → (∀ a, x.a = some a → base ≤ a.block ∧ a.block < w.heap.size) →
     StkQ base D ((((w.setCell ⟨g, xs.length * 4, none⟩ (.int .i64 x.t.kind)).setCell ⟨g, xs.length * 4 + 1, none⟩ (.int .i64 x.t.n)).setCell ⟨g, xs.length * 4 + 2, none⟩ (.string x.t.s)).setCell ⟨g, xs.length * 4 + 3, none⟩ (.slice x.a x.t.l.length x.c)) (xs ++ [x]) A c := by
 obtain ⟨g, c', e, h1, h2, h3, h4, h5, h6, h7⟩ := h.own.last
 rw [List.length_append, List.length_singleton] at e
 simp only [Value.slice.injEq, true_and] at e
 obtain ⟨rfl, rfl⟩ := e
 refine ⟨g, rfl, h1, h2, h3, h4, h5, h6, fun x hx hap hlt => ?_⟩
 have hkeep : ∀ z, TmAt D w z → (∀ a, z.a = some a → a.block ≠ g) → TmAt D ((((w.setCell ⟨g, xs.length * 4, none⟩ (.int .i64 x.t.kind)).setCell ⟨g, xs.length * 4 + 1, none⟩ (.int .i64 x.t.n)).setCell ⟨g, xs.length * 4 + 2, none⟩ (.string x.t.s)).setCell ⟨g, xs.length * 4 + 3, none⟩ (.slice x.a x.t.l.length x.c)) z := by
   intro z hz hne
   refine hz.keep (((((Below.refl 0 w).setCell (Nat.zero_le _) _).setCell (Nat.zero_le _) _).setCell (Nat.zero_le _) _).setCell (Nat.zero_le _) _) fun a ha => ?_
   rw [Below.heap_setCell _ ⟨g, xs.length * 4 + 3, none⟩ _ a.block (hne a ha), Below.heap_setCell _ ⟨g, xs.length * 4 + 2, none⟩ _ a.block (hne a ha), Below.heap_setCell _ ⟨g, xs.length * 4 + 1, none⟩ _ a.block (hne a ha), Below.heap_setCell _ ⟨g, xs.length * 4, none⟩ _ a.block (hne a ha)]
 have hold : ∀ z ∈ xs, (∀ a, z.a = some a → a.block ≠ g) := fun z hz a ha => h.sep z (List.mem_append_left _ hz) a ha _ rfl
 refine ⟨?_, fun z hz => ?_, fun z hz a ha b hb => ?_, fun z hz a ha => ?_⟩
 · have := h7 x
   rw [List.length_append, List.length_singleton] at this ⊢
   exact this
 · rcases List.mem_append.1 hz with h1 | h1
   · exact hkeep z (h.tms z (List.mem_append_left _ h1)) (hold z h1)
   · rw [List.mem_singleton] at h1; subst h1; exact hkeep z hx hap
 · simp only [Option.some.injEq] at hb
   subst hb
   rcases List.mem_append.1 hz with h1 | h1
   · exact hold z h1 a ha
   · rw [List.mem_singleton] at h1; subst h1; exact hap a ha
 · simp only [World.size_setCell]
   rcases List.mem_append.1 hz with h1 | h1
   · exact h.lt z (List.mem_append_left _ h1) a ha
   · rw [List.mem_singleton] at h1; subst h1; exact hlt a ha
theorem StkQ.drop (h : StkQ base D w (xs ++ [y]) A c) : StkQ base D w xs A c := by
 refine ⟨?_, fun z hz => h.tms z (List.mem_append_left _ hz), fun z hz => h.sep z (List.mem_append_left _ hz), fun z hz => h.lt z (List.mem_append_left _ hz)⟩
 obtain ⟨cells', ho', hf'⟩ := h.own
 rcases ho'.2 with ⟨h1', h2'⟩ | ⟨g', cap', cur', hv', hg', hh', k1', k2', k3', k4'⟩
 · simp at h2'
 · simp only [Value.slice.injEq] at hv'
   obtain ⟨rfl, _, rfl⟩ := hv'
   rw [List.length_append, List.length_singleton] at k1'
   have hl' : cells'.length = (xs.length + 1) * 4 := by have := hf'.1; simpa [SvR] using this
   refine ⟨cells'.take (xs.length * 4), ⟨by simp only [SvR, List.length_take]; omega, .inr ⟨g', c, cur', rfl, hg', hh', by omega, k2', k3', ?_⟩⟩, ?_⟩
   · have e2 : (xs ++ [y]).length * SvR.k = (xs.length + 1) * 4 := by simp [SvR]
     rw [e2] at k4'
     rw [← k4', List.take_take]
     congr 1
     simp [SvR]
   · have := hf'.take xs.length
     simpa [SvR] using this
end
theorem wpList_append_F {α : Type} {R : Reader α} {P : Program} {w : World} {e : TypeId} {base : Nat} {v : Value} {xs ys : List α} {ops : Array Oper} {rest : List Oper} {o : Oper} {a : Act} {Q : Exit → Act → World → Prop} (hgd : o.guard = none) (s x : Operand) (t : TypeId)
   (ho : o.op = .call { callee := .builtin .append, args := #[s, x], argTypes := #[t, t] })
   {i : TypeInfo} {z : Value} {bytes : Nat} (ht : P.underlying t = some (.slice e)) (hi : P.info? e = some i) (hz : i.zero = some z)
   (hsize : i.size = R.k) (hby : i.bytes = bytes) (hzs : z.cells.size = R.k) (hsz : 0 < R.k) (hs1 : Single R)
   (hs : a.eval s = v) (hown : OwnR R e w base 0 v xs) {ad : Addr} {m c : Nat} (hx : a.eval x = .slice (some ad) m c) (hsrc : SrcR R w 0 (some ad) ys) (hm : m = ys.length)
   (hbytes : (xs.length + ys.length) * bytes ≤ 140737488355328) (hb1 : 1 ≤ bytes) (hbase : base ≤ w.heap.size)
   (h : ∀ v' w', OwnR R e w' base 0 v' (xs ++ ys) → w.grownBy w' v.ownBlock → FreshV w v v' → wpList P ops Q rest (a.put o.dst v') w') : wpList P ops Q (o :: rest) a w :=
 wpList_plain hgd fun _ hK => wp_append_F s x t ho ht hi hz hsize hby hzs hsz hs1 hs hown hx hsrc hm hbytes hb1 hbase fun v' w' h1 h2 h3 => hK _ _ (h v' w' h1 h2 h3)
theorem sv_src {w : World} {b : Nat} {x : SV} {T : TypeId} (h : w.heap[b]? = some (.cells #[.int .i64 x.t.kind, .int .i64 x.t.n, .string x.t.s, .slice x.a x.t.l.length x.c] T (0, 0))) : SrcR SvR w 0 (some ⟨b, 0, none⟩) [x] := Blk.srcs ⟨T, h⟩ (Flat.one (R := SvR) rfl)
theorem OwnR.farN {α : Type} {R : Reader α} {e : TypeId} {w : World} {base D : Nat} {v : Value} {xs : List α} (h : OwnR R e w base 0 v xs) (hne : v.ownBlock ≠ some D) (i : Nat) (u : Value) : OwnR R e (w.setCell ⟨D, i, none⟩ u) base 0 v xs := by
 obtain ⟨cells, h, hf⟩ := h
 refine ⟨cells, ⟨h.1, ?_⟩, hf.keep ((Below.refl 0 w).setCell (p := ⟨D, i, none⟩) (Nat.zero_le _) u) (Nat.le_refl _)⟩
 rcases h.2 with h2 | ⟨g, cap, cur, hv, hg, hh, r⟩
 · exact .inl h2
 · refine .inr ⟨g, cap, cur, hv, hg, ?_, r⟩
   rw [hv] at hne
   simp only [Value.ownBlock, ne_eq, Option.some.injEq] at hne
   exact (Below.heap_setCell w ⟨D, i, none⟩ u g hne).trans hh
def StkLow (g : Nat) (xs : List SV) (A : Option Addr) : Prop := (∀ b, A = some b → b.block < g) ∧ ∀ x ∈ xs, ∀ a, x.a = some a → a.block < g
theorem StkQ.low {base D c g : Nat} {w : World} {xs : List SV} {A : Option Addr} (h : StkQ base D w xs A c) (hg : w.heap.size ≤ g) : StkLow g xs A :=
 ⟨fun b hb => Nat.lt_of_lt_of_le (h.row b hb).2 hg, fun x hx a ha => Nat.lt_of_lt_of_le (h.lt x hx a ha).2 hg⟩
theorem StkQ.far {base D c g : Nat} {w : World} {xs : List SV} {A : Option Addr} (h : StkQ base D w xs A c) (hl : StkLow g xs A) (i : Nat) (u : Value) : StkQ base D (w.setCell ⟨g, i, none⟩ u) xs A c := by
 refine ⟨h.own.farN (fun e => ?_) i u, fun x hx => (h.tms x hx).keep ((Below.refl 0 w).setCell (p := ⟨g, i, none⟩) (Nat.zero_le _) u) fun a ha => Below.heap_setCell w ⟨g, i, none⟩ u a.block (by have := hl.2 x hx a ha; show a.block ≠ g; omega), h.sep, fun x hx a ha => by rw [World.size_setCell]; exact h.lt x hx a ha⟩
 rcases hA : A with _ | b
 · rw [hA] at e; cases e
 · rw [hA] at e
   simp only [Value.ownBlock, Option.some.injEq] at e
   have := hl.1 b hA
   omega
theorem StkQ.far4 {base D c g : Nat} {w : World} {xs : List SV} {A : Option Addr} (h : StkQ base D w xs A c) (hl : StkLow g xs A) (u0 u1 u2 u3 : Value) : StkQ base D ((((w.setCell ⟨g, 0, none⟩ u0).setCell ⟨g, 1, none⟩ u1).setCell ⟨g, 2, none⟩ u2).setCell ⟨g, 3, none⟩ u3) xs A c :=
 (((h.far hl 0 u0).far hl 1 u1).far hl 2 u2).far hl 3 u3
theorem StkQ.under {base D c g : Nat} {w : World} {xs : List SV} {A : Option Addr} (h : StkQ base D w xs A c) (hg : g < base) (i : Nat) (u : Value) : StkQ base D (w.setCell ⟨g, i, none⟩ u) xs A c :=
 ⟨h.own.far hg (Nat.zero_le _) u, fun x hx => (h.tms x hx).keep ((Below.refl 0 w).setCell (p := ⟨g, i, none⟩) (Nat.zero_le _) u) fun a ha => Below.heap_setCell w ⟨g, i, none⟩ u a.block (by have := (h.lt x hx a ha).1; show a.block ≠ g; omega), h.sep, fun x hx a ha => by rw [World.size_setCell]; exact h.lt x hx a ha⟩
section
variable {P : Program} {md : Region.Mode} {ops : Array Oper} {Q : Exit → Act → World → Prop} {S : World → Prop} {n : Nat}
def wpUpto (P : Program) (md : Region.Mode) (ops : Array Oper) (Q : Exit → Act → World → Prop) (S : World → Prop) (n : Nat) : Nat → Array Bool → Act → World → Prop
 | 0, l, a, w => Region.ready md ops l = [] ∧ Q .normal a w
 | f + 1, l, a, w => (Region.ready md ops l = [] → Q .normal a w) ∧ ∀ i ∈ Region.ready md ops l, wpOp P ops Q i (fun a' w' => (i < n → S w') ∧ wpUpto P md ops Q S n f (l.setIfInBounds i true) a' w') a w
theorem wpAny_of_upto : ∀ (f : Nat) (l : Array Bool) (a : Act) (w : World), wpUpto P md ops Q S n f l a w → wpAny P md ops Q f l a w
 | 0, _, _, _, h => h
 | f + 1, _, _, _, h => ⟨h.1, fun i hi => wpOp_mono (fun a' w' h' => wpAny_of_upto f _ a' w' h'.2) (h.2 i hi)⟩
structure UptoInv (md : Region.Mode) (ops : Array Oper) (n : Nat) (l : Array Bool) : Prop where
 head : HeadInv md ops n l
 sink : Region.sinkB md ops n = true
 chain : Region.chainB md ops n = true
 lt : n < ops.size
theorem upto_first {i : Nat} {oi : Oper} {v : Value} (hi : ops[i]? = some oi) (hin : i < n) (hsel : ∀ (j : Nat) (o : Oper) cs b, ops[j]? = some o → o.op ≠ .select cs b)
   (hQ : ∀ c a w, Q (.panic c) (a.put oi.dst v) w → Q (.panic c) a w) :
   ∀ (f : Nat) (l : Array Bool) (a : Act) (w : World), UptoInv md ops n l →
     (∀ j oj, ops[j]? = some oj → j ≠ i → l.getD j true = false → (∀ e ∈ oj.after, Region.binds md e = true → e.on ≠ i) → oi.apart ops oj = true) →
     i ∈ Region.ready md ops l → YieldsIf P ops S oi v a → S w →
     wpUpto P md ops Q S n f (l.setIfInBounds i true) (a.put oi.dst v) w → wpUpto P md ops Q S n (f + 1) l a w := by
 intro f
 induction f with
 | zero =>
   intro l a w _ _ hr hy hS H
   refine ⟨fun h => (by rw [h] at hr; cases hr), fun j hj => ?_⟩
   by_cases hji : j = i
   · subst hji; exact hy.wpOp hi hS ⟨fun _ => hS, H⟩
   · have h1 := ready_mono hj hji
     rw [H.1] at h1
     cases h1
 | succ f ih =>
   intro l a w inv hfree hr hy hS H
   refine ⟨fun h => (by rw [h] at hr; cases hr), fun j hj => ?_⟩
   by_cases hji : j = i
   · subst hji; exact hy.wpOp hi hS ⟨fun _ => hS, H⟩
   · have hjn : j < n := by
       rcases Nat.lt_or_ge j n with h | h
       · exact h
       · exact absurd hj (tail_waits inv.sink inv.chain inv.lt inv.head (n - i) i rfl hin (mem_ready.1 hr).1 j h)
     have h1 := H.2 j (ready_mono hj hji)
     obtain ⟨hjun, oj, hoj, hall⟩ := mem_ready.1 hj
     have hnot : ∀ e ∈ oj.after, Region.binds md e = true → e.on ≠ i := fun e he hb heq => by
       have k1 := hall e he hb
       have k0 := (mem_ready.1 hr).1
       rw [heq] at k1
       rw [getD_both k0] at k1
       cases k1
     have h2 := wpOp_putIf hoj (hfree j oj hoj hji hjun hnot) (fun cs b => hsel i oi cs b hi) (fun cs b => hsel j oj cs b hoj) hQ hy h1
     have hfree' : ∀ k ok, ops[k]? = some ok → k ≠ i → (l.setIfInBounds j true).getD k true = false →
         (∀ e ∈ ok.after, Region.binds md e = true → e.on ≠ i) → oi.apart ops ok = true := fun k ok hk hki hun hno => by
       refine hfree k ok hk hki ?_ hno
       by_cases hjk : j = k
       · subst hjk; exact hjun
       · rw [getD_set_ne true hjk] at hun; exact hun
     refine wpOp_mono (fun a' w' h3 => ⟨h3.2.1, ih (l.setIfInBounds j true) a' w' ⟨inv.head.set hj hjn, inv.sink, inv.chain, inv.lt⟩ hfree' (ready_mono hr (Ne.symm hji)) h3.1 (h3.2.1 hjn) ?_⟩) h2
     rw [Array.setIfInBounds_comm _ _ hji]
     exact h3.2.2
def Upto (P : Program) (md : Region.Mode) (ops : Array Oper) (Q : Exit → Act → World → Prop) (S : World → Prop) (n : Nat) (f : Nat) (l : Array Bool) (a : Act) (w : World) : Prop :=
 UptoInv md ops n l → S w → wpUpto P md ops Q S n f l a w
theorem upto_take {i : Nat} {oi : Oper} {v : Value} {f : Nat} {l : Array Bool} {a : Act} {w : World} (hi : ops[i]? = some oi) (hin : decide (i < n) = true)
   (hs : Region.noSelect ops = true) (hf : Region.free md ops l i = true) (hr : (Region.ready md ops l).contains i = true)
   (hQ : ∀ c a w, Q (.panic c) (a.put oi.dst v) w → Q (.panic c) a w) (hw : Region.wanted oi (yielded ops a.tmps) = true) (hy : ∀ w, S w → (execOp a.eval oi).run P w = .ok (.value v) w)
   (h : Upto P md ops Q S n f (l.setIfInBounds i true) (a.put oi.dst v) w) : Upto P md ops Q S n (f + 1) l a w := fun inv hS => by
 have hri : i ∈ Region.ready md ops l := by simpa using hr
 have hin' := of_decide_eq_true hin
 exact upto_first hi hin' (Region.noSelect_spec hs) hQ f l a w inv (Region.free_spec hi hf) hri (.inl ⟨hw, hy⟩) hS (h ⟨inv.head.set hri hin', inv.sink, inv.chain, inv.lt⟩ hS)
def AllUpto (P : Program) (md : Region.Mode) (ops : Array Oper) (Q : Exit → Act → World → Prop) (S : World → Prop) (n f : Nat) (l : Array Bool) (a : Act) (w : World) (rs : List Nat) : Prop :=
 ∀ i ∈ rs, wpOp P ops Q i (fun a' w' => S w' ∧ Upto P md ops Q S n f (l.setIfInBounds i true) a' w') a w
theorem AllUpto.nil {f : Nat} {l : Array Bool} {a : Act} {w : World} : AllUpto P md ops Q S n f l a w [] := fun _ h => by cases h
theorem AllUpto.cons {f : Nat} {l : Array Bool} {a : Act} {w : World} {i : Nat} {o : Oper} {rs : List Nat} (ho : ops[i]? = some o)
   (h : ∀ K' : Act → World → Prop, Shut (∀ a w, S w → Upto P md ops Q S n f (l.setIfInBounds i true) a w → K' a w) → if Region.wanted o (yielded ops a.tmps) = true then Oper.wp P o a w K' Q else K' (a.put o.dst undef) w)
   (hs : AllUpto P md ops Q S n f l a w rs) : AllUpto P md ops Q S n f l a w (i :: rs) := fun j hj => by
 rcases List.mem_cons.1 hj with rfl | hj
 · exact wpOp_step ho (fun K' hK => h K' (fun a w hS hW => hK a w ⟨hS, hW⟩))
 · exact hs j hj
theorem upto_ready {rs : List Nat} {f : Nat} {l : Array Bool} {a : Act} {w : World} (hr : Region.ready md ops l = rs) (hne : rs.isEmpty = false) (hlt : (rs.all fun i => decide (i < n)) = true)
   (h : AllUpto P md ops Q S n f l a w rs) : Upto P md ops Q S n (f + 1) l a w := fun inv hS => by
 subst hr
 refine ⟨fun h0 => (by rw [h0] at hne; cases hne), fun i hi => ?_⟩
 have hin : i < n := by simpa using List.all_eq_true.1 hlt i hi
 exact wpOp_mono (fun a' w' h' => ⟨fun _ => h'.1, h'.2 ⟨inv.head.set hi hin, inv.sink, inv.chain, inv.lt⟩ h'.1⟩) (h i hi)
theorem upto_last {f : Nat} {l : Array Bool} {a : Act} {w : World} {o : Oper} (hr : Region.ready md ops l = [n]) (hr2 : Region.ready md ops (l.setIfInBounds n true) = []) (ho : ops[n]? = some o)
   (h : ∀ K' : Act → World → Prop, Shut (∀ a w, Q .normal a w → K' a w) → if Region.wanted o (yielded ops a.tmps) = true then Oper.wp P o a w K' Q else K' (a.put o.dst undef) w) : Upto P md ops Q S n (f + 1) l a w := fun inv hS => by
 refine ⟨fun h0 => (by rw [hr] at h0; cases h0), fun i hi => ?_⟩
 rw [hr] at hi
 obtain rfl : i = n := by simpa using hi
 refine wpOp_step ho (fun K' hK => h K' fun a w hq => hK a w ⟨fun hlt => absurd hlt (Nat.lt_irrefl _), ?_⟩)
 cases f with
 | zero => exact ⟨hr2, hq⟩
 | succ f => exact ⟨fun _ => hq, by rw [hr2]; simp⟩
theorem wp_region_upto {id : Nat} {a : Act} {w : World} (n : Nat) (hm : P.follows .mixedOrders = true) (hs : Region.sinkB .any ops n = true) (hc : Region.chainB .any ops n = true) (hn : decide (n < ops.size) = true) (hS : S w.drew)
   (h : Upto P .any ops Q S n ops.size (Array.replicate ops.size false) a w.drew) : (Code.region id ops true).wp P Q a w := by
 have hn' := of_decide_eq_true hn
 refine wp_region_any hm (wpAny_of_upto _ _ _ _ (h ⟨⟨by simp, fun j oj hoj hl => ?_, fun t ht ht' => ?_⟩, hs, hc, hn'⟩ hS))
 · rw [getD_replicate_false] at hl; cases hl
 · simp [ht']
end
end Go.Proofs.YtkdonhhbpacgmaaGreat
