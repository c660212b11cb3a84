/- expr.stack.push. -/
import Derived.Test.YtiplipdigabidaaGreatHeld
import Derived.Deep.RegionLaw
set_option linter.unusedVariables false
set_option linter.unusedSimpArgs false
namespace Go.Proofs.YtiplipdigabidaaGreat
open Go.ChangeShapes Go.WideShapes Go.ChangeAt Go.RowKit
def zeroS : SV := ⟨⟨0, 0, ⟨#[]⟩, []⟩, none, 0⟩
theorem StkE.push {S base D c : Nat} {bn bt : Value} {w w' : World} {xs : List SV} {x : SV} {next : Int} {A A' : Option Addr} {c' : Nat} (h : StkE S base D bn bt w xs next A c) (hx : TmAt D w x) (hap : Apart S A x) (hlt : ∀ a, x.a = some a → base ≤ a.block ∧ a.block < w.heap.size)
   (hb : Below 0 w w') (hk : ∀ b, b < w.heap.size → b ≠ S → (∀ a, A = some a → a.block ≠ b) → w'.heap[b]? = w.heap[b]?)
   (hd : BlkT w' S #[bn, bt, .slice A' (xs ++ [x]).length c', .int .i64 next] 59) (ho : OwnR SvR 33 w' base 0 (.slice A' (xs ++ [x]).length c') (xs ++ [x]))
   (hf : ∀ b, A' = some b → (∃ a, A = some a ∧ a.block = b.block) ∨ w.heap.size ≤ b.block) : StkE S base D bn bt w' (xs ++ [x]) next A' c' := by
 have key : ∀ y, TmAt D w y → (∀ a, y.a = some a → a.block ≠ S ∧ ∀ b, A = some b → a.block ≠ b.block) → (∀ a, y.a = some a → base ≤ a.block ∧ a.block < w.heap.size) → TmAt D w' y ∧ ∀ a, y.a = some a → (base ≤ a.block ∧ a.block < w'.heap.size) ∧ a.block ≠ S ∧ ∀ b, A' = some b → a.block ≠ b.block := by
   intro y hy hs hl
   refine ⟨hy.keep hb fun a ha => hk _ (hl a ha).2 (hs a ha).1 fun b hb2 e => (hs a ha).2 b hb2 e.symm, fun a ha => ⟨⟨(hl a ha).1, Nat.lt_of_lt_of_le (hl a ha).2 hb.size⟩, (hs a ha).1, fun b hb2 e => ?_⟩⟩
   rcases hf b hb2 with ⟨a2, h2, e2⟩ | h2
   · exact (hs a ha).2 a2 h2 (e.trans e2.symm)
   · have := (hl a ha).2
     omega
 have hall : ∀ y ∈ xs ++ [x], TmAt D w' y ∧ ∀ a, y.a = some a → (base ≤ a.block ∧ a.block < w'.heap.size) ∧ a.block ≠ S ∧ ∀ b, A' = some b → a.block ≠ b.block := by
   intro y hy
   rcases List.mem_append.1 hy with h1 | h1
   · exact key y (h.tms y h1) (h.sep y h1) (h.lt y h1)
   · rw [List.mem_singleton] at h1
     subst h1
     exact key y hx hap hlt
 exact ⟨hd, ho, fun y hy => (hall y hy).1, fun y hy a ha => ((hall y hy).2 a ha).2, fun y hy a ha => ((hall y hy).2 a ha).1⟩
theorem four {β : Type} : ∀ Q : List β, 4 ≤ Q.length → ∃ q0 q1 q2 q3 R, Q = q0 :: q1 :: q2 :: q3 :: R
 | q0 :: q1 :: q2 :: q3 :: R, _ => ⟨q0, q1, q2, q3, R, rfl⟩
 | [], h => by simp at h
 | [_], h => by simp at h
 | [_, _], h => by simp at h
 | [_, _, _], h => by simp at h
theorem set4_take {β : Type} (L : List β) (m : Nat) (h : m + 4 ≤ L.length) (a b c d : β) : ((((L.set m a).set (m + 1) b).set (m + 2) c).set (m + 3) d).take (m + 4) = L.take m ++ [a, b, c, d] := by
 obtain ⟨P, Q, rfl, hP⟩ : ∃ P Q, L = P ++ Q ∧ P.length = m := ⟨L.take m, L.drop m, (List.take_append_drop _ _).symm, by rw [List.length_take]; omega⟩
 subst hP
 rw [List.length_append] at h
 obtain ⟨q0, q1, q2, q3, R, rfl⟩ := four Q (by omega)
 simp [List.set_append_right, List.take_append]
 exact List.take_of_length_le (by omega)
theorem OwnR.last {w : World} {base : Nat} {v : Value} {xs : List SV} {y : SV} (h : OwnR SvR 33 w base 0 v (xs ++ [y])) :
   ∃ g c, v = .slice (some ⟨g, 0, none⟩) (xs.length + 1) c ∧ g < w.heap.size ∧ base ≤ g ∧ xs.length + 1 ≤ c ∧ c ≤ 9223372036854775807 ∧ (∀ j u, y.cs[j]? = some u → w.cell? ⟨g, xs.length * 4 + j, none⟩ = some u) ∧ (∀ o, w.frozen? ⟨g, o, none⟩ = false) ∧
     ∀ x : SV, OwnR SvR 33 ((((w.setCell ⟨g, xs.length * 4, none⟩ (.int .i64 x.t.kind)).setCell ⟨g, xs.length * 4 + 1, none⟩ (.int .i64 x.t.n)).setCell ⟨g, xs.length * 4 + 2, none⟩ (.string x.t.s)).setCell ⟨g, xs.length * 4 + 3, none⟩ (.slice x.a x.t.l.length x.c)) base 0 v (xs ++ [x]) := by
 obtain ⟨cells, ho, hf⟩ := h
 have hl : cells.length = (xs.length + 1) * 4 := by have := hf.1; simpa [SvR] using this
 rcases ho.2 with ⟨h1, h2⟩ | ⟨g, cap, cur, hv, hg, hh, k1, k2, k3, k4⟩
 · simp at h2
 · rw [List.length_append, List.length_singleton] at k1 hv
   have hglt : g < w.heap.size := by
     rcases Nat.lt_or_ge g w.heap.size with h' | h'
     · exact h'
     · rw [Array.getElem?_eq_none h'] at hh; cases hh
   have hbt : BlkT w g cur 33 := hh
   have hk3 : cur.size = cap * 4 := k3
   have e4 : (xs ++ [y]).length * SvR.k = (xs.length + 1) * 4 := by simp [SvR]
   rw [e4] at k4
   refine ⟨g, cap, hv, hglt, hg, k1, by unfold maxLen at k2; omega, ?_, hbt.blk.free, fun x => ?_⟩
   · intro j u hj
     have h0 := hf.2 xs.length (by simp)
     simp only [List.getElem_append_right (Nat.le_refl _), Nat.sub_self, List.getElem_singleton] at h0
     have h0 : (cells.drop (xs.length * 4)).take 4 = y.cs := h0
     rw [← h0, List.getElem?_take] at hj
     split at hj
     · rw [List.getElem?_drop, ← k4, List.getElem?_take] at hj
       split at hj
       · rw [cell_of_row w g _ cur 33 (0, 0) hh]
         simpa using hj
       · cases hj
     · cases hj
   · have hs := (((hbt.set_ (xs.length * 4) (.int .i64 x.t.kind)).set_ (xs.length * 4 + 1) (.int .i64 x.t.n)).set_ (xs.length * 4 + 2) (.string x.t.s)).set_ (xs.length * 4 + 3) (.slice x.a x.t.l.length x.c)
     have hcs : xs.length * 4 + 4 ≤ cur.toList.length := by
       have h9 : cur.toList.length = cap * 4 := (Array.length_toList).trans hk3
       omega
     have htk : cells.take (xs.length * 4) = cur.toList.take (xs.length * 4) := by
       rw [← k4, List.take_take]
       congr 1
       omega
     refine ⟨cells.take (xs.length * 4) ++ x.cs, ⟨by simp [SvR, SV.cs, hl]; omega, .inr ⟨g, cap, _, ?_, hg, hs, by simp; exact k1, k2, by simp; exact hk3, ?_⟩⟩, ?_⟩
     · rw [hv]; simp
     · have e5 : (xs ++ [x]).length * SvR.k = xs.length * 4 + 4 := by simp [SvR]; omega
       rw [e5, htk]
       simp only [Array.toList_setIfInBounds]
       exact set4_take _ _ hcs _ _ _ _
     · have h1 := hf.take xs.length
       simp only [List.take_left'] at h1
       have h2 : Flat SvR w 0 xs (cells.take (xs.length * 4)) := h1
       have h3 : Flat SvR w 0 (xs ++ [x]) (cells.take (xs.length * 4) ++ x.cs) := h2.append (Flat.one (R := SvR) rfl)
       exact ⟨h3.1, fun i hi => h3.2 i hi⟩
structure BelX (B S : Nat) (w w' : World) : Prop where
 os : w'.os = w.os
 tape : w'.tape = w.tape
 output : w'.output = w.output
 size : w.heap.size ≤ w'.heap.size
 block : ∀ k, k < B → k ≠ S → w'.heap[k]? = w.heap[k]?
section
variable {B S : Nat} {w w' w'' : World}
theorem BelX.of (h : Below B w w') : BelX B S w w' := ⟨h.os, h.tape, h.output, h.size, fun k hk _ => h.block k hk⟩
theorem BelX.exc (h : Exc S w w') (hb : B ≤ w.heap.size) : BelX B S w w' := ⟨h.1.os, h.1.tape, h.1.output, h.1.size, fun k hk hne => h.2 k (Nat.lt_of_lt_of_le hk hb) hne⟩
theorem BelX.refl (B S : Nat) (w : World) : BelX B S w w := .of (.refl _ _)
theorem BelX.trans (h : BelX B S w w') (k : BelX B S w' w'') : BelX B S w w'' := ⟨k.os.trans h.os, k.tape.trans h.tape, k.output.trans h.output, Nat.le_trans h.size k.size, fun i hi hne => (k.block i hi hne).trans (h.block i hi hne)⟩
theorem BelX.setCell (h : BelX B S w w') {p : Addr} (hp : B ≤ p.block) (v : Value) : BelX B S w (w'.setCell p v) := h.trans (.of ((Below.refl B w').setCell hp v))
theorem BelX.setS (h : BelX B S w w') (i : Nat) (v : Value) : BelX B S w (w'.setCell ⟨S, i, none⟩ v) :=
 have k := (Below.refl 0 w').setCell (p := ⟨S, i, none⟩) (Nat.zero_le _) v
 h.trans ⟨k.os, k.tape, k.output, k.size, fun b _ hne => Below.heap_setCell w' ⟨S, i, none⟩ v b hne⟩
theorem BelX.drew (h : BelX B S w w') : BelX B S w w'.drew := h.trans (.of (Below.refl B w').drew)
theorem BelX.zero (h : BelX B S w w') : Below 0 w w' := ⟨h.os, h.tape, h.output, h.size, fun k hk => absurd hk (Nat.not_lt_zero _)⟩
theorem BelX.mono {B' : Nat} (h : BelX B S w w') (hB : B' ≤ B) : BelX B' S w w' := ⟨h.os, h.tape, h.output, h.size, fun k hk => h.block k (by omega)⟩
theorem BelX.low (h : BelX B S w w') (hB : B ≤ S) : Below B w w' := ⟨h.os, h.tape, h.output, h.size, fun k hk => h.block k hk (by omega)⟩
end
theorem push_end {S base D c g2 c2 : Nat} {bn bt : Value} {w wA w2 wf : World} {xs : List SV} {x : SV} {next : Int} {A : Option Addr} (h : StkE S base D bn bt w xs next A c) (hx : TmAt D w x) (hap : Apart S A x) (hlt : ∀ a, x.a = some a → base ≤ a.block ∧ a.block < w.heap.size) (hb : base ≤ w.heap.size)
   (hA : Below w.heap.size w wA) (hg : wA.grownBy w2 (Value.slice A xs.length c).ownBlock) (hf : FreshV wA (.slice A xs.length c) (.slice (some ⟨g2, 0, none⟩) (xs.length + 1) c2)) (hg2 : base ≤ g2)
   (hfin : ∀ b, b ≠ S → b ≠ g2 → wf.heap[b]? = w2.heap[b]?) (hbf : BelX base S w2 wf)
   (hd : BlkT wf S #[bn, bt, .slice (some ⟨g2, 0, none⟩) (xs.length + 1) c2, .int .i64 next] 59) (ho : OwnR SvR 33 wf base 0 (.slice (some ⟨g2, 0, none⟩) (xs.length + 1) c2) (xs ++ [x])) :
   BelX base S w wf ∧ ∃ A' c', StkE S base D bn bt wf (xs ++ [x]) next A' c' := by
 have hAb : ∀ k, (Value.slice A xs.length c).ownBlock = some k → base ≤ k := by
   obtain ⟨cells, how, _⟩ := h.own
   exact fun k hk => (how.lt k hk).1
 have hsz := hA.size
 have hB2 : Below base wA w2 := (Below.refl base wA).grown hg (by omega) hAb
 have hB : BelX base S w wf := (BelX.of ((hA.mono hb).trans hB2)).trans hbf
 have e1 : xs.length + 1 = (xs ++ [x]).length := by simp
 rw [e1] at hd ho
 refine ⟨hB, _, _, h.push hx hap hlt hB.zero (fun b hbl hbS2 hne => ?_) hd ho fun b hb2 => ?_⟩
 · have hnr : some b ≠ (Value.slice A xs.length c).ownBlock := by
     rcases A with _ | a
     · simp [Value.ownBlock]
     · simp only [Value.ownBlock, ne_eq, Option.some.injEq]
       exact fun e => hne a rfl e.symm
   have hng : b ≠ g2 := by
     rcases hf with hf | ⟨k, hk, hk2⟩
     · intro e
       subst e
       exact hnr hf
     · simp only [Value.ownBlock, Option.some.injEq] at hk
       omega
   rw [hfin b hbS2 hng, hg.block b (Nat.lt_of_lt_of_le hbl hsz) hnr, hA.block b hbl]
 · simp only [Option.some.injEq] at hb2
   subst hb2
   rcases hf with hf | ⟨k, hk, hk2⟩
   · rcases A with _ | a
     · simp [Value.ownBlock] at hf
     · simp only [Value.ownBlock, Option.some.injEq] at hf
       exact .inl ⟨a, rfl, hf.symm⟩
   · simp only [Value.ownBlock, Option.some.injEq] at hk
     subst hk
     exact .inr (by show w.heap.size ≤ g2; omega)
theorem last_of {w2 : World} {base g2 c2 : Nat} {xs : List SV} (ho : OwnR SvR 33 w2 base 0 (.slice (some ⟨g2, 0, none⟩) (xs.length + 1) c2) (xs ++ [zeroS])) (x : SV) : OwnR SvR 33 ((((w2.setCell ⟨g2, xs.length * 4, none⟩ (.int .i64 x.t.kind)).setCell ⟨g2, xs.length * 4 + 1, none⟩ (.int .i64 x.t.n)).setCell ⟨g2, xs.length * 4 + 2, none⟩ (.string x.t.s)).setCell ⟨g2, xs.length * 4 + 3, none⟩ (.slice x.a x.t.l.length x.c)) base 0 (.slice (some ⟨g2, 0, none⟩) (xs.length + 1) c2) (xs ++ [x]) := by
 obtain ⟨g3, c3, e3, _, _, _, _, _, _, hp3⟩ := ho.last
 simp only [Value.slice.injEq, Option.some.injEq, Addr.mk.injEq, and_true, true_and] at e3
 obtain ⟨rfl, rfl⟩ := e3
 exact hp3 x
theorem push_end1 {S base D c g2 c2 : Nat} {bn bt : Value} {w wA w2 : World} {xs : List SV} {x : SV} {next : Int} {A : Option Addr} (h : StkE S base D bn bt w xs next A c) (hx : TmAt D w x) (hap : Apart S A x) (hlt : ∀ a, x.a = some a → base ≤ a.block ∧ a.block < w.heap.size) (hb : base ≤ w.heap.size)
   (hA : Below w.heap.size w wA) (ho : OwnR SvR 33 w2 base 0 (.slice (some ⟨g2, 0, none⟩) (xs.length + 1) c2) (xs ++ [zeroS])) (hg : wA.grownBy w2 (Value.slice A xs.length c).ownBlock) (hf : FreshV wA (.slice A xs.length c) (.slice (some ⟨g2, 0, none⟩) (xs.length + 1) c2)) (hg2 : base ≤ g2) (hne : S ≠ g2) (hd : BlkT w2 S #[bn, bt, .slice A xs.length c, .int .i64 next] 59) :
   BelX base S w (((((w2.setCell ⟨g2, xs.length * 4, none⟩ (.int .i64 x.t.kind)).setCell ⟨g2, xs.length * 4 + 1, none⟩ (.int .i64 x.t.n)).setCell ⟨g2, xs.length * 4 + 2, none⟩ (.string x.t.s)).setCell ⟨g2, xs.length * 4 + 3, none⟩ (.slice x.a x.t.l.length x.c)).setCell ⟨S, 2, none⟩ (.slice (some ⟨g2, 0, none⟩) (xs.length + 1) c2)) ∧ ∃ A' c', StkE S base D bn bt (((((w2.setCell ⟨g2, xs.length * 4, none⟩ (.int .i64 x.t.kind)).setCell ⟨g2, xs.length * 4 + 1, none⟩ (.int .i64 x.t.n)).setCell ⟨g2, xs.length * 4 + 2, none⟩ (.string x.t.s)).setCell ⟨g2, xs.length * 4 + 3, none⟩ (.slice x.a x.t.l.length x.c)).setCell ⟨S, 2, none⟩ (.slice (some ⟨g2, 0, none⟩) (xs.length + 1) c2)) (xs ++ [x]) next A' c' := by
 have d1 := hd.far hne (xs.length * 4) (.int .i64 x.t.kind)
 have d2 := d1.far hne (xs.length * 4 + 1) (.int .i64 x.t.n)
 have d3 := d2.far hne (xs.length * 4 + 2) (.string x.t.s)
 have d4 := d3.far hne (xs.length * 4 + 3) (.slice x.a x.t.l.length x.c)
 have b1 := (Below.refl base w2).setCell (p := ⟨g2, xs.length * 4, none⟩) hg2 (.int .i64 x.t.kind)
 have b2 := b1.setCell (p := ⟨g2, xs.length * 4 + 1, none⟩) hg2 (.int .i64 x.t.n)
 have b3 := b2.setCell (p := ⟨g2, xs.length * 4 + 2, none⟩) hg2 (.string x.t.s)
 have b4 := b3.setCell (p := ⟨g2, xs.length * 4 + 3, none⟩) hg2 (.slice x.a x.t.l.length x.c)
 have b5 := (BelX.of (S := S) b4).setS 2 (.slice (some ⟨g2, 0, none⟩) (xs.length + 1) c2)
 refine push_end h hx hap hlt hb hA hg hf hg2 (fun b h1 h2 => ?_) b5 (d4.set_ 2 (.slice (some ⟨g2, 0, none⟩) (xs.length + 1) c2)) ((last_of ho x).farT d4 s_ne 2 (.slice (some ⟨g2, 0, none⟩) (xs.length + 1) c2))
 rw [Below.heap_setCell _ ⟨S, 2, none⟩ _ b h1, Below.heap_setCell _ ⟨g2, xs.length * 4 + 3, none⟩ _ b h2, Below.heap_setCell _ ⟨g2, xs.length * 4 + 2, none⟩ _ b h2, Below.heap_setCell _ ⟨g2, xs.length * 4 + 1, none⟩ _ b h2, Below.heap_setCell _ ⟨g2, xs.length * 4, none⟩ _ b h2]
theorem push_end2 {S base D c g2 c2 : Nat} {bn bt : Value} {w wA w2 : World} {xs : List SV} {x : SV} {next : Int} {A : Option Addr} (h : StkE S base D bn bt w xs next A c) (hx : TmAt D w x) (hap : Apart S A x) (hlt : ∀ a, x.a = some a → base ≤ a.block ∧ a.block < w.heap.size) (hb : base ≤ w.heap.size)
   (hA : Below w.heap.size w wA) (ho : OwnR SvR 33 w2 base 0 (.slice (some ⟨g2, 0, none⟩) (xs.length + 1) c2) (xs ++ [zeroS])) (hg : wA.grownBy w2 (Value.slice A xs.length c).ownBlock) (hf : FreshV wA (.slice A xs.length c) (.slice (some ⟨g2, 0, none⟩) (xs.length + 1) c2)) (hg2 : base ≤ g2) (hne : S ≠ g2) (hd : BlkT w2 S #[bn, bt, .slice A xs.length c, .int .i64 next] 59) :
   BelX base S w (((((w2.setCell ⟨S, 2, none⟩ (.slice (some ⟨g2, 0, none⟩) (xs.length + 1) c2)).setCell ⟨g2, xs.length * 4, none⟩ (.int .i64 x.t.kind)).setCell ⟨g2, xs.length * 4 + 1, none⟩ (.int .i64 x.t.n)).setCell ⟨g2, xs.length * 4 + 2, none⟩ (.string x.t.s)).setCell ⟨g2, xs.length * 4 + 3, none⟩ (.slice x.a x.t.l.length x.c)) ∧ ∃ A' c', StkE S base D bn bt (((((w2.setCell ⟨S, 2, none⟩ (.slice (some ⟨g2, 0, none⟩) (xs.length + 1) c2)).setCell ⟨g2, xs.length * 4, none⟩ (.int .i64 x.t.kind)).setCell ⟨g2, xs.length * 4 + 1, none⟩ (.int .i64 x.t.n)).setCell ⟨g2, xs.length * 4 + 2, none⟩ (.string x.t.s)).setCell ⟨g2, xs.length * 4 + 3, none⟩ (.slice x.a x.t.l.length x.c)) (xs ++ [x]) next A' c' := by
 have d0 := hd.set_ 2 (.slice (some ⟨g2, 0, none⟩) (xs.length + 1) c2)
 have d1 := d0.far hne (xs.length * 4) (.int .i64 x.t.kind)
 have d2 := d1.far hne (xs.length * 4 + 1) (.int .i64 x.t.n)
 have d3 := d2.far hne (xs.length * 4 + 2) (.string x.t.s)
 have d4 := d3.far hne (xs.length * 4 + 3) (.slice x.a x.t.l.length x.c)
 have b0 := (BelX.refl base S w2).setS 2 (.slice (some ⟨g2, 0, none⟩) (xs.length + 1) c2)
 have b1 := b0.setCell (p := ⟨g2, xs.length * 4, none⟩) hg2 (.int .i64 x.t.kind)
 have b2 := b1.setCell (p := ⟨g2, xs.length * 4 + 1, none⟩) hg2 (.int .i64 x.t.n)
 have b3 := b2.setCell (p := ⟨g2, xs.length * 4 + 2, none⟩) hg2 (.string x.t.s)
 have b4 := b3.setCell (p := ⟨g2, xs.length * 4 + 3, none⟩) hg2 (.slice x.a x.t.l.length x.c)
 refine push_end h hx hap hlt hb hA hg hf hg2 (fun b h1 h2 => ?_) b4 d4 (last_of (ho.farT hd s_ne 2 (.slice (some ⟨g2, 0, none⟩) (xs.length + 1) c2)) x)
 rw [Below.heap_setCell _ ⟨g2, xs.length * 4 + 3, none⟩ _ b h2, Below.heap_setCell _ ⟨g2, xs.length * 4 + 2, none⟩ _ b h2, Below.heap_setCell _ ⟨g2, xs.length * 4 + 1, none⟩ _ b h2, Below.heap_setCell _ ⟨g2, xs.length * 4, none⟩ _ b h2, Below.heap_setCell _ ⟨S, 2, none⟩ _ b h1]
set_option maxRecDepth 100000 in
set_option maxHeartbeats 1000000 in
theorem push_ok {S base D c : Nat} {bn bt : Value} {w : World} {xs : List SV} {x : SV} {next : Int} {A : Option Addr} (h : StkE S base D bn bt w xs next A c) (hx : TmAt D w x) (hap : Apart S A x) (hlt : ∀ a, x.a = some a → base ≤ a.block ∧ a.block < w.heap.size) (hb : base ≤ w.heap.size) (hn : xs.length ≤ 100000) :
   Calls Tryz.prog 65 #[.pointer (some ⟨S, 0, none⟩), .agg x.cs.toArray, .int .i64 0] w fun e w' => e = .returned (.int .i64 0) ∧ BelX base S w w' ∧ ∃ A' c', StkE S base D bn bt w' (xs ++ [x]) next A' c' := by
 obtain ⟨i0, hi0, hz0, hz1, hz2⟩ := info_parts infoTm
 have HS := Lib.hid h
 have HX := Lib.hid (And.intro hx (And.intro hap hlt))
 have hSlt := h.hd.blk.lt
 clear h hx hap hlt
 unfold SV.cs
 go_enter Tryz.func65, Tryz.ntmps65
 go_wp2_with fail
 generalize hW : World.alloc _ _ = w1
 obtain ⟨hb1, hz⟩ := al1 hW
 have BX := Lib.hid (show BlkT w1 w.heap.size #[.int .i64 x.t.kind, .int .i64 x.t.n, .string x.t.s, .slice x.a x.t.l.length x.c] 33 from hW ▸ heap_alloc_new w _)
 have HS1 := Lib.hid (HS.out.later hb1)
 have HB1 := Lib.hid hb1
 clear hW hb1
 have s1 : w1.drew.cell? ⟨S, 2, none⟩ = some (.slice A xs.length c) := HS1.out.hd.blk.cell 2
 have s2 : w1.drew.cell? ⟨w.heap.size, 0, none⟩ = some (.int .i64 x.t.kind) := BX.out.blk.cell 0
 have s3 : w1.drew.cell? ⟨w.heap.size, 1, none⟩ = some (.int .i64 x.t.n) := BX.out.blk.cell 1
 have s4 : w1.drew.cell? ⟨w.heap.size, 2, none⟩ = some (.string x.t.s) := BX.out.blk.cell 2
 have s5 : w1.drew.cell? ⟨w.heap.size, 3, none⟩ = some (.slice x.a x.t.l.length x.c) := BX.out.blk.cell 3
 clear s1 s2 s3 s4 s5
 have k_s := HS1.out.hd.blk.cell
 have k_x := BX.out.blk.cell
 have hXlt : w.heap.size < w1.heap.size := by omega
 have hS1 : S < w1.heap.size := by omega
 have hsrc := (Blk.src (R := SvR) (B := 0) (x := zeroS) (Blk.drew (Blk.new w1 #[.int .i64 0, .int .i64 0, .string ⟨#[]⟩, .slice none 0 0] 33)) rfl)
 rw [hz] at hsrc
 have HN := Lib.hid (And.intro (HS1.out.own.later ((below_new (w := w1) (o := .cells #[.int .i64 0, .int .i64 0, .string ⟨#[]⟩, .slice none 0 0] 33) rfl).drew) (Nat.zero_le _)) hsrc)
 clear hsrc
 have hii : (xs.length : Int) < (xs.length : Int) + 1 := by omega
 go_region_law (
   refine step_append_F (R := SvR) (e := 33) (base := base) (xs := xs) (ys := [zeroS]) rfl (.tmp 12) (.tmp 15) 26 rfl (bytes := 56) Tryz.underlying26 hi0 hz0 hz1 hz2 rfl (show 0 < 4 by omega) single_sv rfl HN.out.1 rfl HN.out.2 rfl (by simp only [List.length_cons, List.length_nil]; omega) (by omega) (by rw [World.size_drew, World.size_alloc]; omega) ?_
   intro v2 w2 hown2 hg2 hf2
   have HO2 : Hid (OwnR SvR 33 w2 base 0 v2 (xs ++ [zeroS]) ∧ World.grownBy (w1.alloc (.cells #[.int .i64 0, .int .i64 0, .string ⟨#[]⟩, .slice none 0 0] 33)).drew w2 (Value.slice A xs.length c).ownBlock ∧ FreshV (w1.alloc (.cells #[.int .i64 0, .int .i64 0, .string ⟨#[]⟩, .slice none 0 0] 33)).drew (.slice A xs.length c) v2) := Lib.hid ⟨hown2, hg2, hf2⟩
   have bd := ((HS1.out.hd.later (below_new (w := w1) (o := .cells #[.int .i64 0, .int .i64 0, .string ⟨#[]⟩, .slice none 0 0] 33) rfl)).drew).grown hg2 (HN.out.1.ne ((HS1.out.hd.later (below_new (w := w1) (o := .cells #[.int .i64 0, .int .i64 0, .string ⟨#[]⟩, .slice none 0 0] 33) rfl)).drew) s_ne)
   have hne2 := hown2.ne bd s_ne
   have ks2 := bd.blk.cell 2
   have fs2 := bd.blk.free
   have BD := Lib.hid bd
   obtain ⟨g2, c2, rfl, hg2lt, hg2b, hn2, hc2, hcell2, hfr2, hput2⟩ := hown2.last
   simp only [Value.ownBlock, ne_eq, Option.some.injEq] at hne2
   have hne3 : S ≠ g2 := fun e => hne2 e.symm
   have HP2 := Lib.hid hput2
   clear bd
   have e0 : w2.cell? ⟨g2, xs.length * 4, none⟩ = some (.int .i64 0) := hcell2 0 _ rfl
   have e1 : w2.cell? ⟨g2, xs.length * 4 + 1, none⟩ = some (.int .i64 0) := hcell2 1 _ rfl
   have e2 : w2.cell? ⟨g2, xs.length * 4 + 2, none⟩ = some (.string ⟨#[]⟩) := hcell2 2 _ rfl
   have e3 : w2.cell? ⟨g2, xs.length * 4 + 3, none⟩ = some (.slice none 0 0) := hcell2 3 _ rfl
   clear hown2 hg2 hf2 hput2 hcell2)
 all_goals
   go_wp2_with fail
   go_ret
   obtain ⟨hx, hap, hlt⟩ := HX.out
   have hwA : Below w.heap.size w (w1.alloc (.cells #[.int .i64 0, .int .i64 0, .string ⟨#[]⟩, .slice none 0 0] 33)).drew := (HB1.out.alloc HB1.out.size _).drew
   refine ⟨rfl, ?_⟩
   first
     | (with_reducible exact push_end1 HS.out hx hap hlt hb hwA HO2.out.1 HO2.out.2.1 HO2.out.2.2 hg2b hne3 BD.out)
     | (with_reducible exact push_end2 HS.out hx hap hlt hb hwA HO2.out.1 HO2.out.2.1 HO2.out.2.2 hg2b hne3 BD.out)
def PushS (S base D : Nat) (bn bt : Value) (w : World) (xs : List SV) (x : SV) (next e : Int) : Prop :=
 (e = 0 ∧ ∃ A c, StkE S base D bn bt w (xs ++ [x]) next A c) ∨ (e ≠ 0 ∧ ∃ A c, StkE S base D bn bt w xs next A c)
set_option maxRecDepth 100000 in
set_option maxHeartbeats 1000000 in
theorem spush_any {S base D c : Nat} {bn bt : Value} {w : World} {xs : List SV} {x : SV} {next e0 : Int} {A : Option Addr} (h : StkE S base D bn bt w xs next A c) (hx : TmAt D w x) (hap : Apart S A x) (hlt : ∀ a, x.a = some a → base ≤ a.block ∧ a.block < w.heap.size) (hb : base ≤ w.heap.size) (hn : xs.length ≤ 100000) :
   Calls Tryz.prog 65 #[.pointer (some ⟨S, 0, none⟩), .agg x.cs.toArray, .int .i64 e0] w fun e w' => e = .returned (.int .i64 e0) ∧ BelX base S w w' ∧ PushS S base D bn bt w' xs x next e0 := by
 by_cases he : e0 = 0
 · subst he
   exact (push_ok h hx hap hlt hb hn).mono fun _ _ ⟨h1, h2, h3⟩ => ⟨h1, h2, .inl ⟨rfl, h3⟩⟩
 · have HS := Lib.hid h
   have hq : (e0 == 0) = false := by simpa using he
   have HE := Lib.hid he
   clear h hx hap hlt he
   unfold SV.cs
   go_enter Tryz.func65, Tryz.ntmps65
   go_wp2_with fail
   go_ret
   have hb1 := below_new (w := w) (o := .cells #[.int .i64 x.t.kind, .int .i64 x.t.n, .string x.t.s, .slice x.a x.t.l.length x.c] 33) rfl
   exact ⟨rfl, .of (hb1.mono hb), .inr ⟨HE.out, A, c, HS.out.later hb1⟩⟩
theorem TmOwn.at_ {d base : Nat} {w : World} {t : Tm} {A : Option Addr} {c : Nat} (h : TmOwn d base w t A c) : TmAt d w ⟨t, A, c⟩ := by
 refine ⟨h.rtm, fun u hu => ?_⟩
 obtain ⟨cells, _, hf⟩ := h.own
 obtain ⟨i, hi, rfl⟩ := List.getElem_of_mem hu
 have := hf.2 i hi
 generalize (cells.drop (i * (TmR d).k)).take (TmR d).k = vs at this
 have h2 : RTm w 0 d t.l[i] vs := this
 cases d with
 | zero => exact h2.elim
 | succ d =>
   obtain ⟨A2, c2, _, _, _, _, _, _, h6⟩ := h2
   show t.l[i].l = []
   rcases Nat.eq_zero_or_pos t.l[i].l.length with h0 | h0
   · exact List.eq_nil_of_length_eq_zero h0
   · obtain ⟨b, off, _, hb, _⟩ := h6 h0
     omega
theorem TmOwn.blk {d base : Nat} {w : World} {t : Tm} {A : Option Addr} {c : Nat} (h : TmOwn d base w t A c) : ∀ a, A = some a → base ≤ a.block ∧ a.block < w.heap.size := by
 intro a ha
 subst ha
 obtain ⟨cells, how, _⟩ := h.own
 exact how.lt a.block rfl
end Go.Proofs.YtiplipdigabidaaGreat
