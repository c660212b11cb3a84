/- A term whose list is the call's own, as the stack wants it. -/
import Derived.Test.YtkdonhhbpacgmaaGreatReg3
import Derived.RegionTactic
import Derived.Test.YtkdonhhbpacgmaaGreatSet2
set_option linter.unusedVariables false
set_option linter.unusedSimpArgs false
namespace Go.Proofs.YtkdonhhbpacgmaaGreat
open Go.ChangeShapes Go.WideShapes Go.ChangeAt Go.RowKit
def wfI (n : Nat) (i : Ins) : Prop := (i.kind = 2 → 0 ≤ i.x ∧ i.x ≤ n ∧ 0 ≤ i.y ∧ i.y ≤ n) ∧ (i.kind = 3 → 0 ≤ i.x ∧ i.x ≤ n)
def wfN (n : Nat) (l : List Ins) : Prop := ∀ i ∈ l, wfI n i
theorem wfI.mono {n m : Nat} {i : Ins} (h : wfI n i) (hn : n ≤ m) : wfI m i := ⟨fun k => by have := h.1 k; omega, fun k => by have := h.2 k; omega⟩
theorem wfN.mono {n m : Nat} {l : List Ins} (h : wfN n l) (hn : n ≤ m) : wfN m l := fun i hi => (h i hi).mono hn
theorem wfN.append {n : Nat} {a b : List Ins} (h : wfN n a) (k : wfN n b) : wfN n (a ++ b) := fun i hi => by
 rcases List.mem_append.1 hi with h1 | h1
 · exact h i h1
 · exact k i h1
theorem wfN.nil {n : Nat} : wfN n [] := fun _ h => by cases h
theorem wfN.one {n : Nat} {i : Ins} (h : wfI n i) : wfN n [i] := fun j hj => by
 rw [List.mem_singleton] at hj; subst hj; exact h
open Go.ChangeShapes Go.WideShapes Go.ChangeAt Go.RowKit
def insAt (l : List Ins) (i : Int) : Ins := l.getD i.toNat charI
def outsI (x : Ins) (i : Int) (first last : Bool) : List Int :=
 if x.kind = 2 then [x.x, x.y] else if x.kind = 3 then [x.x] else if (x.kind = 4 ∧ first = true) ∨ (x.kind = 5 ∧ last = true) then [i + 1] else []
def enterR (l : List Ins) (first last : Bool) : Nat → List Int → List Bool × Bool → List Bool × Bool
 | 0, _, st => st
 | _ + 1, [], st => st
 | n + 1, i :: todo, st =>
   if st.1.getD i.toNat false = true then enterR l first last n todo st
   else enterR l first last n (outsI (insAt l i) i first last ++ todo) (st.1.set i.toNat true, st.2 || decide ((insAt l i).kind = 6))
def entered (l : List Ins) (first last : Bool) (i : Int) (st : List Bool × Bool) : List Bool × Bool := enterR l first last (3 * l.length + 2) [i] st
open Go.ChangeShapes Go.WideShapes Go.ChangeAt Go.RowKit
section
variable {α : Type} {R : Reader α} {e T : TypeId} {w w' : World} {base B D : Nat} {v : Value} {xs : List α} {vs : Array Value}
theorem OwnR.ne (h : OwnR R e w base B v xs) (hD : BlkT w D vs T) (hT : T ≠ e) : v.ownBlock ≠ some D := by
 obtain ⟨cells, h, _⟩ := h
 rcases h.2 with ⟨h1, _⟩ | ⟨g, cap, cur, hv, hg, hh, r⟩
 · rw [h1]; simp [Value.ownBlock]
 · rw [hv]
   simp only [Value.ownBlock, ne_eq, Option.some.injEq]
   intro hgd
   subst hgd
   unfold BlkT at hD
   rw [hD] at hh
   simp only [Option.some.injEq, Obj.cells.injEq] at hh
   exact hT hh.2.1
theorem OwnR.farT (h : OwnR R e w base 0 v xs) (hD : BlkT w D vs T) (hT : T ≠ e) (i : Nat) (u : Value) : OwnR R e (w.setCell ⟨D, i, none⟩ u) base 0 v xs := by
 have hne := h.ne hD hT
 obtain ⟨cells, h, hf⟩ := h
 refine ⟨cells, ⟨h.1, ?_⟩, hf.keep ((Below.refl 0 w).setCell (p := ⟨D, i, none⟩) (Nat.zero_le _) u) (Nat.le_refl _)⟩
 rcases h.2 with h2 | ⟨g, cap, cur, hv, hg, hh, r⟩
 · exact .inl h2
 · refine .inr ⟨g, cap, cur, hv, hg, ?_, r⟩
   rw [hv] at hne
   simp only [Value.ownBlock, ne_eq, Option.some.injEq] at hne
   exact (Below.heap_setCell w ⟨D, i, none⟩ u g hne).trans hh
theorem BlkT.grown {row : Option Nat} (h : BlkT w D vs T) (hg : w.grownBy w' row) (hne : row ≠ some D) : BlkT w' D vs T := by
 exact (hg.block D h.blk.lt (Ne.symm hne)).trans h
end
def KeepsT (D : Nat) (w w' : World) : Prop := ∀ b vs T, T ≠ 3 → b ≠ D → BlkT w b vs T → BlkT w' b vs T
theorem KeepsT.trans {D : Nat} {a b c : World} (h : KeepsT D a b) (k : KeepsT D b c) : KeepsT D a c := fun x vs T h1 h2 h3 => k x vs T h1 h2 (h x vs T h1 h2 h3)
open Go.ChangeShapes Go.WideShapes Go.ChangeAt Go.RowKit
structure SV where
 t : Tm
 a : Option Addr
 c : Nat
def SV.cs (x : SV) : List Value := [.int .i64 x.t.kind, .int .i64 x.t.n, .string x.t.s, .slice x.a x.t.l.length x.c]
def SvR : Reader SV where
 k := 4
 rd := fun _ _ x vs => vs = x.cs
 keep := fun _ _ h => h
 wide := fun _ h => h
 len := fun h => by subst h; rfl
theorem single_sv : Single SvR := fun {w B x vs} h u hu => by
 obtain rfl : vs = x.cs := h
 simp only [SV.cs, List.mem_cons, List.not_mem_nil, or_false] at hu
 rcases hu with rfl | rfl | rfl | rfl <;> rfl
def TmAt (D : Nat) (w : World) (x : SV) : Prop := RTm w w.heap.size (D + 1) x.t x.cs ∧ ∀ u ∈ x.t.l, Leaf u
section
variable {D : Nat} {w w' : World} {x : SV}
theorem TmAt.keep (h : TmAt D w x) (hb : Below 0 w w') (he : ∀ a, x.a = some a → w'.heap[a.block]? = w.heap[a.block]?) : TmAt D w' x := by
 obtain ⟨⟨A, c, e, h1, h2, h3, h4, h5, h6⟩, hl⟩ := h
 simp only [SV.cs, List.cons.injEq, Value.slice.injEq, and_true, true_and] at e
 obtain ⟨rfl, rfl⟩ := e
 refine ⟨⟨x.a, x.c, rfl, h1, h2, h3, h4, h5, fun hn => ?_⟩, hl⟩
 obtain ⟨b, off, ha, hlt, hc⟩ := h6 hn
 refine ⟨b, off, ha, Nat.lt_of_lt_of_le hlt hb.size, fun i hi => ?_⟩
 obtain ⟨vs, hv, ⟨y, hy, hr⟩, hcell⟩ := hc i hi
 have hm : y ∈ x.t.l := List.mem_of_getElem? hy
 refine ⟨vs, hv, ⟨y, hy, ((leaf_rd (hl y hm) hr).below hb (Nat.le_refl _)).more (Nat.zero_le _)⟩, fun j u hj => ?_⟩
 have := he _ ha
 have h9 := hcell j u hj
 unfold World.cell? at h9 ⊢
 simp only at this h9 ⊢
 rw [this]
 exact h9
theorem TmAt.later (h : TmAt D w x) (hb : Below w.heap.size w w') : TmAt D w' x := ⟨(h.1.below hb (Nat.le_refl _)).more hb.size, h.2⟩
theorem TmAt.lt (h : TmAt D w x) {a : Addr} (ha : x.a = some a) (hn : 0 < x.t.l.length) : a.block < w.heap.size := by
 obtain ⟨⟨A, c, e, h1, h2, h3, h4, h5, h6⟩, hl⟩ := h
 simp only [SV.cs, List.cons.injEq, Value.slice.injEq, and_true, true_and] at e
 obtain ⟨rfl, rfl⟩ := e
 obtain ⟨b, off, he, hlt, _⟩ := h6 hn
 rw [ha] at he
 simp only [Option.some.injEq] at he
 rw [he]; exact hlt
end
structure StkE (S base D : Nat) (bn bt : Value) (w : World) (xs : List SV) (next : Int) (A : Option Addr) (c : Nat) : Prop where
 hd : BlkT w S #[bn, bt, .slice A xs.length c, .int .i64 next] 187
 own : OwnR SvR 44 w base 0 (.slice A xs.length c) xs
 tms : ∀ x ∈ xs, TmAt D w x
 sep : ∀ x ∈ xs, ∀ a, x.a = some a → a.block ≠ S ∧ ∀ b, A = some b → a.block ≠ b.block
 lt : ∀ x ∈ xs, ∀ a, x.a = some a → base ≤ a.block ∧ a.block < w.heap.size
theorem s_ne : (187 : TypeId) ≠ 44 := by decide
section
variable {S base D c : Nat} {bn bt : Value} {w w' : World} {xs : List SV} {next : Int} {A : Option Addr}
theorem StkE.later (h : StkE S base D bn bt w xs next A c) (hb : Below w.heap.size w w') : StkE S base D bn bt w' xs next A c :=
 ⟨h.hd.later hb, h.own.later hb (Nat.zero_le _), fun x hx => (h.tms x hx).later hb, h.sep, fun x hx a ha => ⟨(h.lt x hx a ha).1, Nat.lt_of_lt_of_le (h.lt x hx a ha).2 hb.size⟩⟩
theorem StkE.head (h : StkE S base D bn bt w xs next A c) (next' : Int) : StkE S base D bn bt (w.setCell ⟨S, 3, none⟩ (.int .i64 next')) xs next' A c := by
 refine ⟨h.hd.set_ 3 _, h.own.farT h.hd s_ne 3 _, fun x hx => (h.tms x hx).keep ((Below.refl 0 w).setCell (p := ⟨S, 3, none⟩) (Nat.zero_le _) _) fun a ha => ?_, h.sep, fun x hx a ha => by rw [World.size_setCell]; exact h.lt x hx a ha⟩
 exact Below.heap_setCell w ⟨S, 3, none⟩ _ a.block (h.sep x hx a ha).1
end
theorem Exc.head {S : Nat} {w : World} (i : Nat) (v : Value) : Exc S w (w.setCell ⟨S, i, none⟩ v) := (Exc.refl S w).set i v
open Go.ChangeShapes Go.WideShapes Go.ChangeAt Go.RowKit
theorem four {β : Type} : ∀ Q : List β, 4 ≤ Q.length → ∃ q0 q1 q2 q3 R, Q = q0 :: q1 :: q2 :: q3 :: R
 | q0 :: q1 :: q2 :: q3 :: R, _ => ⟨q0, q1, q2, q3, R, rfl⟩
 | [], h => by simp at h
 | [_], h => by simp at h
 | [_, _], h => by simp at h
 | [_, _, _], h => by simp at h
theorem set4_take {β : Type} (L : List β) (m : Nat) (h : m + 4 ≤ L.length) (a b c d : β) : ((((L.set m a).set (m + 1) b).set (m + 2) c).set (m + 3) d).take (m + 4) = L.take m ++ [a, b, c, d] := by
 obtain ⟨P, Q, rfl, hP⟩ : ∃ P Q, L = P ++ Q ∧ P.length = m := ⟨L.take m, L.drop m, (List.take_append_drop _ _).symm, by rw [List.length_take]; omega⟩
 subst hP
 rw [List.length_append] at h
 obtain ⟨q0, q1, q2, q3, R, rfl⟩ := four Q (by omega)
 simp [List.set_append_right, List.take_append]
 exact List.take_of_length_le (by omega)
theorem OwnR.last {w : World} {base : Nat} {v : Value} {xs : List SV} {y : SV} (h : OwnR SvR 44 w base 0 v (xs ++ [y])) :
   ∃ g c, v = .slice (some ⟨g, 0, none⟩) (xs.length + 1) c ∧ g < w.heap.size ∧ base ≤ g ∧ xs.length + 1 ≤ c ∧ c ≤ 9223372036854775807 ∧ (∀ j u, y.cs[j]? = some u → w.cell? ⟨g, xs.length * 4 + j, none⟩ = some u) ∧ (∀ o, w.frozen? ⟨g, o, none⟩ = false) ∧
     ∀ x : SV, OwnR SvR 44 ((((w.setCell ⟨g, xs.length * 4, none⟩ (.int .i64 x.t.kind)).setCell ⟨g, xs.length * 4 + 1, none⟩ (.int .i64 x.t.n)).setCell ⟨g, xs.length * 4 + 2, none⟩ (.string x.t.s)).setCell ⟨g, xs.length * 4 + 3, none⟩ (.slice x.a x.t.l.length x.c)) base 0 v (xs ++ [x]) := by
 obtain ⟨cells, ho, hf⟩ := h
 have hl : cells.length = (xs.length + 1) * 4 := by have := hf.1; simpa [SvR] using this
 rcases ho.2 with ⟨h1, h2⟩ | ⟨g, cap, cur, hv, hg, hh, k1, k2, k3, k4⟩
 · simp at h2
 · rw [List.length_append, List.length_singleton] at k1 hv
   have hglt : g < w.heap.size := by
     rcases Nat.lt_or_ge g w.heap.size with h' | h'
     · exact h'
     · rw [Array.getElem?_eq_none h'] at hh; cases hh
   have hbt : BlkT w g cur 44 := hh
   have hk3 : cur.size = cap * 4 := k3
   have e4 : (xs ++ [y]).length * SvR.k = (xs.length + 1) * 4 := by simp [SvR]
   rw [e4] at k4
   refine ⟨g, cap, hv, hglt, hg, k1, by unfold maxLen at k2; omega, ?_, hbt.blk.free, fun x => ?_⟩
   · intro j u hj
     have h0 := hf.2 xs.length (by simp)
     simp only [List.getElem_append_right (Nat.le_refl _), Nat.sub_self, List.getElem_singleton] at h0
     have h0 : (cells.drop (xs.length * 4)).take 4 = y.cs := h0
     rw [← h0, List.getElem?_take] at hj
     split at hj
     · rw [List.getElem?_drop, ← k4, List.getElem?_take] at hj
       split at hj
       · rw [cell_of_row w g _ cur 44 (0, 0) hh]
         simpa using hj
       · cases hj
     · cases hj
   · have hs := (((hbt.set_ (xs.length * 4) (.int .i64 x.t.kind)).set_ (xs.length * 4 + 1) (.int .i64 x.t.n)).set_ (xs.length * 4 + 2) (.string x.t.s)).set_ (xs.length * 4 + 3) (.slice x.a x.t.l.length x.c)
     have hcs : xs.length * 4 + 4 ≤ cur.toList.length := by
       have h9 : cur.toList.length = cap * 4 := (Array.length_toList).trans hk3
       omega
     have htk : cells.take (xs.length * 4) = cur.toList.take (xs.length * 4) := by
       rw [← k4, List.take_take]
       congr 1
       omega
     refine ⟨cells.take (xs.length * 4) ++ x.cs, ⟨by simp [SvR, SV.cs, hl]; omega, .inr ⟨g, cap, _, ?_, hg, hs, by simp; exact k1, k2, by simp; exact hk3, ?_⟩⟩, ?_⟩
     · rw [hv]; simp
     · have e5 : (xs ++ [x]).length * SvR.k = xs.length * 4 + 4 := by simp [SvR]; omega
       rw [e5, htk]
       simp only [Array.toList_setIfInBounds]
       exact set4_take _ _ hcs _ _ _ _
     · have h1 := hf.take xs.length
       simp only [List.take_left'] at h1
       have h2 : Flat SvR w 0 xs (cells.take (xs.length * 4)) := h1
       have h3 : Flat SvR w 0 (xs ++ [x]) (cells.take (xs.length * 4) ++ x.cs) := h2.append (Flat.one (R := SvR) rfl)
       exact ⟨h3.1, fun i hi => h3.2 i hi⟩
theorem TmOwn.at_ {d base : Nat} {w : World} {t : Tm} {A : Option Addr} {c : Nat} (h : TmOwn d base w t A c) : TmAt d w ⟨t, A, c⟩ := by
 refine ⟨h.rtm, fun u hu => ?_⟩
 obtain ⟨cells, _, hf⟩ := h.own
 obtain ⟨i, hi, rfl⟩ := List.getElem_of_mem hu
 have := hf.2 i hi
 generalize (cells.drop (i * (TmR d).k)).take (TmR d).k = vs at this
 have h2 : RTm w 0 d t.l[i] vs := this
 cases d with
 | zero => exact h2.elim
 | succ d =>
   obtain ⟨A2, c2, _, _, _, _, _, _, h6⟩ := h2
   show t.l[i].l = []
   rcases Nat.eq_zero_or_pos t.l[i].l.length with h0 | h0
   · exact List.eq_nil_of_length_eq_zero h0
   · obtain ⟨b, off, _, hb, _⟩ := h6 h0
     omega
theorem TmOwn.blk {d base : Nat} {w : World} {t : Tm} {A : Option Addr} {c : Nat} (h : TmOwn d base w t A c) : ∀ a, A = some a → base ≤ a.block ∧ a.block < w.heap.size := by
 intro a ha
 subst ha
 obtain ⟨cells, how, _⟩ := h.own
 exact how.lt a.block rfl
end Go.Proofs.YtkdonhhbpacgmaaGreat
