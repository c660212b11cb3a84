/- The stack of an expression's terms: what lies in memory; taking one off. -/
import Derived.Test.YtkdonhhbpacgmaaGreatOwn
import Derived.Test.YtkdonhhbpacgmaaGreatSet
import Derived.Test.YtkdonhhbpacgmaaGreatRegLaw
import Derived.Laws.MakeOwn
import Derived.Test.YtkdonhhbpacgmaaGreatExc
import Derived.Deep.Cut
import Derived.Deep.CutRange
import Derived.Deep.LoopGhost
import Derived.RegionTactic
import Derived.Test.YtkdonhhbpacgmaaGreatFound
set_option linter.unusedVariables false
set_option linter.unusedSimpArgs false
namespace Go.Proofs.YtkdonhhbpacgmaaGreat
open Go.ChangeShapes Go.WideShapes Go.ChangeAt Go.RowKit
section
variable {α : Type} {R : Reader α} {e : TypeId} {w : World} {base B : Nat} {v : Value} {xs : List α} {A : Option Addr} {c : Nat}
theorem addr_add (b off j : Nat) : (⟨b, off, none⟩ : Addr).add j = ⟨b, off + j, none⟩ := by
 unfold Addr.add
 split
 · rename_i h; subst h; rfl
 · rfl
theorem OwnR.src (h : OwnR R e w base B (.slice A xs.length c) xs) : SrcR R w B A xs := by
 obtain ⟨cells, h, hf⟩ := h
 rcases h.2 with ⟨h1, h2⟩ | ⟨g, cap, cur, hv, hg, hh, k1, k2, k3, k4⟩
 · have : xs = [] := List.eq_nil_of_length_eq_zero h2
   subst this
   refine ⟨[], Flat.nil, fun _ => rfl, fun a _ j u hu => by simp at hu⟩
 · simp only [Value.slice.injEq] at hv
   obtain ⟨rfl, _, rfl⟩ := hv
   refine ⟨cells, hf, fun e => (by cases e), fun a ha j u hu => ?_⟩
   simp only [Option.some.injEq] at ha
   subst ha
   rw [← k4, List.getElem?_take] at hu
   split at hu
   · rw [addr_add]
     show w.cell? ⟨g, 0 + j, none⟩ = _
     rw [cell_of_row w g _ cur e (0, 0) hh, Nat.zero_add]
     simpa using hu
   · cases hu
theorem Flat.take {news : List Value} (h : Flat R w B xs news) (k : Nat) : Flat R w B (xs.take k) (news.take (k * R.k)) := by
 refine ⟨?_, fun i hi => ?_⟩
 · rw [List.length_take, List.length_take, h.1]
   rcases Nat.le_total k xs.length with hk | hk
   · rw [Nat.min_eq_left hk, Nat.min_eq_left (Nat.mul_le_mul_right _ hk)]
   · rw [Nat.min_eq_right hk, Nat.min_eq_right (Nat.mul_le_mul_right _ hk)]
 · rw [List.length_take] at hi
   have hik : i < k := by omega
   have h1 : (i + 1) * R.k ≤ k * R.k := Nat.mul_le_mul_right _ hik
   rw [Nat.add_mul, Nat.one_mul] at h1
   have := h.2 i (by omega)
   rw [List.getElem_take, List.drop_take, List.take_take, Nat.min_eq_left (by omega)]
   exact this
theorem Flat.drop {news : List Value} (h : Flat R w B xs news) (k : Nat) : Flat R w B (xs.drop k) (news.drop (k * R.k)) := by
 refine ⟨?_, fun i hi => ?_⟩
 · rw [List.length_drop, List.length_drop, h.1, Nat.sub_mul]
 · rw [List.length_drop] at hi
   have := h.2 (k + i) (by omega)
   rw [List.getElem_drop, List.drop_drop]
   rw [show k * R.k + i * R.k = (k + i) * R.k by rw [Nat.add_mul]]
   exact this
theorem SrcR.take (h : SrcR R w B A xs) (k : Nat) : SrcR R w B A (xs.take k) := by
 obtain ⟨cells, hf, h1, h2⟩ := h
 refine ⟨_, hf.take k, fun e => (by rw [h1 e]; simp), fun a ha j u hu => ?_⟩
 rw [List.getElem?_take] at hu
 split at hu
 · exact h2 a ha j u hu
 · cases hu
theorem SrcR.drop {b off : Nat} (h : SrcR R w B (some ⟨b, off, none⟩) xs) (k : Nat) : SrcR R w B (some ⟨b, off + k * R.k, none⟩) (xs.drop k) := by
 obtain ⟨cells, hf, h1, h2⟩ := h
 refine ⟨_, hf.drop k, fun e => (by cases e), fun a ha j u hu => ?_⟩
 rw [List.getElem?_drop] at hu
 simp only [Option.some.injEq] at ha
 subst ha
 have := h2 _ rfl _ _ hu
 rw [addr_add] at this ⊢
 rw [Nat.add_assoc]; exact this
theorem SrcR.none {A : Option Addr} {ys : List α} (h : ys = []) : SrcR R w B A ys := by
 subst h; exact ⟨[], Flat.nil, fun _ => rfl, fun a _ j u hu => by simp at hu⟩
end
section
variable {α : Type} {c : α → α → Int} {t : α}
end
open Go.ChangeShapes Go.WideShapes Go.ChangeAt Go.RowKit
def insC (i : Ins) : List Value := [.int .i64 i.kind, .int .u64 i.a, .int .u64 i.b, .int .u64 i.c, .int .u64 i.d, .int .i64 i.x, .int .i64 i.y]
def InsR : Reader Ins where
 k := 7
 rd := fun _ _ i vs => vs = insC i
 keep := fun _ _ h => h
 wide := fun _ h => h
 len := fun h => by subst h; rfl
def BlkT (w : World) (b : Nat) (vs : Array Value) (T : TypeId) : Prop := w.heap[b]? = some (.cells vs T (0, 0))
section
variable {w w' : World} {b c : Nat} {vs : Array Value} {T : TypeId}
theorem BlkT.blk (h : BlkT w b vs T) : Blk w b vs := ⟨T, h⟩
theorem BlkT.keep {B : Nat} (h : BlkT w b vs T) (hb : Below B w w') (hB : b < B) : BlkT w' b vs T := (hb.block b hB).trans h
theorem BlkT.later (h : BlkT w b vs T) (hb : Below w.heap.size w w') : BlkT w' b vs T := h.keep hb h.blk.lt
theorem BlkT.set_ (h : BlkT w b vs T) (i : Nat) (u : Value) : BlkT (w.setCell ⟨b, i, none⟩ u) b (vs.setIfInBounds i u) T := by
 unfold BlkT at h ⊢
 simp [World.setCell, Array.getElem?_modify, h]
theorem BlkT.far (h : BlkT w b vs T) (hne : b ≠ c) (i : Nat) (u : Value) : BlkT (w.setCell ⟨c, i, none⟩ u) b vs T := (Below.heap_setCell w ⟨c, i, none⟩ u b hne).trans h
theorem BlkT.drew (h : BlkT w b vs T) : BlkT w.drew b vs T := h
theorem BlkT.own {α : Type} {R : Reader α} {base B n : Nat} {xs : List α} {cells : List Value} (h : BlkT w b cells.toArray T) (hf : Flat R w B xs cells) (hb : base ≤ b) (hn : xs.length = n) (hlen : n ≤ maxLen) : OwnR R T w base B (.slice (some ⟨b, 0, none⟩) n n) xs := by
 subst hn
 refine ⟨cells, ⟨hf.1, .inr ⟨b, xs.length, cells.toArray, rfl, hb, h, Nat.le_refl _, hlen, ?_, ?_⟩⟩, hf⟩
 · simp [hf.1]
 · simp
   exact List.take_of_length_le (by rw [hf.1]; exact Nat.le_refl _)
end
open Go.ChangeShapes Go.WideShapes Go.ChangeAt Go.RowKit
theorem OwnR.rows {w : World} {base n c : Nat} {A : Option Addr} {xs : List Ins} (h : OwnR InsR 239 w base 0 (.slice A n c) xs) (hn : xs.length ≤ 1000000) : RL InsR w w.heap.size xs A := by
 obtain ⟨A3, c3, e3, r1, r2, r3⟩ := h.reads (Nat.zero_le _) (by show xs.length * (8 * 7) ≤ _; omega)
 simp only [Value.slice.injEq] at e3
 obtain ⟨rfl, _, rfl⟩ := e3
 exact r3
theorem OwnR.low {w : World} {base b0 : Nat} {v : Value} {xs : List Ins} (h : OwnR InsR 239 w base 0 v xs) (hb : b0 ≤ base) : OwnR InsR 239 w b0 0 v xs := by
 obtain ⟨cells, h, hf⟩ := h
 refine ⟨cells, ⟨h.1, ?_⟩, hf⟩
 rcases h.2 with h2 | ⟨g, cap, cur, hv, hg, r⟩
 · exact .inl h2
 · exact .inr ⟨g, cap, cur, hv, Nat.le_trans hb hg, r⟩
open Go.ChangeShapes Go.WideShapes Go.ChangeAt Go.RowKit
def wfI (n : Nat) (i : Ins) : Prop := (i.kind = 2 → 0 ≤ i.x ∧ i.x ≤ n ∧ 0 ≤ i.y ∧ i.y ≤ n) ∧ (i.kind = 3 → 0 ≤ i.x ∧ i.x ≤ n)
def wfN (n : Nat) (l : List Ins) : Prop := ∀ i ∈ l, wfI n i
theorem wfI.mono {n m : Nat} {i : Ins} (h : wfI n i) (hn : n ≤ m) : wfI m i := ⟨fun k => by have := h.1 k; omega, fun k => by have := h.2 k; omega⟩
theorem wfN.mono {n m : Nat} {l : List Ins} (h : wfN n l) (hn : n ≤ m) : wfN m l := fun i hi => (h i hi).mono hn
theorem wfN.append {n : Nat} {a b : List Ins} (h : wfN n a) (k : wfN n b) : wfN n (a ++ b) := fun i hi => by
 rcases List.mem_append.1 hi with h1 | h1
 · exact h i h1
 · exact k i h1
theorem wfN.nil {n : Nat} : wfN n [] := fun _ h => by cases h
theorem wfN.one {n : Nat} {i : Ins} (h : wfI n i) : wfN n [i] := fun j hj => by
 rw [List.mem_singleton] at hj; subst hj; exact h
open Go.ChangeShapes Go.WideShapes Go.ChangeAt Go.RowKit
def insAt (l : List Ins) (i : Int) : Ins := l.getD i.toNat charI
def outsI (x : Ins) (i : Int) (first last : Bool) : List Int :=
 if x.kind = 2 then [x.x, x.y] else if x.kind = 3 then [x.x] else if (x.kind = 4 ∧ first = true) ∨ (x.kind = 5 ∧ last = true) then [i + 1] else []
def enterR (l : List Ins) (first last : Bool) : Nat → List Int → List Bool × Bool → List Bool × Bool
 | 0, _, st => st
 | _ + 1, [], st => st
 | n + 1, i :: todo, st =>
   if st.1.getD i.toNat false = true then enterR l first last n todo st
   else enterR l first last n (outsI (insAt l i) i first last ++ todo) (st.1.set i.toNat true, st.2 || decide ((insAt l i).kind = 6))
def entered (l : List Ins) (first last : Bool) (i : Int) (st : List Bool × Bool) : List Bool × Bool := enterR l first last (3 * l.length + 2) [i] st
open Go.ChangeShapes Go.WideShapes Go.ChangeAt Go.RowKit
section
variable {α : Type} {R : Reader α} {e T : TypeId} {w w' : World} {base B D : Nat} {v : Value} {xs : List α} {vs : Array Value}
theorem OwnR.ne (h : OwnR R e w base B v xs) (hD : BlkT w D vs T) (hT : T ≠ e) : v.ownBlock ≠ some D := by
 obtain ⟨cells, h, _⟩ := h
 rcases h.2 with ⟨h1, _⟩ | ⟨g, cap, cur, hv, hg, hh, r⟩
 · rw [h1]; simp [Value.ownBlock]
 · rw [hv]
   simp only [Value.ownBlock, ne_eq, Option.some.injEq]
   intro hgd
   subst hgd
   unfold BlkT at hD
   rw [hD] at hh
   simp only [Option.some.injEq, Obj.cells.injEq] at hh
   exact hT hh.2.1
theorem OwnR.farT (h : OwnR R e w base 0 v xs) (hD : BlkT w D vs T) (hT : T ≠ e) (i : Nat) (u : Value) : OwnR R e (w.setCell ⟨D, i, none⟩ u) base 0 v xs := by
 have hne := h.ne hD hT
 obtain ⟨cells, h, hf⟩ := h
 refine ⟨cells, ⟨h.1, ?_⟩, hf.keep ((Below.refl 0 w).setCell (p := ⟨D, i, none⟩) (Nat.zero_le _) u) (Nat.le_refl _)⟩
 rcases h.2 with h2 | ⟨g, cap, cur, hv, hg, hh, r⟩
 · exact .inl h2
 · refine .inr ⟨g, cap, cur, hv, hg, ?_, r⟩
   rw [hv] at hne
   simp only [Value.ownBlock, ne_eq, Option.some.injEq] at hne
   exact (Below.heap_setCell w ⟨D, i, none⟩ u g hne).trans hh
theorem BlkT.grown {row : Option Nat} (h : BlkT w D vs T) (hg : w.grownBy w' row) (hne : row ≠ some D) : BlkT w' D vs T := by
 exact (hg.block D h.blk.lt (Ne.symm hne)).trans h
end
def KeepsT (D : Nat) (w w' : World) : Prop := ∀ b vs T, T ≠ 3 → b ≠ D → BlkT w b vs T → BlkT w' b vs T
theorem KeepsT.trans {D : Nat} {a b c : World} (h : KeepsT D a b) (k : KeepsT D b c) : KeepsT D a c := fun x vs T h1 h2 h3 => k x vs T h1 h2 (h x vs T h1 h2 h3)
open Go.ChangeShapes Go.WideShapes Go.ChangeAt Go.RowKit
structure SV where
 t : Tm
 a : Option Addr
 c : Nat
def SV.cs (x : SV) : List Value := [.int .i64 x.t.kind, .int .i64 x.t.n, .string x.t.s, .slice x.a x.t.l.length x.c]
def SvR : Reader SV where
 k := 4
 rd := fun _ _ x vs => vs = x.cs
 keep := fun _ _ h => h
 wide := fun _ h => h
 len := fun h => by subst h; rfl
theorem single_sv : Single SvR := fun {w B x vs} h u hu => by
 obtain rfl : vs = x.cs := h
 simp only [SV.cs, List.mem_cons, List.not_mem_nil, or_false] at hu
 rcases hu with rfl | rfl | rfl | rfl <;> rfl
def TmAt (D : Nat) (w : World) (x : SV) : Prop := RTm w w.heap.size (D + 1) x.t x.cs ∧ ∀ u ∈ x.t.l, Leaf u
section
variable {D : Nat} {w w' : World} {x : SV}
theorem TmAt.keep (h : TmAt D w x) (hb : Below 0 w w') (he : ∀ a, x.a = some a → w'.heap[a.block]? = w.heap[a.block]?) : TmAt D w' x := by
 obtain ⟨⟨A, c, e, h1, h2, h3, h4, h5, h6⟩, hl⟩ := h
 simp only [SV.cs, List.cons.injEq, Value.slice.injEq, and_true, true_and] at e
 obtain ⟨rfl, rfl⟩ := e
 refine ⟨⟨x.a, x.c, rfl, h1, h2, h3, h4, h5, fun hn => ?_⟩, hl⟩
 obtain ⟨b, off, ha, hlt, hc⟩ := h6 hn
 refine ⟨b, off, ha, Nat.lt_of_lt_of_le hlt hb.size, fun i hi => ?_⟩
 obtain ⟨vs, hv, ⟨y, hy, hr⟩, hcell⟩ := hc i hi
 have hm : y ∈ x.t.l := List.mem_of_getElem? hy
 refine ⟨vs, hv, ⟨y, hy, ((leaf_rd (hl y hm) hr).below hb (Nat.le_refl _)).more (Nat.zero_le _)⟩, fun j u hj => ?_⟩
 have := he _ ha
 have h9 := hcell j u hj
 unfold World.cell? at h9 ⊢
 simp only at this h9 ⊢
 rw [this]
 exact h9
theorem TmAt.later (h : TmAt D w x) (hb : Below w.heap.size w w') : TmAt D w' x := ⟨(h.1.below hb (Nat.le_refl _)).more hb.size, h.2⟩
theorem TmAt.lt (h : TmAt D w x) {a : Addr} (ha : x.a = some a) (hn : 0 < x.t.l.length) : a.block < w.heap.size := by
 obtain ⟨⟨A, c, e, h1, h2, h3, h4, h5, h6⟩, hl⟩ := h
 simp only [SV.cs, List.cons.injEq, Value.slice.injEq, and_true, true_and] at e
 obtain ⟨rfl, rfl⟩ := e
 obtain ⟨b, off, he, hlt, _⟩ := h6 hn
 rw [ha] at he
 simp only [Option.some.injEq] at he
 rw [he]; exact hlt
end
structure StkE (S base D : Nat) (bn bt : Value) (w : World) (xs : List SV) (next : Int) (A : Option Addr) (c : Nat) : Prop where
 hd : BlkT w S #[bn, bt, .slice A xs.length c, .int .i64 next] 187
 own : OwnR SvR 44 w base 0 (.slice A xs.length c) xs
 tms : ∀ x ∈ xs, TmAt D w x
 sep : ∀ x ∈ xs, ∀ a, x.a = some a → a.block ≠ S ∧ ∀ b, A = some b → a.block ≠ b.block
 lt : ∀ x ∈ xs, ∀ a, x.a = some a → base ≤ a.block ∧ a.block < w.heap.size
theorem s_ne : (187 : TypeId) ≠ 44 := by decide
section
variable {S base D c : Nat} {bn bt : Value} {w w' : World} {xs : List SV} {next : Int} {A : Option Addr}
theorem StkE.later (h : StkE S base D bn bt w xs next A c) (hb : Below w.heap.size w w') : StkE S base D bn bt w' xs next A c :=
 ⟨h.hd.later hb, h.own.later hb (Nat.zero_le _), fun x hx => (h.tms x hx).later hb, h.sep, fun x hx a ha => ⟨(h.lt x hx a ha).1, Nat.lt_of_lt_of_le (h.lt x hx a ha).2 hb.size⟩⟩
theorem StkE.head (h : StkE S base D bn bt w xs next A c) (next' : Int) : StkE S base D bn bt (w.setCell ⟨S, 3, none⟩ (.int .i64 next')) xs next' A c := by
 refine ⟨h.hd.set_ 3 _, h.own.farT h.hd s_ne 3 _, fun x hx => (h.tms x hx).keep ((Below.refl 0 w).setCell (p := ⟨S, 3, none⟩) (Nat.zero_le _) _) fun a ha => ?_, h.sep, fun x hx a ha => by rw [World.size_setCell]; exact h.lt x hx a ha⟩
 exact Below.heap_setCell w ⟨S, 3, none⟩ _ a.block (h.sep x hx a ha).1
end
theorem Exc.head {S : Nat} {w : World} (i : Nat) (v : Value) : Exc S w (w.setCell ⟨S, i, none⟩ v) := (Exc.refl S w).set i v
end Go.Proofs.YtkdonhhbpacgmaaGreat
