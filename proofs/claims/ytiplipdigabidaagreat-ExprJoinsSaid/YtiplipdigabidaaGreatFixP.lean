/- What a fixed term is made of. -/
import Derived.Test.YtiplipdigabidaaGreatSingle
import Derived.Test.YtiplipdigabidaaGreatHeap1
import Derived.Test.YtiplipdigabidaaGreatRegLaw
import Derived.Laws.MakeOwn
import Derived.Test.YtiplipdigabidaaGreatSet
import Derived.Test.YtiplipdigabidaaGreatOrd
set_option linter.unusedVariables false
set_option linter.unusedSimpArgs false
namespace Go.Proofs.YtiplipdigabidaaGreat
open Go.ChangeShapes Go.WideShapes Go.ChangeAt Go.RowKit
section
variable {α : Type} {R : Reader α} {e : TypeId} {w : World} {base B : Nat} {v : Value} {xs : List α} {A : Option Addr} {c : Nat}
theorem addr_add (b off j : Nat) : (⟨b, off, none⟩ : Addr).add j = ⟨b, off + j, none⟩ := by
 unfold Addr.add
 split
 · rename_i h; subst h; rfl
 · rfl
theorem OwnR.src (h : OwnR R e w base B (.slice A xs.length c) xs) : SrcR R w B A xs := by
 obtain ⟨cells, h, hf⟩ := h
 rcases h.2 with ⟨h1, h2⟩ | ⟨g, cap, cur, hv, hg, hh, k1, k2, k3, k4⟩
 · have : xs = [] := List.eq_nil_of_length_eq_zero h2
   subst this
   refine ⟨[], Flat.nil, fun _ => rfl, fun a _ j u hu => by simp at hu⟩
 · simp only [Value.slice.injEq] at hv
   obtain ⟨rfl, _, rfl⟩ := hv
   refine ⟨cells, hf, fun e => (by cases e), fun a ha j u hu => ?_⟩
   simp only [Option.some.injEq] at ha
   subst ha
   rw [← k4, List.getElem?_take] at hu
   split at hu
   · rw [addr_add]
     show w.cell? ⟨g, 0 + j, none⟩ = _
     rw [cell_of_row w g _ cur e (0, 0) hh, Nat.zero_add]
     simpa using hu
   · cases hu
theorem Flat.take {news : List Value} (h : Flat R w B xs news) (k : Nat) : Flat R w B (xs.take k) (news.take (k * R.k)) := by
 refine ⟨?_, fun i hi => ?_⟩
 · rw [List.length_take, List.length_take, h.1]
   rcases Nat.le_total k xs.length with hk | hk
   · rw [Nat.min_eq_left hk, Nat.min_eq_left (Nat.mul_le_mul_right _ hk)]
   · rw [Nat.min_eq_right hk, Nat.min_eq_right (Nat.mul_le_mul_right _ hk)]
 · rw [List.length_take] at hi
   have hik : i < k := by omega
   have h1 : (i + 1) * R.k ≤ k * R.k := Nat.mul_le_mul_right _ hik
   rw [Nat.add_mul, Nat.one_mul] at h1
   have := h.2 i (by omega)
   rw [List.getElem_take, List.drop_take, List.take_take, Nat.min_eq_left (by omega)]
   exact this
theorem Flat.drop {news : List Value} (h : Flat R w B xs news) (k : Nat) : Flat R w B (xs.drop k) (news.drop (k * R.k)) := by
 refine ⟨?_, fun i hi => ?_⟩
 · rw [List.length_drop, List.length_drop, h.1, Nat.sub_mul]
 · rw [List.length_drop] at hi
   have := h.2 (k + i) (by omega)
   rw [List.getElem_drop, List.drop_drop]
   rw [show k * R.k + i * R.k = (k + i) * R.k by rw [Nat.add_mul]]
   exact this
theorem SrcR.take (h : SrcR R w B A xs) (k : Nat) : SrcR R w B A (xs.take k) := by
 obtain ⟨cells, hf, h1, h2⟩ := h
 refine ⟨_, hf.take k, fun e => (by rw [h1 e]; simp), fun a ha j u hu => ?_⟩
 rw [List.getElem?_take] at hu
 split at hu
 · exact h2 a ha j u hu
 · cases hu
theorem SrcR.drop {b off : Nat} (h : SrcR R w B (some ⟨b, off, none⟩) xs) (k : Nat) : SrcR R w B (some ⟨b, off + k * R.k, none⟩) (xs.drop k) := by
 obtain ⟨cells, hf, h1, h2⟩ := h
 refine ⟨_, hf.drop k, fun e => (by cases e), fun a ha j u hu => ?_⟩
 rw [List.getElem?_drop] at hu
 simp only [Option.some.injEq] at ha
 subst ha
 have := h2 _ rfl _ _ hu
 rw [addr_add] at this ⊢
 rw [Nat.add_assoc]; exact this
theorem SrcR.none {A : Option Addr} {ys : List α} (h : ys = []) : SrcR R w B A ys := by
 subst h; exact ⟨[], Flat.nil, fun _ => rfl, fun a _ j u hu => by simp at hu⟩
end
theorem ne_none {k n c : Nat} : some k ≠ (Value.slice none n c).ownBlock := fun e => by cases e
section
variable {α : Type} {c : α → α → Int} {t : α}
theorem insL_at : ∀ {xs : List α} {k : Nat}, k ≤ xs.length → (∀ j (h : j < k) (h' : j < xs.length), c xs[j] t < 0) → insL c t xs = xs.take k ++ insL c t (xs.drop k)
 | _, 0, _, _ => by simp
 | [], k + 1, h, _ => by simp at h
 | x :: xs, k + 1, h, hj => by
   have h0 : c x t < 0 := hj 0 (by omega) (by simp)
   rw [insL, if_pos h0, List.take_succ_cons, List.drop_succ_cons, List.cons_append]
   rw [insL_at (xs := xs) (k := k) (by simpa using h) (fun j h1 h2 => hj (j + 1) (by omega) (by simpa using h2))]
theorem insL_end {xs : List α} {k : Nat} (hk : xs.length ≤ k) (hj : ∀ j (h : j < k) (h' : j < xs.length), c xs[j] t < 0) : insL c t xs = xs ++ [t] := by
 have := insL_at (c := c) (t := t) (xs := xs) (k := xs.length) (Nat.le_refl _) (fun j h h' => hj j (by omega) h')
 rw [this, List.take_length, List.drop_length]; rfl
theorem insL_same {xs : List α} {k : Nat} {y : α} (hy : xs[k]? = some y) (hj : ∀ j (h : j < k) (h' : j < xs.length), c xs[j] t < 0) (h0 : c y t = 0) : insL c t xs = xs := by
 obtain ⟨hk, e⟩ := List.getElem?_eq_some_iff.1 hy
 rw [insL_at (k := k) (by omega) hj, List.drop_eq_getElem_cons hk, e, insL, if_neg (by omega), if_pos h0, ← e, ← List.drop_eq_getElem_cons hk, List.take_append_drop]
theorem insL_new {xs : List α} {k : Nat} {y : α} (hy : xs[k]? = some y) (hj : ∀ j (h : j < k) (h' : j < xs.length), c xs[j] t < 0) (h0 : ¬ c y t < 0) (h1 : c y t ≠ 0) : insL c t xs = xs.take k ++ [t] ++ xs.drop k := by
 obtain ⟨hk, e⟩ := List.getElem?_eq_some_iff.1 hy
 rw [insL_at (k := k) (by omega) hj, List.drop_eq_getElem_cons hk, e, insL, if_neg h0, if_neg h1]
 simp
theorem insL_end' {xs : List α} {k : Nat} (hk : k = xs.length) (hj : ∀ j (h : j < k) (h' : j < xs.length), c xs[j] t < 0) : insL c t xs = xs.take k ++ [t] ++ xs.drop k := by
 subst hk
 rw [insL_end (Nat.le_refl _) hj]; simp
theorem insL_le {xs : List α} : (insL c t xs).length ≤ xs.length + 1 := by
 induction xs with
 | nil => simp [insL]
 | cons x xs ih => unfold insL; split <;> (try split) <;> simp <;> omega
end
open Go.ChangeShapes Go.WideShapes Go.ChangeAt Go.RowKit
def insC (i : Ins) : List Value := [.int .i64 i.kind, .int .u64 i.a, .int .u64 i.b, .int .u64 i.c, .int .u64 i.d, .int .i64 i.x, .int .i64 i.y]
def InsR : Reader Ins where
 k := 7
 rd := fun _ _ i vs => vs = insC i
 keep := fun _ _ h => h
 wide := fun _ h => h
 len := fun h => by subst h; rfl
theorem single_in : Single InsR := fun {w B x vs} h u hu => by
 obtain rfl : vs = insC x := h
 simp only [insC, List.mem_cons, List.not_mem_nil, or_false] at hu
 rcases hu with rfl | rfl | rfl | rfl | rfl | rfl | rfl <;> rfl
theorem infoIn : (Tryz.prog.info? 166).map (fun i => (i.zero, i.size, i.bytes)) = some (some (.agg #[.int .i64 0, .int .u64 0, .int .u64 0, .int .u64 0, .int .u64 0, .int .i64 0, .int .i64 0]), 7, 56) := by kernel_rfl
def flatI : List Ins → List Value
 | [] => []
 | i :: l => insC i ++ flatI l
theorem flatI_length : ∀ l : List Ins, (flatI l).length = l.length * 7
 | [] => rfl
 | i :: l => by simp [flatI, flatI_length l, insC]; omega
theorem flatI_get : ∀ (l : List Ins) (k : Nat) (i : Ins) (j : Nat), l[k]? = some i → j < 7 → (flatI l)[k * 7 + j]? = (insC i)[j]?
 | [], k, i, j, h, _ => by simp at h
 | a :: l, 0, i, j, h, hj => by
   simp only [List.getElem?_cons_zero, Option.some.injEq] at h
   subst h
   rw [flatI, List.getElem?_append_left (by simp [insC]; omega)]
   simp
 | a :: l, k + 1, i, j, h, hj => by
   rw [flatI, List.getElem?_append_right (by simp [insC]; omega)]
   have e : (k + 1) * 7 + j - (insC a).length = k * 7 + j := by simp [insC]; omega
   rw [e]
   exact flatI_get l k i j (by simpa using h) hj
theorem flatI_flat (w : World) (B : Nat) : ∀ l : List Ins, Flat InsR w B l (flatI l)
 | [] => Flat.nil
 | i :: l => Flat.append (xs := [i]) (Flat.one (R := InsR) rfl) (flatI_flat w B l)
theorem flatI_put (l : List Ins) (k : Nat) (i : Ins) (hk : k < l.length) :
   (((((((flatI l).set (k * 7) (.int .i64 i.kind)).set (k * 7 + 1) (.int .u64 i.a)).set (k * 7 + 2) (.int .u64 i.b)).set (k * 7 + 3) (.int .u64 i.c)).set (k * 7 + 4) (.int .u64 i.d)).set (k * 7 + 5) (.int .i64 i.x)).set (k * 7 + 6) (.int .i64 i.y) = flatI (l.set k i) := by
 induction l generalizing k with
 | nil => simp at hk
 | cons a l ih =>
   cases k with
   | zero => simp [flatI, insC]
   | succ k =>
     have := ih k (by simpa using hk)
     rw [List.set_cons_succ, flatI, flatI, ← this]
     have e : ∀ (j : Nat) (v : Value) (m : List Value), (insC a ++ m).set ((k + 1) * 7 + j) v = insC a ++ m.set (k * 7 + j) v := by
       intro j v m
       rw [List.set_append_right _ _ (by simp [insC]; omega)]
       congr 2
       simp [insC]; omega
     have e0 := e 0
     simp only [Nat.add_zero] at e0
     rw [e0, e, e, e, e, e, e]
def zeroI : Ins := ⟨0, 0, 0, 0, 0, 0, 0⟩
theorem made_zeros (n : Nat) : madeCells #[.int .i64 0, .int .u64 0, .int .u64 0, .int .u64 0, .int .u64 0, .int .i64 0, .int .i64 0] (n * 7) = (flatI (List.replicate n zeroI)).toArray := by
 apply Array.ext'
 apply List.ext_getElem?
 intro q
 by_cases hq : q < n * 7
 · have h1 : (flatI (List.replicate n zeroI))[q / 7 * 7 + q % 7]? = (insC zeroI)[q % 7]? := flatI_get _ _ _ _ (by rw [List.getElem?_replicate, if_pos (by omega)]) (by omega)
   have e : q / 7 * 7 + q % 7 = q := by omega
   rw [e] at h1
   rw [h1]
   have h2 : q % 7 = 0 ∨ q % 7 = 1 ∨ q % 7 = 2 ∨ q % 7 = 3 ∨ q % 7 = 4 ∨ q % 7 = 5 ∨ q % 7 = 6 := by omega
   have h3 : (madeCells #[.int .i64 0, .int .u64 0, .int .u64 0, .int .u64 0, .int .u64 0, .int .i64 0, .int .i64 0] (n * 7)).toList[q]? = some ((#[.int .i64 0, .int .u64 0, .int .u64 0, .int .u64 0, .int .u64 0, .int .i64 0, .int .i64 0] : Array Value)[q % 7]!) := by
     have hs : q < (madeCells #[.int .i64 0, .int .u64 0, .int .u64 0, .int .u64 0, .int .u64 0, .int .i64 0, .int .i64 0] (n * 7)).toList.length := by rw [Array.length_toList, size_madeCells]; exact hq
     rw [List.getElem?_eq_getElem hs]
     simp [madeCells]
   rw [h3]
   rcases h2 with h | h | h | h | h | h | h <;> (rw [h]; rfl)
 · rw [List.getElem?_eq_none (by rw [Array.length_toList, size_madeCells]; omega), List.getElem?_eq_none (by show (flatI _).length ≤ q; rw [flatI_length]; simp; omega)]
def BlkT (w : World) (b : Nat) (vs : Array Value) (T : TypeId) : Prop := w.heap[b]? = some (.cells vs T (0, 0))
section
variable {w w' : World} {b c : Nat} {vs : Array Value} {T : TypeId}
theorem BlkT.blk (h : BlkT w b vs T) : Blk w b vs := ⟨T, h⟩
theorem BlkT.keep {B : Nat} (h : BlkT w b vs T) (hb : Below B w w') (hB : b < B) : BlkT w' b vs T := (hb.block b hB).trans h
theorem BlkT.later (h : BlkT w b vs T) (hb : Below w.heap.size w w') : BlkT w' b vs T := h.keep hb h.blk.lt
theorem BlkT.set_ (h : BlkT w b vs T) (i : Nat) (u : Value) : BlkT (w.setCell ⟨b, i, none⟩ u) b (vs.setIfInBounds i u) T := by
 unfold BlkT at h ⊢
 simp [World.setCell, Array.getElem?_modify, h]
theorem BlkT.far (h : BlkT w b vs T) (hne : b ≠ c) (i : Nat) (u : Value) : BlkT (w.setCell ⟨c, i, none⟩ u) b vs T := (Below.heap_setCell w ⟨c, i, none⟩ u b hne).trans h
theorem BlkT.drew (h : BlkT w b vs T) : BlkT w.drew b vs T := h
theorem BlkT.own {α : Type} {R : Reader α} {base B n : Nat} {xs : List α} {cells : List Value} (h : BlkT w b cells.toArray T) (hf : Flat R w B xs cells) (hb : base ≤ b) (hn : xs.length = n) (hlen : n ≤ maxLen) : OwnR R T w base B (.slice (some ⟨b, 0, none⟩) n n) xs := by
 subst hn
 refine ⟨cells, ⟨hf.1, .inr ⟨b, xs.length, cells.toArray, rfl, hb, h, Nat.le_refl _, hlen, ?_, ?_⟩⟩, hf⟩
 · simp [hf.1]
 · simp
   exact List.take_of_length_le (by rw [hf.1]; exact Nat.le_refl _)
end
def ListE (w w' : World) (l : List Ins) (e : Ending) : Prop := (∃ A c, e = .returned (.slice A l.length c) ∧ OwnR InsR 166 w' w.heap.size 0 (.slice A l.length c) l) ∧ Below w.heap.size w w'
theorem make_ins (n : Nat) (hn : n ≤ 1000000) (w : World) : (Instr.makeSlice 139 (.int .i64 (n : Int)) (.int .i64 (n : Int))).run Tryz.prog w = .ok (.slice (some ⟨w.heap.size, 0, none⟩) n n) (w.alloc (.cells (flatI (List.replicate n zeroI)).toArray 166)) := by
 obtain ⟨i0, hi0, hz0, hz1, hz2⟩ := info_parts infoIn
 have hr := run_make (P := Tryz.prog) w 139 166 i0 _ Tryz.underlying139 hi0 hz0 .i64 .i64 n n (by omega) (Int.le_refl _) (by rw [hz2]; omega) (by omega)
 simp only [Int.toNat_natCast] at hr
 rw [hz1] at hr
 rw [hr, ← made_zeros]
 rfl
theorem put7' {w : World} {g k : Nat} {l : List Ins} {T : TypeId} (h : BlkT w g (flatI l).toArray T) {i : Ins} {kd a b c d x y : Int} (hi : i = ⟨kd, a, b, c, d, x, y⟩) (hk : k < l.length) :
   BlkT (((((((w.setCell ⟨g, k * 7, none⟩ (.int .i64 kd)).setCell ⟨g, k * 7 + 1, none⟩ (.int .u64 a)).setCell ⟨g, k * 7 + 2, none⟩ (.int .u64 b)).setCell ⟨g, k * 7 + 3, none⟩ (.int .u64 c)).setCell ⟨g, k * 7 + 4, none⟩ (.int .u64 d)).setCell ⟨g, k * 7 + 5, none⟩ (.int .i64 x)).setCell ⟨g, k * 7 + 6, none⟩ (.int .i64 y)) g (flatI (l.set k i)).toArray T := by
 have e := flatI_put l k ⟨kd, a, b, c, d, x, y⟩ hk
 simp only at e
 subst hi
 have := ((((((h.set_ (k * 7) (.int .i64 kd)).set_ (k * 7 + 1) (.int .u64 a)).set_ (k * 7 + 2) (.int .u64 b)).set_ (k * 7 + 3) (.int .u64 c)).set_ (k * 7 + 4) (.int .u64 d)).set_ (k * 7 + 5) (.int .i64 x)).set_ (k * 7 + 6) (.int .i64 y)
 simp only [List.setIfInBounds_toArray] at this
 rw [e] at this
 exact this
theorem below7 {w w2 : World} {B g : Nat} (h : Below B w w2) (hg : B ≤ g) {i0 i1 i2 i3 i4 i5 i6 : Nat} (v0 v1 v2 v3 v4 v5 v6 : Value) :
   Below B w (((((((w2.setCell ⟨g, i0, none⟩ v0).setCell ⟨g, i1, none⟩ v1).setCell ⟨g, i2, none⟩ v2).setCell ⟨g, i3, none⟩ v3).setCell ⟨g, i4, none⟩ v4).setCell ⟨g, i5, none⟩ v5).setCell ⟨g, i6, none⟩ v6) :=
 ((((((h.setCell (p := ⟨g, i0, none⟩) hg v0).setCell (p := ⟨g, i1, none⟩) hg v1).setCell (p := ⟨g, i2, none⟩) hg v2).setCell (p := ⟨g, i3, none⟩) hg v3).setCell (p := ⟨g, i4, none⟩) hg v4).setCell (p := ⟨g, i5, none⟩) hg v5).setCell (p := ⟨g, i6, none⟩) hg v6
theorem moved_step {l : List Ins} {k : Nat} {i : Ins} {by_ : Int} (h : l[k]? = some i) : ((movedL (l.take k) by_ ++ List.replicate (l.length - k) zeroI).set k (movedI by_ i)) = movedL (l.take (k + 1)) by_ ++ List.replicate (l.length - (k + 1)) zeroI := by
 obtain ⟨hk, e⟩ := List.getElem?_eq_some_iff.1 h
 have hl : (movedL (l.take k) by_).length = k := by rw [moved_length, List.length_take]; omega
 obtain ⟨m, hm⟩ : ∃ m, l.length - k = m + 1 := ⟨l.length - k - 1, by omega⟩
 have hm2 : l.length - (k + 1) = m := by omega
 rw [hm, hm2, List.set_append_right _ _ (by omega), hl, Nat.sub_self, List.replicate_succ, List.set_cons_zero, List.take_succ_eq_append_getElem hk, e]
 simp [movedL]
set_option maxRecDepth 100000 in
set_option maxHeartbeats 1000000 in
theorem moved_any {B c : Nat} {l : List Ins} {A : Option Addr} {k0 : Int} {w : World} (hl : RL InsR w B l A) (hB : B ≤ w.heap.size) (hn : l.length ≤ 1000000) :
   Calls Tryz.prog 172 #[.slice A l.length c, .int .i64 k0] w fun e w' => ListE w w' (movedL l k0) e := by
 have HL := Lib.hid hl
 have HN := Lib.hid hn
 have hmk := fun w => make_ins l.length hn w
 clear hl
 go_enter Tryz.func172, Tryz.ntmps172
 go_wp2_with fail
 generalize hW : World.alloc _ _ = w1
 obtain ⟨hb, hz⟩ := al1 hW
 have bo := Lib.hid (show BlkT w1 w.heap.size (flatI (List.replicate l.length zeroI)).toArray 166 from hW ▸ heap_alloc_new w _)
 have HB1 := Lib.hid hb
 clear hW hz hb hmk
 go_loopw [13] (fun i wr => ∃ k : Nat, k ≤ l.length ∧ i = .int .i64 k ∧ Hid (Below w.heap.size w wr) ∧ w.heap.size < wr.heap.size ∧ Hid (BlkT wr w.heap.size (flatI (movedL (l.take k) k0 ++ List.replicate (l.length - k) zeroI)).toArray 166)) (fun i _ => l.length - (intOf i).toNat)
 case atStart => exact ⟨0, Nat.zero_le _, rfl, HB1, bo.out.blk.lt, by simpa [movedL] using bo⟩
 case round =>
   obtain ⟨k, hk, rfl, HBW, hsz, HI⟩ := hrel
   by_cases hlt : k < l.length
   · have HLr := Lib.hid (HL.out.keep HBW.out hB)
     have hBr : B ≤ wr.heap.size := by omega
     obtain ⟨b_, off, rfl, hob⟩ := HLr.out.base (Below.refl _ _) hBr (by omega)
     obtain ⟨x, vs, hx, hlen, hcell, hr⟩ := HLr.out.at_ (Below.refl _ _) hBr hlt
     obtain rfl : vs = insC x := hr
     have c0 : wr.cell? ⟨b_, off + k * 7, none⟩ = some (.int .i64 x.kind) := hcell 0 _ rfl
     have c1 : wr.cell? ⟨b_, off + k * 7 + 1, none⟩ = some (.int .u64 x.a) := hcell 1 _ rfl
     have c2 : wr.cell? ⟨b_, off + k * 7 + 2, none⟩ = some (.int .u64 x.b) := hcell 2 _ rfl
     have c3 : wr.cell? ⟨b_, off + k * 7 + 3, none⟩ = some (.int .u64 x.c) := hcell 3 _ rfl
     have c4 : wr.cell? ⟨b_, off + k * 7 + 4, none⟩ = some (.int .u64 x.d) := hcell 4 _ rfl
     have c5 : wr.cell? ⟨b_, off + k * 7 + 5, none⟩ = some (.int .i64 x.x) := hcell 5 _ rfl
     have c6 : wr.cell? ⟨b_, off + k * 7 + 6, none⟩ = some (.int .i64 x.y) := hcell 6 _ rfl
     have HX := Lib.hid hx
     have hG := HI.out.blk.cell
     have fG := HI.out.blk.free
     have hzk : (movedL (l.take k) k0 ++ List.replicate (l.length - k) zeroI)[k]? = some zeroI := by
       have hl : (movedL (l.take k) k0).length = k := by rw [moved_length, List.length_take]; omega
       rw [List.getElem?_append_right (by omega), hl, Nat.sub_self, List.getElem?_replicate, if_pos (by omega)]
     have gz : ∀ j, j < 7 → wr.cell? ⟨w.heap.size, k * 7 + j, none⟩ = (insC zeroI)[j]? := fun j hj => (hG (k * 7 + j)).trans ((List.getElem?_toArray).trans (flatI_get _ k zeroI j hzk hj))
     have g0 : wr.cell? ⟨w.heap.size, k * 7, none⟩ = some (.int .i64 0) := gz 0 (by omega)
     have g1 : wr.cell? ⟨w.heap.size, k * 7 + 1, none⟩ = some (.int .u64 0) := gz 1 (by omega)
     have g2 : wr.cell? ⟨w.heap.size, k * 7 + 2, none⟩ = some (.int .u64 0) := gz 2 (by omega)
     have g3 : wr.cell? ⟨w.heap.size, k * 7 + 3, none⟩ = some (.int .u64 0) := gz 3 (by omega)
     have g4 : wr.cell? ⟨w.heap.size, k * 7 + 4, none⟩ = some (.int .u64 0) := gz 4 (by omega)
     have g5 : wr.cell? ⟨w.heap.size, k * 7 + 5, none⟩ = some (.int .i64 0) := gz 5 (by omega)
     have g6 : wr.cell? ⟨w.heap.size, k * 7 + 6, none⟩ = some (.int .i64 0) := gz 6 (by omega)
     have HS : Hid ((movedL (l.take k) k0 ++ List.replicate (l.length - k) zeroI).set k (movedI k0 x) = movedL (l.take (k + 1)) k0 ++ List.replicate (l.length - (k + 1)) zeroI) := Lib.hid (moved_step HX.out)
     have HLN : Hid (k < (movedL (l.take k) k0 ++ List.replicate (l.length - k) zeroI).length) := Lib.hid (by rw [List.length_append, moved_length, List.length_take, List.length_replicate]; omega)
     clear hG hzk gz
     generalize movedL (l.take k) k0 ++ List.replicate (l.length - k) zeroI = cur at *
     have hkind : x.kind = 2 ∨ x.kind ≠ 2 ∧ x.kind = 3 ∨ x.kind ≠ 2 ∧ x.kind ≠ 3 := by omega
     rcases hkind with h2 | ⟨h2, h3⟩ | ⟨h2, h3⟩
     · have HM : Hid (movedI k0 x = ⟨x.kind, x.a, x.b, x.c, x.d, wrap64 (x.x + k0), wrap64 (x.y + k0)⟩) := Lib.hid (by unfold movedI; rw [if_pos h2])
       have hq2 : (x.kind == 2) = true := by simpa using h2
       clear h2
       go_wp2_with fail
       go_roundw
       case rel =>
         have hp := put7' HI.out HM.out HLN.out
         rw [HS.out] at hp
         exact ⟨k + 1, by omega, by go_num, Lib.hid ((below7 HBW.out (Nat.le_refl _) _ _ _ _ _ _ _).alloc (by simp only [World.size_setCell]; omega) _), by simp only [World.size_setCell, World.size_alloc]; omega, Lib.hid (hp.later ((Below.refl _ _).alloc (Nat.le_refl _) _))⟩
       case measure => simp [intOf]; omega
     · have HM : Hid (movedI k0 x = ⟨x.kind, x.a, x.b, x.c, x.d, wrap64 (x.x + k0), x.y⟩) := Lib.hid (by unfold movedI; rw [if_neg h2, if_pos h3])
       have hq2 : (x.kind == 2) = false := by simpa using h2
       have hq3 : (x.kind == 3) = true := by simpa using h3
       clear h2 h3
       go_wp2_with fail
       go_roundw
       case rel =>
         have hp := put7' HI.out HM.out HLN.out
         rw [HS.out] at hp
         exact ⟨k + 1, by omega, by go_num, Lib.hid ((below7 HBW.out (Nat.le_refl _) _ _ _ _ _ _ _).alloc (by simp only [World.size_setCell]; omega) _), by simp only [World.size_setCell, World.size_alloc]; omega, Lib.hid (hp.later ((Below.refl _ _).alloc (Nat.le_refl _) _))⟩
       case measure => simp [intOf]; omega
     · have HM : Hid (movedI k0 x = x) := Lib.hid (by unfold movedI; rw [if_neg h2, if_neg h3])
       have hq2 : (x.kind == 2) = false := by simpa using h2
       have hq3 : (x.kind == 3) = false := by simpa using h3
       clear h2 h3
       go_wp2_with fail
       go_roundw
       case rel =>
         have hp := put7' HI.out HM.out HLN.out
         rw [HS.out] at hp
         exact ⟨k + 1, by omega, by go_num, Lib.hid ((below7 HBW.out (Nat.le_refl _) _ _ _ _ _ _ _).alloc (by simp only [World.size_setCell]; omega) _), by simp only [World.size_setCell, World.size_alloc]; omega, Lib.hid (hp.later ((Below.refl _ _).alloc (Nat.le_refl _) _))⟩
       case measure => simp [intOf]; omega
   · have HE : Hid (movedL (l.take k) k0 ++ List.replicate (l.length - k) zeroI = movedL l k0) := Lib.hid (by rw [List.take_of_length_le (by omega), show l.length - k = 0 by omega]; simp)
     rw [HE.out] at HI
     go_wp2_with fail
     go_ret
     have ho := HI.out.own (R := InsR) (base := w.heap.size) (B := 0) (flatI_flat wr 0 (movedL l k0)) (Nat.le_refl _) (moved_length l k0) (by unfold maxLen; omega)
     refine ⟨⟨some ⟨w.heap.size, 0, none⟩, l.length, ?_, ?_⟩, HBW.out⟩
     · rw [moved_length]; rfl
     · rw [moved_length]; exact ho
open Go.ChangeShapes Go.WideShapes Go.ChangeAt Go.RowKit
theorem below_new {w W : World} {o : Obj} (h : w.alloc o = W) : Below w.heap.size w W := (al1 h).1
theorem fixed_parts {t : Tm} (h : fixedB t = true) : if t.kind = 7 then t.n = 0 ∧ t.s.size = 0 ∧ risingB t.l = true else t.l = [] := by
 unfold fixedB mayB at h
 rw [Bool.and_eq_true] at h
 by_cases h7 : t.kind = 7
 · rw [if_pos h7] at h ⊢
   have h2 := h.2
   simp only [Bool.and_eq_true, decide_eq_true_eq] at h2
   exact ⟨h2.1.1, h2.1.2, h2.2⟩
 · rw [if_neg h7] at h ⊢
   exact flatMay_leaf h.2
theorem rising_parts {l : List Tm} (h : risingB l = true) : l.length ≤ 16 ∧ ∀ x ∈ l, Leaf x := by
 unfold risingB at h
 rw [Bool.and_eq_true, List.all_eq_true, decide_eq_true_eq] at h
 refine ⟨h.2, fun x hx => ?_⟩
 obtain ⟨i, hi, rfl⟩ := List.getElem_of_mem hx
 have := h.1 i (List.mem_range.2 hi)
 unfold riseAt at this
 rw [List.getElem?_eq_getElem hi, List.getElem?_eq_getElem (show 0 < l.length by omega), List.getElem?_eq_getElem (show i - 1 < l.length by omega)] at this
 simp only [Bool.and_eq_true] at this
 exact flatMay_leaf this.1.1.1
end Go.Proofs.YtiplipdigabidaaGreat
