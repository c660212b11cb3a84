/- term.Set. -/
import Derived.Test.YtkdonhhbpacgmaaGreatExc
import Derived.Test.YtkdonhhbpacgmaaGreatShelf
import Derived.Laws.Cover3
set_option linter.unusedVariables false
set_option linter.unusedSimpArgs false
namespace Go.Proofs.YtkdonhhbpacgmaaGreat
open Go.ChangeShapes Go.WideShapes Go.ChangeAt Go.RowKit
theorem eql_slice_nil {P : Program} (t e : TypeId) (a : Addr) (l c : Nat) (h : P.underlying t = some (.slice e)) (w : World) : (binOp .eql t (.slice (some a) l c) (.slice none 0 0)).run P w = .ok (.bool false) w := by
 simp only [binOp]
 simp [run_equal_slice_nil w t e (some a) l c h]
theorem eql_none_nil {P : Program} (t e : TypeId) (l c : Nat) (h : P.underlying t = some (.slice e)) (w : World) : (binOp .eql t (.slice none l c) (.slice none 0 0)).run P w = .ok (.bool true) w := by
 simp only [binOp]
 simp [run_equal_slice_nil w t e none l c h]
def sameB (a b : Tm) : Bool := decide (cmpT 3 a b = 0)
set_option maxRecDepth 100000 in
set_option maxHeartbeats 1000000 in
theorem same_any {d d' B : Nat} {a b : Tm} {vs ws : List Value} {w : World} (ha : RTm w B d a vs) (hb : RTm w B d' b ws) (hB : B ≤ w.heap.size) :
   Calls Tryz.prog 52 #[.agg vs.toArray, .agg ws.toArray] w fun e w' => e = .returned (.bool (sameB a b)) ∧ Below w.heap.size w w' := by
 have HA := Lib.hid ha
 have HB_ := Lib.hid hb
 obtain ⟨A, c, rfl, _⟩ := ha.cells
 obtain ⟨A', c', rfl, _⟩ := hb.cells
 clear ha hb
 go_enter Tryz.func52, Tryz.ntmps52
 go_wp2_with fail
 generalize hW : World.alloc _ _ = w1
 obtain ⟨hb, hz⟩ := al2 hW
 have HB1 := Lib.hid hb
 clear hW hz hb
 refine (compare_any d d' a b [_, _, _, _] [_, _, _, _] B w1 (HA.out.below HB1.out hB) (HB_.out.below HB1.out hB) (Nat.le_trans hB HB1.out.size)).mono ?_
 rintro e w2 ⟨rfl, hb⟩
 have HB2 := Lib.hid (bthen HB1.out hb)
 clear hb
 go_wp2_with fail
 go_ret
 exact ⟨rfl, HB2.out⟩
set_option maxRecDepth 100000 in
set_option maxHeartbeats 1000000 in
theorem cloneTm_any {d B c : Nat} {xs : List Tm} {A : Option Addr} {w : World} (hl : RL (TmR d) w B xs A) (hB : B ≤ w.heap.size) (hn : xs.length * 56 ≤ 140737488351232) :
   Calls Tryz.prog 57 #[.slice A xs.length c] w fun e w' => (∃ v, e = .returned v ∧ OwnR (TmR d) 44 w' w.heap.size B v xs) ∧ Below w.heap.size w w' := by
 obtain ⟨i0, hi0, hz0, hz1, hz2⟩ := info_parts infoTm
 have hsrc := Lib.hid (hl.keep ((Below.refl w.heap.size w).alloc (Nat.le_refl _) (.cells #[] 44)) hB).src
 have hown := Lib.hid (OwnR.empty (base := w.heap.size) (TmR d) 44 (w := w.alloc (.cells #[] 44)) (b := w.heap.size) (heap_alloc_new w _) (Nat.le_refl _) B)
 have HA := Lib.hid ((Below.refl w.heap.size w).alloc (Nat.le_refl _) (.cells #[] 44))
 rcases A with _ | a
 · have h0 : xs = [] := by
     rcases xs with _ | ⟨x, xs⟩
     · rfl
     · obtain ⟨_, _, e, _⟩ := hl (by simp)
       cases e
   subst h0
   clear hl
   have he : ∀ wx : World, (binOp BinOp.eql 22 (.slice none 0 c) (.slice none 0 0)).run Tryz.prog wx = .ok (.bool true) wx := fun wx => eql_none_nil 22 44 0 c Tryz.underlying22 wx
   go_enter Tryz.func57, Tryz.ntmps57
   go_wp2_with fail
   go_ret
   exact ⟨⟨_, rfl, OwnR.nil _ _ _ _ _⟩, Below.refl _ _⟩
 · clear hl
   have he : ∀ wx : World, (binOp BinOp.eql 22 (.slice (some a) xs.length c) (.slice none 0 0)).run Tryz.prog wx = .ok (.bool false) wx := fun wx => eql_slice_nil 22 44 a xs.length c Tryz.underlying22 wx
   go_enter Tryz.func57, Tryz.ntmps57
   go_wp2_with ((
      at_builtin
      refine wpList_append_R (R := TmR d) (e := 44) rfl (.tmp 5) (.tmp 6) 22 rfl (bytes := 56) Tryz.underlying22 hi0 hz0 hz1 hz2 rfl (show 0 < 4 by omega) (single_tm d) rfl hown.out rfl hsrc.out rfl hB (by simp only [List.length_nil]; omega) (by omega) HA.out.size ?_
      intro v1 w1 hown1 hb1
      have HO := Lib.hid hown1
      have HB1 := Lib.hid (HA.out.trans hb1)
      clear hown1 hb1))
   go_ret
   exact ⟨⟨_, rfl, HO.out⟩, HB1.out⟩
section
variable {α : Type} (z : α)
def atL (xs : List α) (k : Nat) : α := xs.getD k z
def sw (xs : List α) (i j : Nat) : List α := (xs.set i (atL z xs j)).set j (atL z xs i)
variable {z} {xs ys : List α} {i j k n : Nat}
theorem atL_get (h : k < xs.length) : atL z xs k = xs[k] := by simp [atL, h]
theorem sw_length : (sw z xs i j).length = xs.length := by simp [sw]
theorem at_sw (hi : i < xs.length) (hj : j < xs.length) : atL z (sw z xs i j) k = if k = j then atL z xs i else if k = i then atL z xs j else atL z xs k := by
 by_cases hk : k < xs.length
 · rw [atL_get (by rw [sw_length]; exact hk)]
   simp only [sw, List.getElem_set]
   by_cases h1 : j = k
   · rw [if_pos h1, if_pos h1.symm]
   · rw [if_neg h1, if_neg (Ne.symm h1)]
     by_cases h2 : i = k
     · rw [if_pos h2, if_pos h2.symm]
     · rw [if_neg h2, if_neg (Ne.symm h2), atL_get hk]
 · rw [if_neg (by omega), if_neg (by omega)]
   unfold atL
   rw [List.getD_eq_getElem?_getD, List.getD_eq_getElem?_getD, List.getElem?_eq_none (by rw [sw_length]; omega), List.getElem?_eq_none (by omega)]
theorem sw_perm (hi : i < xs.length) (hj : j < xs.length) : (sw z xs i j).Perm xs := by
 unfold sw
 rw [atL_get hi, atL_get hj]
 exact List.set_set_perm hi hj
end
section
variable {α : Type} {c : α → α → Int} {z : α}
def Heap (c : α → α → Int) (g : Nat → α) (i0 n : Nat) : Prop := ∀ k, 0 < k → k < n → i0 ≤ (k - 1) / 2 → c (g ((k - 1) / 2)) (g k) ≤ 0
theorem Heap.least (hc : Ord3 c) {g : Nat → α} {n : Nat} (h : Heap c g 0 n) : ∀ k, k < n → c (g 0) (g k) ≤ 0 := by
 intro k
 induction k using Nat.strongRecOn with
 | ind k ih =>
   intro hk
   rcases Nat.eq_zero_or_pos k with h0 | h0
   · subst h0; have := hc.self (g 0); omega
   · exact hc.trans _ _ _ (ih ((k - 1) / 2) (by omega) (by omega)) (h k h0 hk (Nat.zero_le _))
structure Sunk (c : α → α → Int) (z : α) (xs0 xs : List α) (i0 i n : Nat) : Prop where
 perm : xs.Perm xs0
 out : ∀ k, n ≤ k → atL z xs k = atL z xs0 k
 ge : i0 ≤ i
 path : i0 < i → i0 ≤ (i - 1) / 2
 heap : ∀ k, 0 < k → k < n → i0 ≤ (k - 1) / 2 → (k - 1) / 2 ≠ i → c (atL z xs ((k - 1) / 2)) (atL z xs k) ≤ 0
 up : ∀ k, 0 < k → k < n → (k - 1) / 2 = i → i0 < i → c (atL z xs ((i - 1) / 2)) (atL z xs k) ≤ 0
theorem Sunk.step (hc : Ord3 c) {xs0 xs : List α} {i0 i n j : Nat} (h : Sunk c z xs0 xs i0 i n) (hn : n ≤ xs.length) (hj : j < n) (hij : j = 2 * i + 1 ∨ j = 2 * i + 2)
   (hmin : ∀ k, k < n → (k = 2 * i + 1 ∨ k = 2 * i + 2) → c (atL z xs j) (atL z xs k) ≤ 0) (hlt : c (atL z xs j) (atL z xs i) < 0) : Sunk c z xs0 (sw z xs i j) i0 j n := by
 have hil : i < xs.length := by omega
 have hjl : j < xs.length := by omega
 have hpj : (j - 1) / 2 = i := by omega
 have hge := h.ge
 refine ⟨(sw_perm hil hjl).trans h.perm, fun k hk => ?_, by omega, fun _ => by omega, fun k h0 h1 h2 h3 => ?_, fun k h0 h1 h2 h3 => ?_⟩
 · rw [at_sw hil hjl, if_neg (by omega), if_neg (by omega), h.out k hk]
 · rw [at_sw hil hjl, at_sw hil hjl, if_neg h3]
   by_cases hp : (k - 1) / 2 = i
   · rw [if_pos hp]
     by_cases hk : k = j
     · rw [if_pos hk]; omega
     · rw [if_neg hk, if_neg (by omega)]
       exact hmin k h1 (by omega)
   · rw [if_neg hp, if_neg (by intro e; subst e; exact hp hpj)]
     by_cases hk : k = i
     · rw [if_pos hk]
       subst hk
       exact h.up j (by omega) hj hpj (by omega)
     · rw [if_neg hk]
       exact h.heap k h0 h1 h2 hp
 · rw [at_sw hil hjl, at_sw hil hjl, hpj, if_neg (by omega), if_pos rfl, if_neg (by omega), if_neg (by omega)]
   have := h.heap k h0 h1 (by omega) (by omega)
   rw [h2] at this
   exact this
structure Piled (c : α → α → Int) (z : α) (l out xs : List α) : Prop where
 heap : Heap c (atL z xs) 0 xs.length
 sorted : out.Pairwise (fun a b => c a b < 0)
 le : ∀ a ∈ out, ∀ b ∈ xs, c a b ≤ 0
 mem : ∀ t, (t ∈ out ∨ t ∈ xs) ↔ t ∈ l
 len : out.length + xs.length ≤ l.length
theorem Piled.more (hc : Ord3 c) {l out xs rest : List α} {x : α} (h : Piled c z l out xs) (hp : xs.Perm (x :: rest)) (hh : Heap c (atL z rest) 0 rest.length) (hm : ∀ b ∈ rest, c x b ≤ 0)
   (hlast : ∀ y, out.getLast? = some y → c y x ≠ 0) : Piled c z l (out ++ [x]) rest := by
 have hx : x ∈ xs := hp.symm.subset (by simp)
 refine ⟨hh, ?_, ?_, fun t => ?_, ?_⟩
 · rw [List.pairwise_append]
   refine ⟨h.sorted, by simp, fun a ha b hb => ?_⟩
   obtain rfl : b = x := by simpa using hb
   rcases List.eq_nil_or_concat out with e | ⟨o, y, e⟩
   · subst e; simp at ha
   · rw [List.concat_eq_append] at e
     subst e
     have hy : c y b < 0 := by
       have := h.le y (by simp) b hx
       have := hlast y (by simp)
       omega
     rcases List.mem_append.1 ha with ha | ha
     · have := (List.pairwise_append.1 h.sorted).2.2 a ha y (by simp)
       exact hc.lt_le this (by omega)
     · obtain rfl : a = y := by simpa using ha
       exact hy
 · intro a ha b hb
   rcases List.mem_append.1 ha with ha | ha
   · exact h.le a ha b (hp.symm.subset (List.mem_cons_of_mem _ hb))
   · obtain rfl : a = x := by simpa using ha
     exact hm b hb
 · rw [← h.mem t, hp.mem_iff, List.mem_append, List.mem_singleton, List.mem_cons, or_assoc]
 · have := h.len; have := hp.length_eq
   simp only [List.length_append, List.length_cons, List.length_nil] at *; omega
theorem Piled.skip {l out xs rest : List α} {x y : α} (h : Piled c z l out xs) (hp : xs.Perm (x :: rest)) (hh : Heap c (atL z rest) 0 rest.length) (hlast : out.getLast? = some y) (he : y = x) : Piled c z l out rest := by
 subst he
 have hy : y ∈ out := List.mem_of_getLast? hlast
 refine ⟨hh, h.sorted, fun a ha b hb => h.le a ha b (hp.symm.subset (List.mem_cons_of_mem _ hb)), fun t => ?_, ?_⟩
 · rw [← h.mem t, hp.mem_iff, List.mem_cons]
   constructor
   · rintro (k | k)
     · exact .inl k
     · exact .inr (.inr k)
   · rintro (k | k | k)
     · exact .inl k
     · subst k; exact .inl hy
     · exact .inr k
 · have := h.len; have := hp.length_eq
   simp only [List.length_cons] at *; omega
end
open Go.ChangeShapes Go.WideShapes Go.ChangeAt Go.RowKit
structure TV where
 t : Tm
 a : Option Addr
 c : Nat
def TV.cs (x : TV) : List Value := [.int .i64 x.t.kind, .int .i64 x.t.n, .string x.t.s, .slice x.a 0 x.c]
def tv0 : TV := ⟨⟨0, 0, ⟨#[]⟩, []⟩, none, 0⟩
def cTV (x y : TV) : Int := cmpT 3 x.t y.t
def PRow (cur : Array Value) (xs : List TV) : Prop := ∀ k, k < xs.length → ∀ b, b < 4 → cur[k * 4 + b]? = (atL tv0 xs k).cs[b]?
theorem PRow.size {cur : Array Value} {xs : List TV} (h : PRow cur xs) {k : Nat} (hk : k < xs.length) : k * 4 + 3 < cur.size := by
 have := h k hk 3 (by omega)
 rcases Nat.lt_or_ge (k * 4 + 3) cur.size with h1 | h1
 · exact h1
 · rw [Array.getElem?_eq_none h1] at this; cases this
theorem PRow.take {cur : Array Value} {xs : List TV} (h : PRow cur xs) (n : Nat) : PRow cur (xs.take n) := by
 intro k hk b hb
 rw [List.length_take] at hk
 rw [h k (by omega) b hb]
 congr 2
 rw [atL_get (by omega), atL_get (by rw [List.length_take]; omega), List.getElem_take]
def PAt (w : World) (P G : Nat) (xs : List TV) (c : Nat) : Prop := Blk w P #[.slice (some ⟨G, 0, none⟩) xs.length c] ∧ ∃ cur, Blk w G cur ∧ PRow cur xs
def PRd (w : World) (B d : Nat) (xs : List TV) : Prop := ∀ x ∈ xs, RTm w B d x.t x.cs
theorem PRd.below {w w' : World} {B C d : Nat} {xs : List TV} (h : PRd w B d xs) (hb : Below C w w') (hB : B ≤ C) : PRd w' B d xs := fun x hx => (h x hx).below hb hB
open Go.ChangeShapes Go.WideShapes Go.ChangeAt Go.RowKit
theorem PAt.later {w w' : World} {P G c : Nat} {xs : List TV} (h : PAt w P G xs c) (hb : Below w.heap.size w w') : PAt w' P G xs c := by
 obtain ⟨hP, cur, hG, hr⟩ := h
 exact ⟨hP.later hb, cur, hG.later hb, hr⟩
theorem PAt.exc {w w' : World} {P G c : Nat} {xs ys : List TV} (h : PAt w P G xs c) (he : Exc G w w') (hPG : P ≠ G) (hl : ys.length = xs.length) (hc : ∃ cur', Blk w' G cur' ∧ PRow cur' ys) : PAt w' P G ys c := by
 obtain ⟨hP, _⟩ := h
 exact ⟨by rw [hl]; exact he.blk hPG hP, hc⟩
theorem PAt.lt {w : World} {P G c : Nat} {xs : List TV} (h : PAt w P G xs c) : G ≤ w.heap.size := by
 obtain ⟨_, cur, hG, _⟩ := h
 exact Nat.le_of_lt hG.lt
open Go.ChangeShapes Go.WideShapes Go.ChangeAt Go.RowKit
open Go.ChangeShapes Go.WideShapes Go.ChangeAt Go.RowKit
abbrev emptyS : ByteArray := ⟨#[]⟩
def noT : Tm := ⟨0, 0, emptyS, []⟩
end Go.Proofs.YtkdonhhbpacgmaaGreat
