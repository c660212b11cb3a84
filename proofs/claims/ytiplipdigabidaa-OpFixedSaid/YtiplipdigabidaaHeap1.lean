/- term.pile: Len, Less, Swap, Pop, over a block that holds the terms. -/
import Derived.Test.YtiplipdigabidaaExc
import Derived.Test.YtiplipdigabidaaHeapLaw
import Derived.Test.YtiplipdigabidaaShelf
set_option linter.unusedVariables false
set_option linter.unusedSimpArgs false
namespace Go.Proofs.Ytiplipdigabidaa
open Go.ChangeShapes Go.WideShapes Go.ChangeAt Go.RowKit

/-- A term without lists, and the slice that its cells hold. -/
structure TV where
  t : Tm
  a : Option Addr
  c : Nat
def TV.cs (x : TV) : List Value := [.int .i64 x.t.kind, .int .i64 x.t.n, .string x.t.s, .slice x.a 0 x.c]
def tv0 : TV := ⟨⟨0, 0, ⟨#[]⟩, []⟩, none, 0⟩
def cTV (x y : TV) : Int := cmpT 3 x.t y.t
theorem cTV_ord : Ord3 cTV := (cmpT_ord 3).by TV.t

/-- The cells of a row of terms. -/
def PRow (cur : Array Value) (xs : List TV) : Prop := ∀ k, k < xs.length → ∀ b, b < 4 → cur[k * 4 + b]? = (atL tv0 xs k).cs[b]?
/-- Four cells written. -/
def putTV (cur : Array Value) (o : Nat) (x : TV) : Array Value :=
  (((cur.setIfInBounds o (.int .i64 x.t.kind)).setIfInBounds (o + 1) (.int .i64 x.t.n)).setIfInBounds (o + 2) (.string x.t.s)).setIfInBounds (o + 3) (.slice x.a 0 x.c)
theorem putTV_get {cur : Array Value} {i k b : Nat} {x : TV} (h : i * 4 + 3 < cur.size) (hb : b < 4) : (putTV cur (i * 4) x)[k * 4 + b]? = if k = i then x.cs[b]? else cur[k * 4 + b]? := by
  unfold putTV
  simp only [Array.getElem?_setIfInBounds, Array.size_setIfInBounds]
  by_cases hk : k = i
  · subst hk
    have h4 : b = 0 ∨ b = 1 ∨ b = 2 ∨ b = 3 := by omega
    rcases h4 with rfl | rfl | rfl | rfl
    · rw [if_neg (by omega), if_neg (by omega), if_neg (by omega), if_pos (by omega), if_pos (by omega), if_pos rfl]; rfl
    · rw [if_neg (by omega), if_neg (by omega), if_pos (by omega), if_pos (by omega), if_pos rfl]; rfl
    · rw [if_neg (by omega), if_pos (by omega), if_pos (by omega), if_pos rfl]; rfl
    · rw [if_pos (by omega), if_pos (by omega), if_pos rfl]; rfl
  · rw [if_neg (by omega), if_neg (by omega), if_neg (by omega), if_neg (by omega), if_neg hk]
theorem putTV_size {cur : Array Value} {o : Nat} {x : TV} : (putTV cur o x).size = cur.size := by simp [putTV]
theorem PRow.size {cur : Array Value} {xs : List TV} (h : PRow cur xs) {k : Nat} (hk : k < xs.length) : k * 4 + 3 < cur.size := by
  have := h k hk 3 (by omega)
  rcases Nat.lt_or_ge (k * 4 + 3) cur.size with h1 | h1
  · exact h1
  · rw [Array.getElem?_eq_none h1] at this; cases this
theorem PRow.swap {cur : Array Value} {xs : List TV} {i j : Nat} (h : PRow cur xs) (hi : i < xs.length) (hj : j < xs.length) :
    PRow (putTV (putTV cur (i * 4) (atL tv0 xs j)) (j * 4) (atL tv0 xs i)) (sw tv0 xs i j) := by
  intro k hk b hb
  rw [sw_length] at hk
  rw [putTV_get (by rw [putTV_size]; exact h.size hj) hb, at_sw hi hj]
  by_cases h1 : k = j
  · rw [if_pos h1, if_pos h1]
  · rw [if_neg h1, if_neg h1, putTV_get (h.size hi) hb]
    by_cases h2 : k = i
    · rw [if_pos h2, if_pos h2]
    · rw [if_neg h2, if_neg h2]; exact h k hk b hb
theorem PRow.take {cur : Array Value} {xs : List TV} (h : PRow cur xs) (n : Nat) : PRow cur (xs.take n) := by
  intro k hk b hb
  rw [List.length_take] at hk
  rw [h k (by omega) b hb]
  congr 2
  rw [atL_get (by omega), atL_get (by rw [List.length_take]; omega), List.getElem_take]

/-- A pile at P whose row lies at G. -/
def PAt (w : World) (P G : Nat) (xs : List TV) (c : Nat) : Prop := Blk w P #[.slice (some ⟨G, 0, none⟩) xs.length c] ∧ ∃ cur, Blk w G cur ∧ PRow cur xs
/-- Each element reads as its term. -/
def PRd (w : World) (B d : Nat) (xs : List TV) : Prop := ∀ x ∈ xs, RTm w B d x.t x.cs
theorem PRd.below {w w' : World} {B C d : Nat} {xs : List TV} (h : PRd w B d xs) (hb : Below C w w') (hB : B ≤ C) : PRd w' B d xs := fun x hx => (h x hx).below hb hB
theorem atL_mem {α : Type} {z : α} {xs : List α} {k : Nat} (h : k < xs.length) : atL z xs k ∈ xs := by rw [atL_get h]; exact List.getElem_mem h

theorem pileLen_any (A : Option Addr) (n c : Nat) (w : World) :
    Calls Try.prog 59 #[.slice A n c] w fun e w' => e = .returned (.int .i64 n) ∧ w = w' := by
  go_enter Try.func59, Try.ntmps59
  go_wp2_with fail
  go_ret
  exact ⟨rfl, rfl⟩

set_option maxRecDepth 100000 in
set_option maxHeartbeats 1000000 in
theorem pileLess_any {w : World} {G c B d i j : Nat} {xs : List TV} {cur : Array Value} (hG : Blk w G cur) (hr : PRow cur xs) (hd : PRd w B d xs) (hB : B ≤ w.heap.size) (hi : i < xs.length) (hj : j < xs.length) (hn : xs.length ≤ 1000000) :
    Calls Try.prog 114 #[.slice (some ⟨G, 0, none⟩) xs.length c, .int .i64 i, .int .i64 j] w fun e w' => e = .returned (.bool (decide (cTV (atL tv0 xs i) (atL tv0 xs j) < 0))) ∧ Below w.heap.size w w' := by
  have hx := hd _ (atL_mem (z := tv0) hi)
  have hy := hd _ (atL_mem (z := tv0) hj)
  have i0 := hr i hi 0 (by omega)
  have i1 := hr i hi 1 (by omega)
  have i2 := hr i hi 2 (by omega)
  have i3 := hr i hi 3 (by omega)
  have j0 := hr j hj 0 (by omega)
  have j1 := hr j hj 1 (by omega)
  have j2 := hr j hj 2 (by omega)
  have j3 := hr j hj 3 (by omega)
  unfold cTV
  generalize atL tv0 xs i = x at *
  generalize atL tv0 xs j = y at *
  simp only [TV.cs, List.getElem?_cons_zero, List.getElem?_cons_succ, Nat.add_zero] at i0 i1 i2 i3 j0 j1 j2 j3
  have HX := Lib.hid hx
  have HY := Lib.hid hy
  clear hx hy
  have q_G := hG.regrown
  go_enter Try.func114, Try.ntmps114
  have k_G := hG.cell
  go_wp2_with fail
  refine wp_region_quiet_below (by kernel_rfl) (by kernel_rfl) ?_
  repeat (go_big_quiet_step ((go_at_call 28; exact Calls.regrown_of (compare_any d d x.t y.t x.cs y.cs B _ (HX.out.below (below_regrown _ _ _) hB) (HY.out.below (below_regrown _ _ _) hB) (Nat.le_trans hB (below_regrown _ _ _).size)))))
  refine wpQuiet_nil ?_
  intro w1 hw1
  have hb1 : Below w.heap.size w w1 := by obtain ⟨p, rfl⟩ := hw1; exact below_regrown _ _ _
  clear hw1 q_G k_G
  go_wp2_with fail
  go_ret
  exact ⟨rfl, hb1⟩

set_option maxRecDepth 100000 in
set_option maxHeartbeats 4000000 in
theorem pileSwap_any {w : World} {G c i j : Nat} {xs : List TV} {cur : Array Value} (hG : Blk w G cur) (hr : PRow cur xs) (hi : i < xs.length) (hj : j < xs.length) (hn : xs.length ≤ 1000000) :
    Calls Try.prog 115 #[.slice (some ⟨G, 0, none⟩) xs.length c, .int .i64 i, .int .i64 j] w fun e w' => e = .returned (.tuple #[]) ∧ Exc G w w' ∧ ∃ cur', Blk w' G cur' ∧ PRow cur' (sw tv0 xs i j) := by
  have HS := Lib.hid (hr.swap hi hj)
  have i0 := hr i hi 0 (by omega)
  have i1 := hr i hi 1 (by omega)
  have i2 := hr i hi 2 (by omega)
  have i3 := hr i hi 3 (by omega)
  have j0 := hr j hj 0 (by omega)
  have j1 := hr j hj 1 (by omega)
  have j2 := hr j hj 2 (by omega)
  have j3 := hr j hj 3 (by omega)
  generalize hxe : atL tv0 xs i = x at *
  generalize hye : atL tv0 xs j = y at *
  simp only [TV.cs, List.getElem?_cons_zero, List.getElem?_cons_succ, Nat.add_zero] at i0 i1 i2 i3 j0 j1 j2 j3
  go_enter Try.func115, Try.ntmps115
  have k_G := hG.cell
  have f_G := hG.free
  by_cases e : j = i
  · subst e
    obtain rfl : x = y := by rw [← hxe, ← hye]
    go_wp2_with fail
    go_region
    all_goals go_end0
    all_goals exact ⟨rfl, ((((((((((Exc.refl G w).set _ _).set _ _).set _ _).set _ _).set _ _).set _ _).set _ _).set _ _)).drew, _, ((((((((hG.set_ _ _).set_ _ _).set_ _ _).set_ _ _).set_ _ _).set_ _ _).set_ _ _).set_ _ _).drew, HS.out⟩
  · have n00 : ¬ (j * 4 = i * 4) := by omega
    have n01 : ¬ (j * 4 = i * 4 + 1) := by omega
    have n02 : ¬ (j * 4 = i * 4 + 2) := by omega
    have n03 : ¬ (j * 4 = i * 4 + 3) := by omega
    have n10 : ¬ (j * 4 + 1 = i * 4) := by omega
    have n11 : ¬ (j * 4 + 1 = i * 4 + 1) := by omega
    have n12 : ¬ (j * 4 + 1 = i * 4 + 2) := by omega
    have n13 : ¬ (j * 4 + 1 = i * 4 + 3) := by omega
    have n20 : ¬ (j * 4 + 2 = i * 4) := by omega
    have n21 : ¬ (j * 4 + 2 = i * 4 + 1) := by omega
    have n22 : ¬ (j * 4 + 2 = i * 4 + 2) := by omega
    have n23 : ¬ (j * 4 + 2 = i * 4 + 3) := by omega
    have n30 : ¬ (j * 4 + 3 = i * 4) := by omega
    have n31 : ¬ (j * 4 + 3 = i * 4 + 1) := by omega
    have n32 : ¬ (j * 4 + 3 = i * 4 + 2) := by omega
    have n33 : ¬ (j * 4 + 3 = i * 4 + 3) := by omega
    go_wp2_with fail
    go_region
    all_goals go_end0
    all_goals exact ⟨rfl, ((((((((((Exc.refl G w).set _ _).set _ _).set _ _).set _ _).set _ _).set _ _).set _ _).set _ _)).drew, _, ((((((((hG.set_ _ _).set_ _ _).set_ _ _).set_ _ _).set_ _ _).set_ _ _).set_ _ _).set_ _ _).drew, HS.out⟩
end Go.Proofs.Ytiplipdigabidaa
