/- term.Set. -/
import Derived.Test.YtiplipdigabidaaGreatSingle
import Derived.Test.YtiplipdigabidaaGreatOrd
import Derived.Test.YtiplipdigabidaaGreatHeap3
set_option linter.unusedVariables false
set_option linter.unusedSimpArgs false
namespace Go.Proofs.YtiplipdigabidaaGreat
open Go.ChangeShapes Go.WideShapes Go.ChangeAt Go.RowKit
theorem ret_tm {fn : Func} {tmps : Array Value} {p : Tmp} {g : Nat} {w : World} {cs : Array Value} (h : fn.results = #[.cell p 33]) (hp : tmps.getD p undef = .pointer (some ⟨g, 0, none⟩)) (hb : Blk w g cs) (hn : cs.size = 4) :
   (results fn tmps).run Tryz.prog w = .ok (.agg cs) w := by
 obtain ⟨T, hb⟩ := hb
 exact results_cell_row h tmps w g T cs (0, 0) _ hp hb Tryz.underlying33 rfl (by rw [hn]; kernel_rfl)
theorem ret_tm2 {fn : Func} {tmps : Array Value} {p u : Tmp} {g : Nat} {w : World} {cs : Array Value} (h : fn.results = #[.cell p 33, .tmp u]) (hp : tmps.getD p undef = .pointer (some ⟨g, 0, none⟩)) (hb : Blk w g cs) (hn : cs.size = 4) :
   (results fn tmps).run Tryz.prog w = .ok (.tuple #[.agg cs, tmps.getD u undef]) w := by
 obtain ⟨T, hb⟩ := hb
 rw [results_cell_tmp h]
 have e : tmps[p]?.getD undef = .pointer (some ⟨g, 0, none⟩) := by simpa using hp
 have e1 : ((asAddr (tmps.getD p undef)).run Tryz.prog w) = .ok ⟨g, 0, none⟩ w := by simp [e, asAddr]
 rw [e1, Result.andThen_ok, run_loadVar_row w g T 33 cs (0, 0) _ hb Tryz.underlying33 rfl (by rw [hn]; kernel_rfl), Result.andThen_ok]
set_option maxHeartbeats 400000 in
theorem number_any (n : Int) (w : World) :
   Calls Tryz.prog 86 #[.int .i64 n] w fun e w' => e = .returned (.agg #[.int .i64 2, .int .i64 n, .string ⟨#[]⟩, .slice none 0 0]) ∧ Below w.heap.size w w' := by
 go_enter Tryz.func86, Tryz.ntmps86
 go_wp2_with fail
 refine bodyPost_ret (ret_tm rfl rfl (n11 rfl) rfl) rfl ?_
 exact ⟨rfl, (Below.refl _ _).alloc (Nat.le_refl _) _⟩
def bit (b : Bool) : Int := if b then 1 else 0
set_option maxHeartbeats 400000 in
theorem truth_any (b : Bool) (w : World) :
   Calls Tryz.prog 84 #[.bool b] w fun e w' => e = .returned (.agg #[.int .i64 6, .int .i64 (bit b), .string ⟨#[]⟩, .slice none 0 0]) ∧ Below w.heap.size w w' := by
 cases b
 all_goals
   go_enter Tryz.func84, Tryz.ntmps84
   go_wp2_with fail
   refine bodyPost_ret (ret_tm rfl rfl (n11 rfl) rfl) rfl ?_
   exact ⟨rfl, (Below.refl _ _).alloc (Nat.le_refl _) _⟩
def bothB (ks : List Int) (a b : Int) : Bool := ks.any fun k => decide (a = k) && decide (b = k)
set_option maxHeartbeats 1000000 in
theorem both_any (ks : List Int) (a b : Int) (g c : Nat) (w : World) (hks : Blk w g (ks.map (Value.int .i64)).toArray) (hn : ks.length ≤ 1000000) :
   Calls Tryz.prog 115 #[.agg #[.int .i64 a, .int .i64 b], .slice (some ⟨g, 0, none⟩) ks.length c] w fun e w' => e = .returned (.bool (bothB ks a b)) ∧ Below w.heap.size w w' := by
 have hc : ∀ i (h : i < ks.length), w.cell? ⟨g, i, none⟩ = some (.int .i64 ks[i]) := fun i h => by
   have := hks.cell i
   rw [this]
   simp [h]
 have hg := hks.lt
 clear hks
 go_enter Tryz.func115, Tryz.ntmps115
 go_wp2_with fail
 generalize hW : World.alloc _ _ = w1
 obtain ⟨hb, hz⟩ := al1 hW
 have b_p := n11 hW
 have HB := Lib.hid hb
 have HC := Lib.hid (fun i (h : i < ks.length) => (hb.cell (p := ⟨g, i, none⟩) hg).trans (hc i h))
 have hg1 : g < w1.heap.size := by omega
 clear hW hb hc hg
 go_loop [9] (fun i => ∃ k : Nat, k ≤ ks.length ∧ i = .int .i64 k ∧ ∀ i, i < k → ∀ h : i < ks.length, (decide (a = ks[i]) && decide (b = ks[i])) = false) (fun i => ks.length - (intOf i).toNat)
 case atStart => exact ⟨0, Nat.zero_le _, rfl, fun i h => absurd h (by omega)⟩
 case round =>
   obtain ⟨k, hk, rfl, hall⟩ := hrel
   have HA := Lib.hid hall
   clear hall
   by_cases hlt : k < ks.length
   · have hck := HC.out k hlt
     have k_p := b_p.cell
     have l_p := b_p.lt
     generalize hx : ks[k] = x at hck
     have HX := Lib.hid hx
     clear hx
     have h3 : (a == x) = false ∨ (a == x) = true ∧ (b == x) = false ∨ (a == x) = true ∧ (b == x) = true := by cases (a == x) <;> cases (b == x) <;> simp
     rcases h3 with h1 | ⟨h1, h2⟩ | ⟨h1, h2⟩
     · go_wp2_with fail
       go_round
       case rel => exact ⟨k + 1, by omega, by go_num, fun i hi h => by
         rcases Nat.lt_or_ge i k with h4 | h4
         · exact HA.out i h4 h
         · obtain rfl : i = k := by omega
           rw [HX.out]; simp only [beq_eq_false_iff_ne] at h1; simp [h1]⟩
       case measure => simp [intOf]; omega
     · go_wp2_with fail
       go_round
       case rel => exact ⟨k + 1, by omega, by go_num, fun i hi h => by
         rcases Nat.lt_or_ge i k with h4 | h4
         · exact HA.out i h4 h
         · obtain rfl : i = k := by omega
           rw [HX.out]; simp only [beq_eq_false_iff_ne] at h2; simp [h2]⟩
       case measure => simp [intOf]; omega
     · go_wp2_with fail
       go_ret
       refine ⟨ret_bool ?_, HB.out⟩
       rw [eq_comm, bothB, List.any_eq_true]
       exact ⟨x, by rw [← HX.out]; exact List.getElem_mem _, by simp only [beq_iff_eq] at h1 h2; simp [h1, h2]⟩
   · go_wp2_with fail
     go_ret
     refine ⟨ret_bool ?_, HB.out⟩
     rw [eq_comm, bothB, List.any_eq_false]
     intro x hx
     obtain ⟨i, hi, rfl⟩ := List.getElem_of_mem hx
     rw [HA.out i (by omega) hi]
     simp
def kindsB (code a b : Int) : Bool :=
 if code = 1 ∨ code = 2 ∨ code = 3 ∨ code = 4 then bothB [2, 4] a b
 else if code = 5 ∨ code = 6 then decide (a = b) && decide (2 ≤ a) && decide (a ≤ 7)
 else if code = 7 then bothB [2, 3] a b
 else if code = 8 ∨ code = 9 ∨ code = 10 ∨ code = 17 ∨ code = 18 ∨ code = 19 then bothB [2] a b
 else if code = 11 then (decide (a = 7) && decide (2 ≤ b) && decide (b ≤ 7)) || bothB [3] a b
 else if code = 12 ∨ code = 13 then bothB [3, 5] a b
 else if code = 14 then bothB [3] a b
 else if code = 15 ∨ code = 16 then bothB [7] a b
 else false
theorem c11 {a b : Int} (h : ¬ (a = 7 ∧ 2 ≤ b ∧ b ≤ 7)) : bothB [3] a b = kindsB 11 a b := by
 show _ = ((decide (a = 7) && decide (2 ≤ b) && decide (b ≤ 7)) || bothB [3] a b)
 have hf : (decide (a = 7) && decide (2 ≤ b) && decide (b ≤ 7)) = false := by
   rw [Bool.eq_false_iff]
   simp only [ne_eq, Bool.and_eq_true, decide_eq_true_eq]
   omega
 rw [hf, Bool.false_or]
set_option maxHeartbeats 4000000 in
theorem kinds_any (code a b : Int) (w : World) :
   Calls Tryz.prog 87 #[.int .i64 code, .int .i64 a, .int .i64 b] w fun e w' => e = .returned (.bool (kindsB code a b)) ∧ Below w.heap.size w w' := by
 have hc : code < 1 ∨ code > 19 ∨ code = 1 ∨ code = 2 ∨ code = 3 ∨ code = 4 ∨ code = 5 ∨ code = 6 ∨ code = 7 ∨ code = 8 ∨ code = 9 ∨ code = 10 ∨ code = 11 ∨ code = 12 ∨ code = 13 ∨ code = 14 ∨ code = 15 ∨ code = 16 ∨ code = 17 ∨ code = 18 ∨ code = 19 := by omega
 rcases hc with h | h | rfl | rfl | rfl | rfl | rfl | rfl | rfl | rfl | rfl | rfl | rfl | rfl | rfl | rfl | rfl | rfl | rfl | rfl | rfl
 · have e : kindsB code a b = false := by unfold kindsB; (repeat rw [if_neg (by omega)])
   rw [e]
   go_enter Tryz.func87, Tryz.ntmps87
   go_wp2_with fail
   go_ret
   exact ⟨rfl, (Below.refl _ _).alloc (Nat.le_refl _) _⟩
 · have e : kindsB code a b = false := by unfold kindsB; (repeat rw [if_neg (by omega)])
   rw [e]
   go_enter Tryz.func87, Tryz.ntmps87
   go_wp2_with fail
   go_ret
   exact ⟨rfl, (Below.refl _ _).alloc (Nat.le_refl _) _⟩
 · go_enter Tryz.func87, Tryz.ntmps87
   go_wp2_with fail
   generalize hW : World.alloc _ _ = w1
   obtain ⟨hb, hz⟩ := al2 hW
   refine (both_any [2, 4] a b (w.heap.size + 1) 2 w1 (n22 hW) (by simp)).mono ?_
   rintro e w2 ⟨rfl, hb2⟩
   have HB2 := Lib.hid (bthen hb hb2)
   clear hW hb hb2
   go_wp2_with fail
   go_ret
   exact ⟨ret_bool (rfl), HB2.out⟩
 · go_enter Tryz.func87, Tryz.ntmps87
   go_wp2_with fail
   generalize hW : World.alloc _ _ = w1
   obtain ⟨hb, hz⟩ := al2 hW
   refine (both_any [2, 4] a b (w.heap.size + 1) 2 w1 (n22 hW) (by simp)).mono ?_
   rintro e w2 ⟨rfl, hb2⟩
   have HB2 := Lib.hid (bthen hb hb2)
   clear hW hb hb2
   go_wp2_with fail
   go_ret
   exact ⟨ret_bool (rfl), HB2.out⟩
 · go_enter Tryz.func87, Tryz.ntmps87
   go_wp2_with fail
   generalize hW : World.alloc _ _ = w1
   obtain ⟨hb, hz⟩ := al2 hW
   refine (both_any [2, 4] a b (w.heap.size + 1) 2 w1 (n22 hW) (by simp)).mono ?_
   rintro e w2 ⟨rfl, hb2⟩
   have HB2 := Lib.hid (bthen hb hb2)
   clear hW hb hb2
   go_wp2_with fail
   go_ret
   exact ⟨ret_bool (rfl), HB2.out⟩
 · go_enter Tryz.func87, Tryz.ntmps87
   go_wp2_with fail
   generalize hW : World.alloc _ _ = w1
   obtain ⟨hb, hz⟩ := al2 hW
   refine (both_any [2, 4] a b (w.heap.size + 1) 2 w1 (n22 hW) (by simp)).mono ?_
   rintro e w2 ⟨rfl, hb2⟩
   have HB2 := Lib.hid (bthen hb hb2)
   clear hW hb hb2
   go_wp2_with fail
   go_ret
   exact ⟨ret_bool (rfl), HB2.out⟩
 · have h3 : (a == b) = false ∨ (a == b) = true ∧ decide (a ≥ 2) = false ∨ (a == b) = true ∧ decide (a ≥ 2) = true ∧ decide (a ≤ 7) = false ∨ (a == b) = true ∧ decide (a ≥ 2) = true ∧ decide (a ≤ 7) = true := by cases (a == b) <;> cases decide (a ≥ 2) <;> cases decide (a ≤ 7) <;> simp
   rcases h3 with h1 | ⟨h1, h2⟩ | ⟨h1, h2, h3⟩ | ⟨h1, h2, h3⟩
   all_goals
     have H1 := Lib.hid h1
     go_enter Tryz.func87, Tryz.ntmps87
     go_wp2_with fail
     go_ret
     exact ⟨ret_bool (by simp only [beq_iff_eq, beq_eq_false_iff_ne, decide_eq_true_eq, decide_eq_false_iff_not] at *; simp [kindsB]; try omega), (Below.refl _ _).alloc (Nat.le_refl _) _⟩
 · have h3 : (a == b) = false ∨ (a == b) = true ∧ decide (a ≥ 2) = false ∨ (a == b) = true ∧ decide (a ≥ 2) = true ∧ decide (a ≤ 7) = false ∨ (a == b) = true ∧ decide (a ≥ 2) = true ∧ decide (a ≤ 7) = true := by cases (a == b) <;> cases decide (a ≥ 2) <;> cases decide (a ≤ 7) <;> simp
   rcases h3 with h1 | ⟨h1, h2⟩ | ⟨h1, h2, h3⟩ | ⟨h1, h2, h3⟩
   all_goals
     have H1 := Lib.hid h1
     go_enter Tryz.func87, Tryz.ntmps87
     go_wp2_with fail
     go_ret
     exact ⟨ret_bool (by simp only [beq_iff_eq, beq_eq_false_iff_ne, decide_eq_true_eq, decide_eq_false_iff_not] at *; simp [kindsB]; try omega), (Below.refl _ _).alloc (Nat.le_refl _) _⟩
 · go_enter Tryz.func87, Tryz.ntmps87
   go_wp2_with fail
   generalize hW : World.alloc _ _ = w1
   obtain ⟨hb, hz⟩ := al2 hW
   refine (both_any [2, 3] a b (w.heap.size + 1) 2 w1 (n22 hW) (by simp)).mono ?_
   rintro e w2 ⟨rfl, hb2⟩
   have HB2 := Lib.hid (bthen hb hb2)
   clear hW hb hb2
   go_wp2_with fail
   go_ret
   exact ⟨ret_bool (rfl), HB2.out⟩
 · go_enter Tryz.func87, Tryz.ntmps87
   go_wp2_with fail
   generalize hW : World.alloc _ _ = w1
   obtain ⟨hb, hz⟩ := al2 hW
   refine (both_any [2] a b (w.heap.size + 1) 1 w1 (n22 hW) (by simp)).mono ?_
   rintro e w2 ⟨rfl, hb2⟩
   have HB2 := Lib.hid (bthen hb hb2)
   clear hW hb hb2
   go_wp2_with fail
   go_ret
   exact ⟨ret_bool (rfl), HB2.out⟩
 · go_enter Tryz.func87, Tryz.ntmps87
   go_wp2_with fail
   generalize hW : World.alloc _ _ = w1
   obtain ⟨hb, hz⟩ := al2 hW
   refine (both_any [2] a b (w.heap.size + 1) 1 w1 (n22 hW) (by simp)).mono ?_
   rintro e w2 ⟨rfl, hb2⟩
   have HB2 := Lib.hid (bthen hb hb2)
   clear hW hb hb2
   go_wp2_with fail
   go_ret
   exact ⟨ret_bool (rfl), HB2.out⟩
 · go_enter Tryz.func87, Tryz.ntmps87
   go_wp2_with fail
   generalize hW : World.alloc _ _ = w1
   obtain ⟨hb, hz⟩ := al2 hW
   refine (both_any [2] a b (w.heap.size + 1) 1 w1 (n22 hW) (by simp)).mono ?_
   rintro e w2 ⟨rfl, hb2⟩
   have HB2 := Lib.hid (bthen hb hb2)
   clear hW hb hb2
   go_wp2_with fail
   go_ret
   exact ⟨ret_bool (rfl), HB2.out⟩
 · go_enter Tryz.func87, Tryz.ntmps87
   go_wp2_with fail
   all_goals first
     | (go_ret
        exact ⟨ret_bool (by simp [kindsB]; try omega), (Below.refl _ _).alloc (Nat.le_refl _) _⟩)
     | (generalize hW : World.alloc _ _ = w1
        obtain ⟨hb, hz⟩ := al2 hW
        refine (both_any [3] _ b (w.heap.size + 1) 1 w1 (n22 hW) (by simp)).mono ?_
        rintro e w2 ⟨rfl, hb2⟩
        have HB2 := Lib.hid (bthen hb hb2)
        clear hW hb hb2
        go_wp2_with fail
        go_ret
        refine ⟨ret_bool ?_, HB2.out⟩
        have hc11 := c11 (a := a) (b := b) (by omega)
        first
          | exact hc11
          | (have ha : a = 7 := by assumption
             exact (congrArg (fun x => bothB [3] x b) ha.symm).trans hc11)
          | (have ha : a = 7 := by assumption
             have hb7 : ¬ b ≤ 7 := by omega
             rw [decide_eq_false hb7, Bool.false_or]
             exact (congrArg (fun x => bothB [3] x b) ha.symm).trans hc11))
 · go_enter Tryz.func87, Tryz.ntmps87
   go_wp2_with fail
   generalize hW : World.alloc _ _ = w1
   obtain ⟨hb, hz⟩ := al2 hW
   refine (both_any [3, 5] a b (w.heap.size + 1) 2 w1 (n22 hW) (by simp)).mono ?_
   rintro e w2 ⟨rfl, hb2⟩
   have HB2 := Lib.hid (bthen hb hb2)
   clear hW hb hb2
   go_wp2_with fail
   go_ret
   exact ⟨ret_bool (rfl), HB2.out⟩
 · go_enter Tryz.func87, Tryz.ntmps87
   go_wp2_with fail
   generalize hW : World.alloc _ _ = w1
   obtain ⟨hb, hz⟩ := al2 hW
   refine (both_any [3, 5] a b (w.heap.size + 1) 2 w1 (n22 hW) (by simp)).mono ?_
   rintro e w2 ⟨rfl, hb2⟩
   have HB2 := Lib.hid (bthen hb hb2)
   clear hW hb hb2
   go_wp2_with fail
   go_ret
   exact ⟨ret_bool (rfl), HB2.out⟩
 · go_enter Tryz.func87, Tryz.ntmps87
   go_wp2_with fail
   generalize hW : World.alloc _ _ = w1
   obtain ⟨hb, hz⟩ := al2 hW
   refine (both_any [3] a b (w.heap.size + 1) 1 w1 (n22 hW) (by simp)).mono ?_
   rintro e w2 ⟨rfl, hb2⟩
   have HB2 := Lib.hid (bthen hb hb2)
   clear hW hb hb2
   go_wp2_with fail
   go_ret
   exact ⟨ret_bool (rfl), HB2.out⟩
 · go_enter Tryz.func87, Tryz.ntmps87
   go_wp2_with fail
   generalize hW : World.alloc _ _ = w1
   obtain ⟨hb, hz⟩ := al2 hW
   refine (both_any [7] a b (w.heap.size + 1) 1 w1 (n22 hW) (by simp)).mono ?_
   rintro e w2 ⟨rfl, hb2⟩
   have HB2 := Lib.hid (bthen hb hb2)
   clear hW hb hb2
   go_wp2_with fail
   go_ret
   exact ⟨ret_bool (rfl), HB2.out⟩
 · go_enter Tryz.func87, Tryz.ntmps87
   go_wp2_with fail
   generalize hW : World.alloc _ _ = w1
   obtain ⟨hb, hz⟩ := al2 hW
   refine (both_any [7] a b (w.heap.size + 1) 1 w1 (n22 hW) (by simp)).mono ?_
   rintro e w2 ⟨rfl, hb2⟩
   have HB2 := Lib.hid (bthen hb hb2)
   clear hW hb hb2
   go_wp2_with fail
   go_ret
   exact ⟨ret_bool (rfl), HB2.out⟩
 · go_enter Tryz.func87, Tryz.ntmps87
   go_wp2_with fail
   generalize hW : World.alloc _ _ = w1
   obtain ⟨hb, hz⟩ := al2 hW
   refine (both_any [2] a b (w.heap.size + 1) 1 w1 (n22 hW) (by simp)).mono ?_
   rintro e w2 ⟨rfl, hb2⟩
   have HB2 := Lib.hid (bthen hb hb2)
   clear hW hb hb2
   go_wp2_with fail
   go_ret
   exact ⟨ret_bool (rfl), HB2.out⟩
 · go_enter Tryz.func87, Tryz.ntmps87
   go_wp2_with fail
   generalize hW : World.alloc _ _ = w1
   obtain ⟨hb, hz⟩ := al2 hW
   refine (both_any [2] a b (w.heap.size + 1) 1 w1 (n22 hW) (by simp)).mono ?_
   rintro e w2 ⟨rfl, hb2⟩
   have HB2 := Lib.hid (bthen hb hb2)
   clear hW hb hb2
   go_wp2_with fail
   go_ret
   exact ⟨ret_bool (rfl), HB2.out⟩
 · go_enter Tryz.func87, Tryz.ntmps87
   go_wp2_with fail
   generalize hW : World.alloc _ _ = w1
   obtain ⟨hb, hz⟩ := al2 hW
   refine (both_any [2] a b (w.heap.size + 1) 1 w1 (n22 hW) (by simp)).mono ?_
   rintro e w2 ⟨rfl, hb2⟩
   have HB2 := Lib.hid (bthen hb hb2)
   clear hW hb hb2
   go_wp2_with fail
   go_ret
   exact ⟨ret_bool (rfl), HB2.out⟩
open Go.ChangeShapes Go.WideShapes Go.ChangeAt Go.RowKit
abbrev emptyS : ByteArray := ⟨#[]⟩
def noT : Tm := ⟨0, 0, emptyS, []⟩
def headK (l : List Tm) : Int := (l.head?.map Tm.kind).getD 0
def badB (k : Int) (t : Tm) : Bool := !fixedB t || decide (t.kind = 7) || decide (t.kind ≠ k)
def setArgB (l : List Tm) : Bool := decide (l.length ≤ 16) && !l.any (badB (headK l))
def setT (l : List Tm) : Tm := ⟨7, 0, emptyS, setL (cmpT 3) l⟩
def setR (l : List Tm) : Tm × Int := if setArgB l then (setT l, 0) else (noT, 1)
set_option maxRecDepth 100000 in
set_option maxHeartbeats 2000000 in
theorem setLit_any {d B G : Nat} {k : Int} {l : List Tm} {A : Option Addr} {c : Nat} {w : World} (hG : Blk w G #[.slice A l.length c]) (hl : RL (TmR d) w B l A) (hB : B ≤ w.heap.size) (h0 : 0 < l.length) (hk : headK l = k) (hn : l.length ≤ 16) :
   Tells Tryz.prog (TmR d) aggOf B w 137 #[.pointer (some ⟨G, 0, none⟩)] (badB k) := by
 intro x vs w1 hb hr
 have HR : Hid (RTm w1 B d x vs) := Lib.hid hr
 obtain ⟨A', c', rfl, q1, q2, q3, q4, q5, _⟩ := RTm.cells (show RTm w1 B d x vs from hr)
 have hG1 := hG.later hb
 have hB1 := Nat.le_trans hB hb.size
 obtain ⟨b, off, rfl, hbl⟩ := hl.base hb hB h0
 obtain ⟨y, ys, hy, _, hcell, hry⟩ := hl.at_ (k := 0) hb hB h0
 obtain ⟨A2, c2, rfl, _⟩ := RTm.cells (show RTm w1 B d y ys from hry)
 have hyk : y.kind = k := by rw [← hk]; unfold headK; rw [List.head?_eq_getElem?, hy]; rfl
 have f0 : w1.cell? ⟨b, off, none⟩ = some (.int .i64 k) := by rw [← hyk]; simpa using hcell 0 _ rfl
 clear hr hry hcell hy hyk hb hG
 show Calls Tryz.prog 137 #[.agg #[_, _, _, _], .pointer (some ⟨G, 0, none⟩)] w1 _
 have kG := hG1.cell
 have lG := hG1.lt
 go_enter Tryz.func137, Tryz.ntmps137
 go_wp2_with fail
 generalize hW : World.alloc _ _ = w2
 obtain ⟨hb, hz⟩ := al1 hW
 have bx := n11 hW
 have bG2 := hG1.later hb
 have g0 := cell_regrown ((hb.cell (p := ⟨b, off, none⟩) hbl).trans f0)
 have qx := bx.regrown
 have qG := bG2.regrown
 have HB1 := Lib.hid hb
 have hB2 := Nat.le_trans hB1 hb.size
 clear hW hz hb kG lG f0
 have HR2 := Lib.hid (HR.out.below HB1.out hB1)
 have hcases : fixedB x = false ∨ (fixedB x = true ∧ (x.kind == 7) = true) ∨ (fixedB x = true ∧ (x.kind == 7) = false) := by
   cases fixedB x <;> cases (x.kind == 7) <;> simp
 rcases hcases with hf | ⟨hf, h7⟩ | ⟨hf, h7⟩
 all_goals
   refine wp_region_quiet_below (by kernel_rfl) (by kernel_rfl) ?_
   repeat (go_big_quiet_step ((go_at_call 32; exact Calls.regrown_of (as_bool hf (fixed_any (HR2.out.below (below_regrown _ _ _) hB2) (Nat.le_trans hB2 (below_regrown _ _ _).size))))))
   refine wpQuiet_nil ?_
   intro w3 hw3
   have hb1 : Below w2.heap.size w2 w3 := by obtain ⟨p, rfl⟩ := hw3; exact below_regrown _ _ _
   clear hw3
   go_wp2_with fail
   go_ret
   refine ⟨ret_bool ?_, bthen HB1.out hb1⟩
   first
     | (simp only [beq_iff_eq, beq_eq_false_iff_ne] at h7; simp [badB, hf, h7]; try rfl)
     | (simp [badB, hf, h7]; try rfl)
     | simp [badB, hf]
set_option maxRecDepth 100000 in
set_option maxHeartbeats 1000000 in
theorem containsNil_any {F : FuncId} {cap : Array Value} {A : Option Addr} {c : Nat} {w : World} :
   Calls Tryz.prog 131 #[.slice A 0 c, .func (.func F) #[] cap] w fun e w' => e = .returned (.bool false) ∧ Below w.heap.size w w' := by
 go_enter Tryz.func131, Tryz.ntmps131
 go_wp2_with fail
 refine (Calls.mono (R := fun e w' => e = .returned (.int .i64 (-1)) ∧ w = w') ?_ ?_)
 · go_enter Tryz.func153, Tryz.ntmps153
   go_wp2_with fail
   go_loopw [8] (fun i wr => i = .int .i64 0 ∧ w = wr) (fun i _ => 0)
   case atStart => exact ⟨rfl, rfl⟩
   case round =>
     obtain ⟨rfl, rfl⟩ := hrel
     go_wp2_with fail
     go_ret
     exact ⟨rfl, rfl⟩
 · rintro e w1 ⟨rfl, rfl⟩
   go_wp2_with fail
   go_ret
   exact ⟨rfl, Below.refl _ _⟩
theorem badB_not {k : Int} {t : Tm} : badB k t = false ↔ fixedB t = true ∧ t.kind ≠ 7 ∧ t.kind = k := by
 unfold badB
 simp only [Bool.or_eq_false_iff, Bool.not_eq_false', decide_eq_false_iff_not, ne_eq, Classical.not_not, and_assoc]
theorem fixed_leaf {t : Tm} (h : fixedB t = true) (h7 : t.kind ≠ 7) : Leaf t := by
 unfold fixedB mayB at h
 rw [if_neg h7, Bool.and_eq_true] at h
 exact flatMay_leaf h.2
theorem atL_map (xs : List TV) (k : Nat) : atL noT (xs.map TV.t) k = (atL tv0 xs k).t := by
 unfold atL
 rw [List.getD_eq_getElem?_getD, List.getD_eq_getElem?_getD, List.getElem?_map]
 cases xs[k]? <;> rfl
theorem heap_map {xs : List TV} {i n : Nat} (h : Heap cTV (atL tv0 xs) i n) : Heap (cmpT 3) (atL noT (xs.map TV.t)) i n := fun k h0 h1 h2 => by
 rw [atL_map, atL_map]; exact h k h0 h1 h2
theorem own_pile {d B base : Nat} {T : TypeId} {w : World} {v : Value} {xs : List Tm} (h : OwnR (TmR d) T w base B v xs) (hf : ∀ x ∈ xs, Leaf x) (h0 : 0 < xs.length) :
   ∃ (G c : Nat) (tvs : List TV) (cur : Array Value), v = .slice (some ⟨G, 0, none⟩) xs.length c ∧ base ≤ G ∧ tvs.map TV.t = xs ∧ Blk w G cur ∧ PRow cur tvs ∧ PRd w B d tvs ∧ xs.length ≤ c ∧ c ≤ 9223372036854775807 := by
 obtain ⟨cells, h, hfl⟩ := h
 rcases h.2 with ⟨h1, h2⟩ | ⟨g, cap, cur, hv, hg, hh, k1, k2, k3, k4⟩
 · omega
 · have key : ∀ n, n ≤ xs.length → ∃ tvs : List TV, tvs.map TV.t = xs.take n ∧ (∀ k (hk : k < n), ∀ b, b < 4 → cells[k * 4 + b]? = (atL tv0 tvs k).cs[b]?) ∧ PRd w B d tvs := by
     intro n
     induction n with
     | zero => intro _; exact ⟨[], by simp, fun k hk => absurd hk (by omega), fun x hx => by simp at hx⟩
     | succ n ih =>
       intro hn
       obtain ⟨tvs, e1, e2, e3⟩ := ih (by omega)
       have hr : RTm w B d xs[n] ((cells.drop (n * 4)).take 4) := hfl.2 n (by omega)
       obtain ⟨A, c, e4, _⟩ := RTm.cells hr
       have hlf : xs[n].l = [] := hf _ (List.getElem_mem _)
       rw [hlf] at e4
       have hlen : tvs.length = n := by have := congrArg List.length e1; rw [List.length_map, List.length_take] at this; omega
       have ea : atL tv0 (tvs ++ [⟨xs[n], A, c⟩]) n = ⟨xs[n], A, c⟩ := by rw [atL_get (by simp; omega)]; simp [hlen]
       refine ⟨tvs ++ [⟨xs[n], A, c⟩], ?_, fun k hk b hb => ?_, fun x hx => ?_⟩
       · rw [List.map_append, e1, List.take_succ_eq_append_getElem (by omega)]; rfl
       · by_cases hkn : k = n
         · subst hkn
           rw [ea]
           have := congrArg (fun l : List Value => l[b]?) e4
           simp only [List.getElem?_take, if_pos hb, List.getElem?_drop] at this
           exact this
         · rw [e2 k (by omega) b hb, atL_get (by omega), atL_get (by simp; omega), List.getElem_append_left (by omega)]
       · rcases List.mem_append.1 hx with hx | hx
         · exact e3 x hx
         · obtain rfl : x = ⟨xs[n], A, c⟩ := by simpa using hx
           show RTm w B d xs[n] [_, _, _, _]
           rw [e4] at hr
           exact hr
   obtain ⟨tvs, e1, e2, e3⟩ := key xs.length (Nat.le_refl _)
   rw [List.take_length] at e1
   have hlen : tvs.length = xs.length := by rw [← e1, List.length_map]
   refine ⟨g, cap, tvs, cur, hv, hg, e1, ⟨T, hh⟩, fun k hk b hb => ?_, e3, k1, by unfold maxLen at k2; omega⟩
   have hk4 : (TmR d).k = 4 := rfl
   rw [← e2 k (by omega) b hb, ← k4, List.getElem?_take, if_pos (by rw [hk4]; omega), Array.getElem?_toList]
end Go.Proofs.YtiplipdigabidaaGreat
