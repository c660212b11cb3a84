/- op.number, op.truth, (op.pair).both, op.Kinds. -/
import Derived.Test.YtiplipdigabidaaGreatOwn
set_option linter.unusedVariables false
set_option linter.unusedSimpArgs false
namespace Go.Proofs.YtiplipdigabidaaGreat
open Go.ChangeShapes Go.WideShapes Go.ChangeAt Go.RowKit

/-- A term that is told: its cells lie in a block of the call's own. -/
theorem ret_tm {fn : Func} {tmps : Array Value} {p : Tmp} {g : Nat} {w : World} {cs : Array Value} (h : fn.results = #[.cell p 33]) (hp : tmps.getD p undef = .pointer (some ⟨g, 0, none⟩)) (hb : Blk w g cs) (hn : cs.size = 4) :
    (results fn tmps).run Tryz.prog w = .ok (.agg cs) w := by
  obtain ⟨T, hb⟩ := hb
  exact results_cell_row h tmps w g T cs (0, 0) _ hp hb Tryz.underlying33 rfl (by rw [hn]; kernel_rfl)
theorem ret_tm2 {fn : Func} {tmps : Array Value} {p u : Tmp} {g : Nat} {w : World} {cs : Array Value} (h : fn.results = #[.cell p 33, .tmp u]) (hp : tmps.getD p undef = .pointer (some ⟨g, 0, none⟩)) (hb : Blk w g cs) (hn : cs.size = 4) :
    (results fn tmps).run Tryz.prog w = .ok (.tuple #[.agg cs, tmps.getD u undef]) w := by
  obtain ⟨T, hb⟩ := hb
  rw [results_cell_tmp h]
  have e : tmps[p]?.getD undef = .pointer (some ⟨g, 0, none⟩) := by simpa using hp
  have e1 : ((asAddr (tmps.getD p undef)).run Tryz.prog w) = .ok ⟨g, 0, none⟩ w := by simp [e, asAddr]
  rw [e1, Result.andThen_ok, run_loadVar_row w g T 33 cs (0, 0) _ hb Tryz.underlying33 rfl (by rw [hn]; kernel_rfl), Result.andThen_ok]

set_option maxHeartbeats 400000 in
theorem number_any (n : Int) (w : World) :
    Calls Tryz.prog 86 #[.int .i64 n] w fun e w' => e = .returned (.agg #[.int .i64 2, .int .i64 n, .string ⟨#[]⟩, .slice none 0 0]) ∧ Below w.heap.size w w' := by
  go_enter Tryz.func86, Tryz.ntmps86
  go_wp2_with fail
  refine bodyPost_ret (ret_tm rfl rfl (n11 rfl) rfl) rfl ?_
  exact ⟨rfl, (Below.refl _ _).alloc (Nat.le_refl _) _⟩

/-- A truth as a number. -/
def bit (b : Bool) : Int := if b then 1 else 0

set_option maxHeartbeats 400000 in
theorem truth_any (b : Bool) (w : World) :
    Calls Tryz.prog 84 #[.bool b] w fun e w' => e = .returned (.agg #[.int .i64 6, .int .i64 (bit b), .string ⟨#[]⟩, .slice none 0 0]) ∧ Below w.heap.size w w' := by
  cases b
  all_goals
    go_enter Tryz.func84, Tryz.ntmps84
    go_wp2_with fail
    refine bodyPost_ret (ret_tm rfl rfl (n11 rfl) rfl) rfl ?_
    exact ⟨rfl, (Below.refl _ _).alloc (Nat.le_refl _) _⟩

def bothB (ks : List Int) (a b : Int) : Bool := ks.any fun k => decide (a = k) && decide (b = k)

set_option maxHeartbeats 1000000 in
theorem both_any (ks : List Int) (a b : Int) (g c : Nat) (w : World) (hks : Blk w g (ks.map (Value.int .i64)).toArray) (hn : ks.length ≤ 1000000) :
    Calls Tryz.prog 115 #[.agg #[.int .i64 a, .int .i64 b], .slice (some ⟨g, 0, none⟩) ks.length c] w fun e w' => e = .returned (.bool (bothB ks a b)) ∧ Below w.heap.size w w' := by
  have hc : ∀ i (h : i < ks.length), w.cell? ⟨g, i, none⟩ = some (.int .i64 ks[i]) := fun i h => by
    have := hks.cell i
    rw [this]
    simp [h]
  have hg := hks.lt
  clear hks
  go_enter Tryz.func115, Tryz.ntmps115
  go_wp2_with fail
  generalize hW : World.alloc _ _ = w1
  obtain ⟨hb, hz⟩ := al1 hW
  have b_p := n11 hW
  have HB := Lib.hid hb
  have HC := Lib.hid (fun i (h : i < ks.length) => (hb.cell (p := ⟨g, i, none⟩) hg).trans (hc i h))
  have hg1 : g < w1.heap.size := by omega
  clear hW hb hc hg
  go_loop [9] (fun i => ∃ k : Nat, k ≤ ks.length ∧ i = .int .i64 k ∧ ∀ i, i < k → ∀ h : i < ks.length, (decide (a = ks[i]) && decide (b = ks[i])) = false) (fun i => ks.length - (intOf i).toNat)
  case atStart => exact ⟨0, Nat.zero_le _, rfl, fun i h => absurd h (by omega)⟩
  case round =>
    obtain ⟨k, hk, rfl, hall⟩ := hrel
    have HA := Lib.hid hall
    clear hall
    by_cases hlt : k < ks.length
    · have hck := HC.out k hlt
      have k_p := b_p.cell
      have l_p := b_p.lt
      generalize hx : ks[k] = x at hck
      have HX := Lib.hid hx
      clear hx
      have h3 : (a == x) = false ∨ (a == x) = true ∧ (b == x) = false ∨ (a == x) = true ∧ (b == x) = true := by cases (a == x) <;> cases (b == x) <;> simp
      rcases h3 with h1 | ⟨h1, h2⟩ | ⟨h1, h2⟩
      · go_wp2_with fail
        go_round
        case rel => exact ⟨k + 1, by omega, by go_num, fun i hi h => by
          rcases Nat.lt_or_ge i k with h4 | h4
          · exact HA.out i h4 h
          · obtain rfl : i = k := by omega
            rw [HX.out]; simp only [beq_eq_false_iff_ne] at h1; simp [h1]⟩
        case measure => simp [intOf]; omega
      · go_wp2_with fail
        go_round
        case rel => exact ⟨k + 1, by omega, by go_num, fun i hi h => by
          rcases Nat.lt_or_ge i k with h4 | h4
          · exact HA.out i h4 h
          · obtain rfl : i = k := by omega
            rw [HX.out]; simp only [beq_eq_false_iff_ne] at h2; simp [h2]⟩
        case measure => simp [intOf]; omega
      · go_wp2_with fail
        go_ret
        refine ⟨ret_bool ?_, HB.out⟩
        rw [eq_comm, bothB, List.any_eq_true]
        exact ⟨x, by rw [← HX.out]; exact List.getElem_mem _, by simp only [beq_iff_eq] at h1 h2; simp [h1, h2]⟩
    · go_wp2_with fail
      go_ret
      refine ⟨ret_bool ?_, HB.out⟩
      rw [eq_comm, bothB, List.any_eq_false]
      intro x hx
      obtain ⟨i, hi, rfl⟩ := List.getElem_of_mem hx
      rw [HA.out i (by omega) hi]
      simp

def kindsB (code a b : Int) : Bool :=
  if code = 1 ∨ code = 2 ∨ code = 3 ∨ code = 4 then bothB [2, 4] a b
  else if code = 5 ∨ code = 6 then decide (a = b) && decide (2 ≤ a) && decide (a ≤ 7)
  else if code = 7 then bothB [2, 3] a b
  else if code = 8 ∨ code = 9 ∨ code = 10 ∨ code = 17 ∨ code = 18 ∨ code = 19 then bothB [2] a b
  else if code = 11 then (decide (a = 7) && decide (2 ≤ b) && decide (b ≤ 7)) || bothB [3] a b
  else if code = 12 ∨ code = 13 then bothB [3, 5] a b
  else if code = 14 then bothB [3] a b
  else if code = 15 ∨ code = 16 then bothB [7] a b
  else false

theorem c11 {a b : Int} (h : ¬ (a = 7 ∧ 2 ≤ b ∧ b ≤ 7)) : bothB [3] a b = kindsB 11 a b := by
  show _ = ((decide (a = 7) && decide (2 ≤ b) && decide (b ≤ 7)) || bothB [3] a b)
  have hf : (decide (a = 7) && decide (2 ≤ b) && decide (b ≤ 7)) = false := by
    rw [Bool.eq_false_iff]
    simp only [ne_eq, Bool.and_eq_true, decide_eq_true_eq]
    omega
  rw [hf, Bool.false_or]

set_option maxHeartbeats 4000000 in
theorem kinds_any (code a b : Int) (w : World) :
    Calls Tryz.prog 87 #[.int .i64 code, .int .i64 a, .int .i64 b] w fun e w' => e = .returned (.bool (kindsB code a b)) ∧ Below w.heap.size w w' := by
  have hc : code < 1 ∨ code > 19 ∨ code = 1 ∨ code = 2 ∨ code = 3 ∨ code = 4 ∨ code = 5 ∨ code = 6 ∨ code = 7 ∨ code = 8 ∨ code = 9 ∨ code = 10 ∨ code = 11 ∨ code = 12 ∨ code = 13 ∨ code = 14 ∨ code = 15 ∨ code = 16 ∨ code = 17 ∨ code = 18 ∨ code = 19 := by omega
  rcases hc with h | h | rfl | rfl | rfl | rfl | rfl | rfl | rfl | rfl | rfl | rfl | rfl | rfl | rfl | rfl | rfl | rfl | rfl | rfl | rfl
  · have e : kindsB code a b = false := by unfold kindsB; (repeat rw [if_neg (by omega)])
    rw [e]
    go_enter Tryz.func87, Tryz.ntmps87
    go_wp2_with fail
    go_ret
    exact ⟨rfl, (Below.refl _ _).alloc (Nat.le_refl _) _⟩
  · have e : kindsB code a b = false := by unfold kindsB; (repeat rw [if_neg (by omega)])
    rw [e]
    go_enter Tryz.func87, Tryz.ntmps87
    go_wp2_with fail
    go_ret
    exact ⟨rfl, (Below.refl _ _).alloc (Nat.le_refl _) _⟩
  · go_enter Tryz.func87, Tryz.ntmps87
    go_wp2_with fail
    generalize hW : World.alloc _ _ = w1
    obtain ⟨hb, hz⟩ := al2 hW
    refine (both_any [2, 4] a b (w.heap.size + 1) 2 w1 (n22 hW) (by simp)).mono ?_
    rintro e w2 ⟨rfl, hb2⟩
    have HB2 := Lib.hid (bthen hb hb2)
    clear hW hb hb2
    go_wp2_with fail
    go_ret
    exact ⟨ret_bool (rfl), HB2.out⟩
  · go_enter Tryz.func87, Tryz.ntmps87
    go_wp2_with fail
    generalize hW : World.alloc _ _ = w1
    obtain ⟨hb, hz⟩ := al2 hW
    refine (both_any [2, 4] a b (w.heap.size + 1) 2 w1 (n22 hW) (by simp)).mono ?_
    rintro e w2 ⟨rfl, hb2⟩
    have HB2 := Lib.hid (bthen hb hb2)
    clear hW hb hb2
    go_wp2_with fail
    go_ret
    exact ⟨ret_bool (rfl), HB2.out⟩
  · go_enter Tryz.func87, Tryz.ntmps87
    go_wp2_with fail
    generalize hW : World.alloc _ _ = w1
    obtain ⟨hb, hz⟩ := al2 hW
    refine (both_any [2, 4] a b (w.heap.size + 1) 2 w1 (n22 hW) (by simp)).mono ?_
    rintro e w2 ⟨rfl, hb2⟩
    have HB2 := Lib.hid (bthen hb hb2)
    clear hW hb hb2
    go_wp2_with fail
    go_ret
    exact ⟨ret_bool (rfl), HB2.out⟩
  · go_enter Tryz.func87, Tryz.ntmps87
    go_wp2_with fail
    generalize hW : World.alloc _ _ = w1
    obtain ⟨hb, hz⟩ := al2 hW
    refine (both_any [2, 4] a b (w.heap.size + 1) 2 w1 (n22 hW) (by simp)).mono ?_
    rintro e w2 ⟨rfl, hb2⟩
    have HB2 := Lib.hid (bthen hb hb2)
    clear hW hb hb2
    go_wp2_with fail
    go_ret
    exact ⟨ret_bool (rfl), HB2.out⟩
  · have h3 : (a == b) = false ∨ (a == b) = true ∧ decide (a ≥ 2) = false ∨ (a == b) = true ∧ decide (a ≥ 2) = true ∧ decide (a ≤ 7) = false ∨ (a == b) = true ∧ decide (a ≥ 2) = true ∧ decide (a ≤ 7) = true := by cases (a == b) <;> cases decide (a ≥ 2) <;> cases decide (a ≤ 7) <;> simp
    rcases h3 with h1 | ⟨h1, h2⟩ | ⟨h1, h2, h3⟩ | ⟨h1, h2, h3⟩
    all_goals
      have H1 := Lib.hid h1
      go_enter Tryz.func87, Tryz.ntmps87
      go_wp2_with fail
      go_ret
      exact ⟨ret_bool (by simp only [beq_iff_eq, beq_eq_false_iff_ne, decide_eq_true_eq, decide_eq_false_iff_not] at *; simp [kindsB]; try omega), (Below.refl _ _).alloc (Nat.le_refl _) _⟩
  · have h3 : (a == b) = false ∨ (a == b) = true ∧ decide (a ≥ 2) = false ∨ (a == b) = true ∧ decide (a ≥ 2) = true ∧ decide (a ≤ 7) = false ∨ (a == b) = true ∧ decide (a ≥ 2) = true ∧ decide (a ≤ 7) = true := by cases (a == b) <;> cases decide (a ≥ 2) <;> cases decide (a ≤ 7) <;> simp
    rcases h3 with h1 | ⟨h1, h2⟩ | ⟨h1, h2, h3⟩ | ⟨h1, h2, h3⟩
    all_goals
      have H1 := Lib.hid h1
      go_enter Tryz.func87, Tryz.ntmps87
      go_wp2_with fail
      go_ret
      exact ⟨ret_bool (by simp only [beq_iff_eq, beq_eq_false_iff_ne, decide_eq_true_eq, decide_eq_false_iff_not] at *; simp [kindsB]; try omega), (Below.refl _ _).alloc (Nat.le_refl _) _⟩
  · go_enter Tryz.func87, Tryz.ntmps87
    go_wp2_with fail
    generalize hW : World.alloc _ _ = w1
    obtain ⟨hb, hz⟩ := al2 hW
    refine (both_any [2, 3] a b (w.heap.size + 1) 2 w1 (n22 hW) (by simp)).mono ?_
    rintro e w2 ⟨rfl, hb2⟩
    have HB2 := Lib.hid (bthen hb hb2)
    clear hW hb hb2
    go_wp2_with fail
    go_ret
    exact ⟨ret_bool (rfl), HB2.out⟩
  · go_enter Tryz.func87, Tryz.ntmps87
    go_wp2_with fail
    generalize hW : World.alloc _ _ = w1
    obtain ⟨hb, hz⟩ := al2 hW
    refine (both_any [2] a b (w.heap.size + 1) 1 w1 (n22 hW) (by simp)).mono ?_
    rintro e w2 ⟨rfl, hb2⟩
    have HB2 := Lib.hid (bthen hb hb2)
    clear hW hb hb2
    go_wp2_with fail
    go_ret
    exact ⟨ret_bool (rfl), HB2.out⟩
  · go_enter Tryz.func87, Tryz.ntmps87
    go_wp2_with fail
    generalize hW : World.alloc _ _ = w1
    obtain ⟨hb, hz⟩ := al2 hW
    refine (both_any [2] a b (w.heap.size + 1) 1 w1 (n22 hW) (by simp)).mono ?_
    rintro e w2 ⟨rfl, hb2⟩
    have HB2 := Lib.hid (bthen hb hb2)
    clear hW hb hb2
    go_wp2_with fail
    go_ret
    exact ⟨ret_bool (rfl), HB2.out⟩
  · go_enter Tryz.func87, Tryz.ntmps87
    go_wp2_with fail
    generalize hW : World.alloc _ _ = w1
    obtain ⟨hb, hz⟩ := al2 hW
    refine (both_any [2] a b (w.heap.size + 1) 1 w1 (n22 hW) (by simp)).mono ?_
    rintro e w2 ⟨rfl, hb2⟩
    have HB2 := Lib.hid (bthen hb hb2)
    clear hW hb hb2
    go_wp2_with fail
    go_ret
    exact ⟨ret_bool (rfl), HB2.out⟩
  · go_enter Tryz.func87, Tryz.ntmps87
    go_wp2_with fail
    all_goals first
      | (go_ret
         exact ⟨ret_bool (by simp [kindsB]; try omega), (Below.refl _ _).alloc (Nat.le_refl _) _⟩)
      | (generalize hW : World.alloc _ _ = w1
         obtain ⟨hb, hz⟩ := al2 hW
         refine (both_any [3] _ b (w.heap.size + 1) 1 w1 (n22 hW) (by simp)).mono ?_
         rintro e w2 ⟨rfl, hb2⟩
         have HB2 := Lib.hid (bthen hb hb2)
         clear hW hb hb2
         go_wp2_with fail
         go_ret
         refine ⟨ret_bool ?_, HB2.out⟩
         have hc11 := c11 (a := a) (b := b) (by omega)
         first
           | exact hc11
           | (have ha : a = 7 := by assumption
              exact (congrArg (fun x => bothB [3] x b) ha.symm).trans hc11)
           | (have ha : a = 7 := by assumption
              have hb7 : ¬ b ≤ 7 := by omega
              rw [decide_eq_false hb7, Bool.false_or]
              exact (congrArg (fun x => bothB [3] x b) ha.symm).trans hc11))
  · go_enter Tryz.func87, Tryz.ntmps87
    go_wp2_with fail
    generalize hW : World.alloc _ _ = w1
    obtain ⟨hb, hz⟩ := al2 hW
    refine (both_any [3, 5] a b (w.heap.size + 1) 2 w1 (n22 hW) (by simp)).mono ?_
    rintro e w2 ⟨rfl, hb2⟩
    have HB2 := Lib.hid (bthen hb hb2)
    clear hW hb hb2
    go_wp2_with fail
    go_ret
    exact ⟨ret_bool (rfl), HB2.out⟩
  · go_enter Tryz.func87, Tryz.ntmps87
    go_wp2_with fail
    generalize hW : World.alloc _ _ = w1
    obtain ⟨hb, hz⟩ := al2 hW
    refine (both_any [3, 5] a b (w.heap.size + 1) 2 w1 (n22 hW) (by simp)).mono ?_
    rintro e w2 ⟨rfl, hb2⟩
    have HB2 := Lib.hid (bthen hb hb2)
    clear hW hb hb2
    go_wp2_with fail
    go_ret
    exact ⟨ret_bool (rfl), HB2.out⟩
  · go_enter Tryz.func87, Tryz.ntmps87
    go_wp2_with fail
    generalize hW : World.alloc _ _ = w1
    obtain ⟨hb, hz⟩ := al2 hW
    refine (both_any [3] a b (w.heap.size + 1) 1 w1 (n22 hW) (by simp)).mono ?_
    rintro e w2 ⟨rfl, hb2⟩
    have HB2 := Lib.hid (bthen hb hb2)
    clear hW hb hb2
    go_wp2_with fail
    go_ret
    exact ⟨ret_bool (rfl), HB2.out⟩
  · go_enter Tryz.func87, Tryz.ntmps87
    go_wp2_with fail
    generalize hW : World.alloc _ _ = w1
    obtain ⟨hb, hz⟩ := al2 hW
    refine (both_any [7] a b (w.heap.size + 1) 1 w1 (n22 hW) (by simp)).mono ?_
    rintro e w2 ⟨rfl, hb2⟩
    have HB2 := Lib.hid (bthen hb hb2)
    clear hW hb hb2
    go_wp2_with fail
    go_ret
    exact ⟨ret_bool (rfl), HB2.out⟩
  · go_enter Tryz.func87, Tryz.ntmps87
    go_wp2_with fail
    generalize hW : World.alloc _ _ = w1
    obtain ⟨hb, hz⟩ := al2 hW
    refine (both_any [7] a b (w.heap.size + 1) 1 w1 (n22 hW) (by simp)).mono ?_
    rintro e w2 ⟨rfl, hb2⟩
    have HB2 := Lib.hid (bthen hb hb2)
    clear hW hb hb2
    go_wp2_with fail
    go_ret
    exact ⟨ret_bool (rfl), HB2.out⟩
  · go_enter Tryz.func87, Tryz.ntmps87
    go_wp2_with fail
    generalize hW : World.alloc _ _ = w1
    obtain ⟨hb, hz⟩ := al2 hW
    refine (both_any [2] a b (w.heap.size + 1) 1 w1 (n22 hW) (by simp)).mono ?_
    rintro e w2 ⟨rfl, hb2⟩
    have HB2 := Lib.hid (bthen hb hb2)
    clear hW hb hb2
    go_wp2_with fail
    go_ret
    exact ⟨ret_bool (rfl), HB2.out⟩
  · go_enter Tryz.func87, Tryz.ntmps87
    go_wp2_with fail
    generalize hW : World.alloc _ _ = w1
    obtain ⟨hb, hz⟩ := al2 hW
    refine (both_any [2] a b (w.heap.size + 1) 1 w1 (n22 hW) (by simp)).mono ?_
    rintro e w2 ⟨rfl, hb2⟩
    have HB2 := Lib.hid (bthen hb hb2)
    clear hW hb hb2
    go_wp2_with fail
    go_ret
    exact ⟨ret_bool (rfl), HB2.out⟩
  · go_enter Tryz.func87, Tryz.ntmps87
    go_wp2_with fail
    generalize hW : World.alloc _ _ = w1
    obtain ⟨hb, hz⟩ := al2 hW
    refine (both_any [2] a b (w.heap.size + 1) 1 w1 (n22 hW) (by simp)).mono ?_
    rintro e w2 ⟨rfl, hb2⟩
    have HB2 := Lib.hid (bthen hb hb2)
    clear hW hb hb2
    go_wp2_with fail
    go_ret
    exact ⟨ret_bool (rfl), HB2.out⟩
end Go.Proofs.YtiplipdigabidaaGreat
