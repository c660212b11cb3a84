/- viaticumlaw11.OpInts. -/
import Derived.Test.YteopojoflhmiiaaOpAwake
set_option linter.unusedVariables false
set_option linter.unusedSimpArgs false
namespace Go.Proofs.Yteopojoflhmiiaa
open Go.ChangeShapes Go.WideShapes Go.ChangeAt Go.RowKit

theorem recR_ok {code a b : Int} (h : recE code a b = 0) : recR code a b = (2, recV code a b, 0) := by unfold recR; rw [if_pos h]
theorem recR_no {code a b e : Int} (h : recE code a b = e) (he : e ≠ 0) : recR code a b = (0, 0, e) := by unfold recR; rw [h, if_neg he]
theorem recE_of {code a b : Int} (hc : ¬ (code = 10 ∧ b = 0)) (h : I64 (recV code a b)) : recE code a b = 0 := by unfold recE; rw [if_neg hc, (fitsB_iff _).2 h]; rfl
theorem recE_not {code a b : Int} (hc : ¬ (code = 10 ∧ b = 0)) (h : ¬ I64 (recV code a b)) : recE code a b = 5 := by unfold recE; rw [if_neg hc, (fitsB_not _).2 h]; rfl
theorem add_yes {a b : Int} (ha : I64 a) (h : I64 (a + b)) : recR 7 a b = (2, a + b, 0) ∧ recR 8 (a + b) b = (2, a, 0) := by
  refine ⟨recR_ok (recE_of (by omega) h), ?_⟩
  have e : recV 8 (a + b) b = a := by show a + b - b = a; omega
  have := recR_ok (code := 8) (a := a + b) (b := b) (recE_of (by omega) (by rw [e]; exact ha))
  rw [e] at this
  exact this
theorem add_no {a b : Int} (ha : I64 a) (hb : I64 b) (h : ¬ I64 (a + b)) : recR 7 a b = (0, 0, 5) ∧ (decide (a < 0) == decide (b < 0)) = true := by
  refine ⟨recR_no (recE_not (by omega) h) (by omega), ?_⟩
  unfold I64 at *
  simp only [beq_iff_eq, decide_eq_decide]
  omega
theorem mul_cases {a b : Int} (ha : I64 a) (hb : I64 b) (h0 : ¬ b = 0) : (recR 9 a b = (0, 0, 5)) ∨ ∃ p, I64 p ∧ recR 9 a b = (2, p, 0) ∧ recR 10 p b = (2, a, 0) := by
  rcases Classical.em (I64 (a * b)) with h | h
  · refine .inr ⟨a * b, h, recR_ok (recE_of (by omega) h), ?_⟩
    have e : recV 10 (a * b) b = a := Int.mul_tdiv_cancel a h0
    have := recR_ok (code := 10) (a := a * b) (b := b) (recE_of (by omega) (by rw [e]; exact ha))
    rw [e] at this
    exact this
  · exact .inl (recR_no (recE_not (by omega) h) (by omega))
theorem div_zero (a : Int) : recR 10 a 0 = (0, 0, 6) := by
  have h : recE 10 a 0 = 6 := rfl
  exact recR_no h (by omega)
theorem mul_zero' (a : Int) : recR 9 a 0 = (2, 0, 0) := by
  have e : recV 9 a 0 = 0 := Int.mul_zero a
  have := recR_ok (code := 9) (a := a) (b := 0) (recE_of (by omega) (by rw [e]; unfold I64; omega))
  rw [e] at this
  exact this
theorem div_cases {a b : Int} (ha : I64 a) (hb : I64 b) (h0 : ¬ b = 0) :
    (recR 10 a b = (0, 0, 5) ∧ a ≤ -9223372036854775808 ∧ b ≤ -1 ∧ -1 ≤ b) ∨
    ∃ q p r, recR 10 a b = (2, q, 0) ∧ I64 q ∧ wrap64 (q * b) = p ∧ a - p = r ∧ I64 p ∧ I64 r ∧ (0 ≤ r ∨ a < 0) ∧ (r ≤ 0 ∨ 0 < a) ∧ (b < 0 ∨ (-b < r ∧ r < b)) ∧ (0 < b ∨ (b < r ∧ r < -b)) := by
  rcases Classical.em (I64 (a.tdiv b)) with h | h
  · refine .inr ⟨a.tdiv b, a - a.tmod b, a.tmod b, recR_ok (recE_of (by omega) h), h, ?_⟩
    have e := Int.tdiv_mul_add_tmod a b
    have hn : (a.tmod b).natAbs = a.natAbs % b.natAbs := Int.natAbs_tmod a b
    have hlt := Nat.mod_lt a.natAbs (show b.natAbs > 0 by omega)
    have hle := Nat.mod_le a.natAbs b.natAbs
    have hs : (0 ≤ a → 0 ≤ a.tmod b) ∧ (a ≤ 0 → a.tmod b ≤ 0) := by
      refine ⟨fun h => Int.tmod_nonneg b h, fun h => ?_⟩
      have := Int.tmod_nonneg (a := -a) b (by omega)
      rw [Int.neg_tmod] at this
      omega
    generalize a.tmod b = r at *
    generalize a.tdiv b * b = m at *
    have ez : a = 0 → r = 0 := by omega
    unfold I64 at *
    refine ⟨by rw [wrapI]; split <;> omega, by omega, by omega, by omega, by omega, by omega, by omega, by omega⟩
  · refine .inl ⟨recR_no (recE_not (by omega) h) (by omega), ?_⟩
    rcases Decidable.em (b = -1) with h1 | h1
    · subst h1
      rw [Int.tdiv_neg, Int.tdiv_one] at h
      unfold I64 at *
      omega
    · exact absurd (div_bounds ha h0 h1) h

set_option maxRecDepth 100000 in
set_option maxHeartbeats 16000000 in
theorem opInts_any (a b : Int) (ha : I64 a) (hb : I64 b) (w : World) :
    Calls Try.prog 3 #[.int .i64 a, .int .i64 b] w fun z w' => z = .returned (.bool true) ∧ Below w.heap.size w w' := by
  have HA := Lib.hid ha
  have HB_ := Lib.hid hb
  have hadd := Classical.em (I64 (a + b))
  rcases Decidable.em (b = 0) with h0 | h0
  · subst h0
    have HS : Hid (I64 (a + 0)) := Lib.hid (by rw [Int.add_zero]; exact ha)
    have HADD := Lib.hid (add_yes ha HS.out)
    have ea : a + 0 = a := Int.add_zero a
    rw [ea] at HS HADD
    clear hadd
    unfold I64 at ha
    go_enter Try.func3, Try.ntmps3
    go_wp2_with fail
    generalize hW : World.alloc _ _ = w1
    obtain ⟨hb, hz⟩ := al2 hW
    have b_x_1 := n21 hW
    have b_y_1 := n22 hW
    have HB1 := Lib.hid hb
    clear hW hz hb
    refine (bin_reckon (code := 7) (x := a) (y := 0) (k := 2) (n := a) (e := 0) (B := 0) (vs := [_, _, _, _]) (ws := [_, _, _, _]) (int_tm _ _ HA.out) (int_tm _ _ HB_.out) (Nat.zero_le _) (fixed_int _) (fixed_int _) (by omega) HADD.out.1).mono ?_
    rintro x w2 ⟨rfl, hb⟩
    have b_x_2 := b_x_1.later hb
    have b_y_2 := b_y_1.later hb
    have HB2 := Lib.hid (bthen HB1.out hb)
    clear b_x_1 b_y_1
    clear hb
    have k_x := b_x_2.cell
    have l_x := b_x_2.lt
    have k_y := b_y_2.cell
    have l_y := b_y_2.lt
    go_wp2_with fail
    clear k_x l_x k_y l_y
    generalize hW : World.alloc _ _ = w3
    obtain ⟨hb, hz⟩ := al1 hW
    have b_s_3 := n11 hW
    have b_x_3 := b_x_2.later hb
    have b_y_3 := b_y_2.later hb
    have HB3 := Lib.hid (bthen HB2.out hb)
    clear b_x_2 b_y_2
    clear hW hz hb
    refine (bin_reckon (code := 8) (x := a) (y := 0) (k := 2) (n := a) (e := 0) (B := 0) (vs := [_, _, _, _]) (ws := [_, _, _, _]) (int_tm _ _ HS.out) (int_tm _ _ HB_.out) (Nat.zero_le _) (fixed_int _) (fixed_int _) (by omega) HADD.out.2).mono ?_
    rintro x w4 ⟨rfl, hb⟩
    have b_x_4 := b_x_3.later hb
    have b_y_4 := b_y_3.later hb
    have b_s_4 := b_s_3.later hb
    have HB4 := Lib.hid (bthen HB3.out hb)
    clear b_x_3 b_y_3 b_s_3
    clear hb
    have k_x := b_x_4.cell
    have l_x := b_x_4.lt
    have k_y := b_y_4.cell
    have l_y := b_y_4.lt
    have k_s := b_s_4.cell
    have l_s := b_s_4.lt
    go_wp2_with fail
    clear k_x l_x k_y l_y k_s l_s
    generalize hW : World.alloc _ _ = w5
    obtain ⟨hb, hz⟩ := al1 hW
    have b_d_5 := n11 hW
    have b_x_5 := b_x_4.later hb
    have b_y_5 := b_y_4.later hb
    have b_s_5 := b_s_4.later hb
    have HB5 := Lib.hid (bthen HB4.out hb)
    clear b_x_4 b_y_4 b_s_4
    clear hW hz hb
    have k_x := b_x_5.cell
    have l_x := b_x_5.lt
    have k_y := b_y_5.cell
    have l_y := b_y_5.lt
    have k_s := b_s_5.cell
    have l_s := b_s_5.lt
    have k_d := b_d_5.cell
    have l_d := b_d_5.lt
    go_wp2_with fail
    clear k_x l_x k_y l_y k_s l_s k_d l_d
    refine (bin_reckon (code := 9) (x := a) (y := 0) (k := 2) (n := 0) (e := 0) (B := 0) (vs := [_, _, _, _]) (ws := [_, _, _, _]) (int_tm _ _ HA.out) (int_tm _ _ HB_.out) (Nat.zero_le _) (fixed_int _) (fixed_int _) (by omega) (mul_zero' a)).mono ?_
    rintro x w6 ⟨rfl, hb⟩
    have b_x_6 := b_x_5.later hb
    have b_y_6 := b_y_5.later hb
    have b_s_6 := b_s_5.later hb
    have b_d_6 := b_d_5.later hb
    have HB6 := Lib.hid (bthen HB5.out hb)
    clear b_x_5 b_y_5 b_s_5 b_d_5
    clear hb
    have k_x := b_x_6.cell
    have l_x := b_x_6.lt
    have k_y := b_y_6.cell
    have l_y := b_y_6.lt
    have k_s := b_s_6.cell
    have l_s := b_s_6.lt
    have k_d := b_d_6.cell
    have l_d := b_d_6.lt
    go_wp2_with fail
    clear k_x l_x k_y l_y k_s l_s k_d l_d
    generalize hW : World.alloc _ _ = w7
    obtain ⟨hb, hz⟩ := al1 hW
    have b_p_7 := n11 hW
    have b_x_7 := b_x_6.later hb
    have b_y_7 := b_y_6.later hb
    have b_s_7 := b_s_6.later hb
    have b_d_7 := b_d_6.later hb
    have HB7 := Lib.hid (bthen HB6.out hb)
    clear b_x_6 b_y_6 b_s_6 b_d_6
    clear hW hz hb
    have k_x := b_x_7.cell
    have l_x := b_x_7.lt
    have k_y := b_y_7.cell
    have l_y := b_y_7.lt
    have k_s := b_s_7.cell
    have l_s := b_s_7.lt
    have k_d := b_d_7.cell
    have l_d := b_d_7.lt
    have k_p := b_p_7.cell
    have l_p := b_p_7.lt
    go_wp2_with fail
    clear k_x l_x k_y l_y k_s l_s k_d l_d k_p l_p
    refine (bin_reckon (code := 10) (x := a) (y := 0) (k := 0) (n := 0) (e := 6) (B := 0) (vs := [_, _, _, _]) (ws := [_, _, _, _]) (int_tm _ _ HA.out) (int_tm _ _ HB_.out) (Nat.zero_le _) (fixed_int _) (fixed_int _) (by omega) (div_zero a)).mono ?_
    rintro x w8 ⟨rfl, hb⟩
    have b_x_8 := b_x_7.later hb
    have b_y_8 := b_y_7.later hb
    have b_s_8 := b_s_7.later hb
    have b_d_8 := b_d_7.later hb
    have b_p_8 := b_p_7.later hb
    have HB8 := Lib.hid (bthen HB7.out hb)
    clear b_x_7 b_y_7 b_s_7 b_d_7 b_p_7
    clear hb
    have k_x := b_x_8.cell
    have l_x := b_x_8.lt
    have k_y := b_y_8.cell
    have l_y := b_y_8.lt
    have k_s := b_s_8.cell
    have l_s := b_s_8.lt
    have k_d := b_d_8.cell
    have l_d := b_d_8.lt
    have k_p := b_p_8.cell
    have l_p := b_p_8.lt
    go_wp2_with fail
    clear k_x l_x k_y l_y k_s l_s k_d l_d k_p l_p
    generalize hW : World.alloc _ _ = w9
    obtain ⟨hb, hz⟩ := al1 hW
    have b_q_9 := n11 hW
    have b_x_9 := b_x_8.later hb
    have b_y_9 := b_y_8.later hb
    have b_s_9 := b_s_8.later hb
    have b_d_9 := b_d_8.later hb
    have b_p_9 := b_p_8.later hb
    have HB9 := Lib.hid (bthen HB8.out hb)
    clear b_x_8 b_y_8 b_s_8 b_d_8 b_p_8
    clear hW hz hb
    have k_x := b_x_9.cell
    have l_x := b_x_9.lt
    have k_y := b_y_9.cell
    have l_y := b_y_9.lt
    have k_s := b_s_9.cell
    have l_s := b_s_9.lt
    have k_d := b_d_9.cell
    have l_d := b_d_9.lt
    have k_p := b_p_9.cell
    have l_p := b_p_9.lt
    have k_q := b_q_9.cell
    have l_q := b_q_9.lt
    go_wp2_with fail
    clear k_x l_x k_y l_y k_s l_s k_d l_d k_p l_p k_q l_q
    refine (awake_any _).mono ?_
    rintro x w10 ⟨rfl, hb⟩
    have b_x_10 := b_x_9.later hb
    have b_y_10 := b_y_9.later hb
    have b_s_10 := b_s_9.later hb
    have b_d_10 := b_d_9.later hb
    have b_p_10 := b_p_9.later hb
    have b_q_10 := b_q_9.later hb
    have HB10 := Lib.hid (bthen HB9.out hb)
    clear b_x_9 b_y_9 b_s_9 b_d_9 b_p_9 b_q_9
    clear hb
    have k_x := b_x_10.cell
    have l_x := b_x_10.lt
    have k_y := b_y_10.cell
    have l_y := b_y_10.lt
    have k_s := b_s_10.cell
    have l_s := b_s_10.lt
    have k_d := b_d_10.cell
    have l_d := b_d_10.lt
    have k_p := b_p_10.cell
    have l_p := b_p_10.lt
    have k_q := b_q_10.cell
    have l_q := b_q_10.lt
    go_wp2_with fail
    clear k_x l_x k_y l_y k_s l_s k_d l_d k_p l_p k_q l_q
    go_ret
    first
      | exact ⟨rfl, HB10.out⟩
      | exact ⟨ret_bool (by simp only [Bool.or_eq_true, Bool.and_eq_true, decide_eq_true_eq, beq_iff_eq]; omega), HB10.out⟩
  · have hb0 : (b == 0) = false := by simpa using h0
    have hmul := mul_cases ha hb h0
    have hdiv := div_cases ha hb h0
    unfold I64 at ha hb
    rcases (show b < 0 ∨ 0 < b by omega) with hs | hs
    · rcases hadd with hadd | hadd
      · have HADD := Lib.hid (add_yes HA.out hadd)
        have HS := Lib.hid hadd
        unfold I64 at hadd
        go_enter Try.func3, Try.ntmps3
        go_wp2_with fail
        generalize hW : World.alloc _ _ = w1
        obtain ⟨hb, hz⟩ := al2 hW
        have b_x_1 := n21 hW
        have b_y_1 := n22 hW
        have HB1 := Lib.hid hb
        clear hW hz hb
        refine (bin_reckon (code := 7) (x := a) (y := b) (k := 2) (n := (a + b)) (e := 0) (B := 0) (vs := [_, _, _, _]) (ws := [_, _, _, _]) (int_tm _ _ HA.out) (int_tm _ _ HB_.out) (Nat.zero_le _) (fixed_int _) (fixed_int _) (by omega) HADD.out.1).mono ?_
        rintro x w2 ⟨rfl, hb⟩
        have b_x_2 := b_x_1.later hb
        have b_y_2 := b_y_1.later hb
        have HB2 := Lib.hid (bthen HB1.out hb)
        clear b_x_1 b_y_1
        clear hb
        have k_x := b_x_2.cell
        have l_x := b_x_2.lt
        have k_y := b_y_2.cell
        have l_y := b_y_2.lt
        go_wp2_with fail
        clear k_x l_x k_y l_y
        generalize hW : World.alloc _ _ = w3
        obtain ⟨hb, hz⟩ := al1 hW
        have b_s_3 := n11 hW
        have b_x_3 := b_x_2.later hb
        have b_y_3 := b_y_2.later hb
        have HB3 := Lib.hid (bthen HB2.out hb)
        clear b_x_2 b_y_2
        clear hW hz hb
        refine (bin_reckon (code := 8) (x := (a + b)) (y := b) (k := 2) (n := a) (e := 0) (B := 0) (vs := [_, _, _, _]) (ws := [_, _, _, _]) (int_tm _ _ HS.out) (int_tm _ _ HB_.out) (Nat.zero_le _) (fixed_int _) (fixed_int _) (by omega) HADD.out.2).mono ?_
        rintro x w4 ⟨rfl, hb⟩
        have b_x_4 := b_x_3.later hb
        have b_y_4 := b_y_3.later hb
        have b_s_4 := b_s_3.later hb
        have HB4 := Lib.hid (bthen HB3.out hb)
        clear b_x_3 b_y_3 b_s_3
        clear hb
        have k_x := b_x_4.cell
        have l_x := b_x_4.lt
        have k_y := b_y_4.cell
        have l_y := b_y_4.lt
        have k_s := b_s_4.cell
        have l_s := b_s_4.lt
        go_wp2_with fail
        clear k_x l_x k_y l_y k_s l_s
        generalize hW : World.alloc _ _ = w5
        obtain ⟨hb, hz⟩ := al1 hW
        have b_d_5 := n11 hW
        have b_x_5 := b_x_4.later hb
        have b_y_5 := b_y_4.later hb
        have b_s_5 := b_s_4.later hb
        have HB5 := Lib.hid (bthen HB4.out hb)
        clear b_x_4 b_y_4 b_s_4
        clear hW hz hb
        have k_x := b_x_5.cell
        have l_x := b_x_5.lt
        have k_y := b_y_5.cell
        have l_y := b_y_5.lt
        have k_s := b_s_5.cell
        have l_s := b_s_5.lt
        have k_d := b_d_5.cell
        have l_d := b_d_5.lt
        go_wp2_with fail
        clear k_x l_x k_y l_y k_s l_s k_d l_d
        rcases hmul with hm | ⟨p, hpi, hm, hm2⟩
        all_goals have HM := Lib.hid hm
        all_goals clear hm
        · refine (bin_reckon (code := 9) (x := a) (y := b) (k := 0) (n := 0) (e := 5) (B := 0) (vs := [_, _, _, _]) (ws := [_, _, _, _]) (int_tm _ _ HA.out) (int_tm _ _ HB_.out) (Nat.zero_le _) (fixed_int _) (fixed_int _) (by omega) HM.out).mono ?_
          rintro x w6 ⟨rfl, hb⟩
          have b_x_6 := b_x_5.later hb
          have b_y_6 := b_y_5.later hb
          have b_s_6 := b_s_5.later hb
          have b_d_6 := b_d_5.later hb
          have HB6 := Lib.hid (bthen HB5.out hb)
          clear b_x_5 b_y_5 b_s_5 b_d_5
          clear hb
          have k_x := b_x_6.cell
          have l_x := b_x_6.lt
          have k_y := b_y_6.cell
          have l_y := b_y_6.lt
          have k_s := b_s_6.cell
          have l_s := b_s_6.lt
          have k_d := b_d_6.cell
          have l_d := b_d_6.lt
          go_wp2_with fail
          clear k_x l_x k_y l_y k_s l_s k_d l_d
          generalize hW : World.alloc _ _ = w7
          obtain ⟨hb, hz⟩ := al1 hW
          have b_p_7 := n11 hW
          have b_x_7 := b_x_6.later hb
          have b_y_7 := b_y_6.later hb
          have b_s_7 := b_s_6.later hb
          have b_d_7 := b_d_6.later hb
          have HB7 := Lib.hid (bthen HB6.out hb)
          clear b_x_6 b_y_6 b_s_6 b_d_6
          clear hW hz hb
          have k_x := b_x_7.cell
          have l_x := b_x_7.lt
          have k_y := b_y_7.cell
          have l_y := b_y_7.lt
          have k_s := b_s_7.cell
          have l_s := b_s_7.lt
          have k_d := b_d_7.cell
          have l_d := b_d_7.lt
          have k_p := b_p_7.cell
          have l_p := b_p_7.lt
          go_wp2_with fail
          clear k_x l_x k_y l_y k_s l_s k_d l_d k_p l_p
          rcases hdiv with ⟨hd, hd1, hd2, hd3⟩ | ⟨q, p', r, hd, hq, hp', hr', hp, hr, f1, f2, f3, f4⟩
          all_goals have HD := Lib.hid hd
          all_goals clear hd
          · exfalso
            omega
          · refine (bin_reckon (code := 10) (x := a) (y := b) (k := 2) (n := q) (e := 0) (B := 0) (vs := [_, _, _, _]) (ws := [_, _, _, _]) (int_tm _ _ HA.out) (int_tm _ _ HB_.out) (Nat.zero_le _) (fixed_int _) (fixed_int _) (by omega) HD.out).mono ?_
            rintro x w8 ⟨rfl, hb⟩
            have b_x_8 := b_x_7.later hb
            have b_y_8 := b_y_7.later hb
            have b_s_8 := b_s_7.later hb
            have b_d_8 := b_d_7.later hb
            have b_p_8 := b_p_7.later hb
            have HB8 := Lib.hid (bthen HB7.out hb)
            clear b_x_7 b_y_7 b_s_7 b_d_7 b_p_7
            clear hb
            rcases Int.lt_or_le (-9223372036854775808) b with hm | hm
            · have k_x := b_x_8.cell
              have l_x := b_x_8.lt
              have k_y := b_y_8.cell
              have l_y := b_y_8.lt
              have k_s := b_s_8.cell
              have l_s := b_s_8.lt
              have k_d := b_d_8.cell
              have l_d := b_d_8.lt
              have k_p := b_p_8.cell
              have l_p := b_p_8.lt
              go_wp2_with fail
              all_goals
                clear k_x l_x k_y l_y k_s l_s k_d l_d k_p l_p
                generalize hW : World.alloc _ _ = w9
                obtain ⟨hb, hz⟩ := al1 hW
                have b_q_9 := n11 hW
                have b_x_9 := b_x_8.later hb
                have b_y_9 := b_y_8.later hb
                have b_s_9 := b_s_8.later hb
                have b_d_9 := b_d_8.later hb
                have b_p_9 := b_p_8.later hb
                have HB9 := Lib.hid (bthen HB8.out hb)
                clear b_x_8 b_y_8 b_s_8 b_d_8 b_p_8
                clear hW hz hb
                refine (awake_any _).mono ?_
                rintro x w10 ⟨rfl, hb⟩
                have b_x_10 := b_x_9.later hb
                have b_y_10 := b_y_9.later hb
                have b_s_10 := b_s_9.later hb
                have b_d_10 := b_d_9.later hb
                have b_p_10 := b_p_9.later hb
                have b_q_10 := b_q_9.later hb
                have HB10 := Lib.hid (bthen HB9.out hb)
                clear b_x_9 b_y_9 b_s_9 b_d_9 b_p_9 b_q_9
                clear hb
                have k_x := b_x_10.cell
                have l_x := b_x_10.lt
                have k_y := b_y_10.cell
                have l_y := b_y_10.lt
                have k_s := b_s_10.cell
                have l_s := b_s_10.lt
                have k_d := b_d_10.cell
                have l_d := b_d_10.lt
                have k_p := b_p_10.cell
                have l_p := b_p_10.lt
                have k_q := b_q_10.cell
                have l_q := b_q_10.lt
                go_wp2_with fail
                clear k_x l_x k_y l_y k_s l_s k_d l_d k_p l_p k_q l_q
                go_ret
                first
                  | exact ⟨rfl, HB10.out⟩
                  | exact ⟨ret_bool (by simp only [Bool.or_eq_true, Bool.and_eq_true, decide_eq_true_eq, beq_iff_eq]; omega), HB10.out⟩
            · have hwm : wrap64 (-b) ≤ -9223372036854775808 := by rw [wrapI]; split <;> omega
              have k_x := b_x_8.cell
              have l_x := b_x_8.lt
              have k_y := b_y_8.cell
              have l_y := b_y_8.lt
              have k_s := b_s_8.cell
              have l_s := b_s_8.lt
              have k_d := b_d_8.cell
              have l_d := b_d_8.lt
              have k_p := b_p_8.cell
              have l_p := b_p_8.lt
              go_wp2_with fail
              all_goals
                clear k_x l_x k_y l_y k_s l_s k_d l_d k_p l_p
                generalize hW : World.alloc _ _ = w9
                obtain ⟨hb, hz⟩ := al1 hW
                have b_q_9 := n11 hW
                have b_x_9 := b_x_8.later hb
                have b_y_9 := b_y_8.later hb
                have b_s_9 := b_s_8.later hb
                have b_d_9 := b_d_8.later hb
                have b_p_9 := b_p_8.later hb
                have HB9 := Lib.hid (bthen HB8.out hb)
                clear b_x_8 b_y_8 b_s_8 b_d_8 b_p_8
                clear hW hz hb
                refine (awake_any _).mono ?_
                rintro x w10 ⟨rfl, hb⟩
                have b_x_10 := b_x_9.later hb
                have b_y_10 := b_y_9.later hb
                have b_s_10 := b_s_9.later hb
                have b_d_10 := b_d_9.later hb
                have b_p_10 := b_p_9.later hb
                have b_q_10 := b_q_9.later hb
                have HB10 := Lib.hid (bthen HB9.out hb)
                clear b_x_9 b_y_9 b_s_9 b_d_9 b_p_9 b_q_9
                clear hb
                have k_x := b_x_10.cell
                have l_x := b_x_10.lt
                have k_y := b_y_10.cell
                have l_y := b_y_10.lt
                have k_s := b_s_10.cell
                have l_s := b_s_10.lt
                have k_d := b_d_10.cell
                have l_d := b_d_10.lt
                have k_p := b_p_10.cell
                have l_p := b_p_10.lt
                have k_q := b_q_10.cell
                have l_q := b_q_10.lt
                go_wp2_with fail
                clear k_x l_x k_y l_y k_s l_s k_d l_d k_p l_p k_q l_q
                go_ret
                first
                  | exact ⟨rfl, HB10.out⟩
                  | exact ⟨ret_bool (by simp only [Bool.or_eq_true, Bool.and_eq_true, decide_eq_true_eq, beq_iff_eq]; omega), HB10.out⟩
        · have HM2 := Lib.hid hm2
          have HP := Lib.hid hpi
          clear hm2 hpi
          refine (bin_reckon (code := 9) (x := a) (y := b) (k := 2) (n := p) (e := 0) (B := 0) (vs := [_, _, _, _]) (ws := [_, _, _, _]) (int_tm _ _ HA.out) (int_tm _ _ HB_.out) (Nat.zero_le _) (fixed_int _) (fixed_int _) (by omega) HM.out).mono ?_
          rintro x w6 ⟨rfl, hb⟩
          have b_x_6 := b_x_5.later hb
          have b_y_6 := b_y_5.later hb
          have b_s_6 := b_s_5.later hb
          have b_d_6 := b_d_5.later hb
          have HB6 := Lib.hid (bthen HB5.out hb)
          clear b_x_5 b_y_5 b_s_5 b_d_5
          clear hb
          have k_x := b_x_6.cell
          have l_x := b_x_6.lt
          have k_y := b_y_6.cell
          have l_y := b_y_6.lt
          have k_s := b_s_6.cell
          have l_s := b_s_6.lt
          have k_d := b_d_6.cell
          have l_d := b_d_6.lt
          go_wp2_with fail
          clear k_x l_x k_y l_y k_s l_s k_d l_d
          generalize hW : World.alloc _ _ = w7
          obtain ⟨hb, hz⟩ := al1 hW
          have b_p_7 := n11 hW
          have b_x_7 := b_x_6.later hb
          have b_y_7 := b_y_6.later hb
          have b_s_7 := b_s_6.later hb
          have b_d_7 := b_d_6.later hb
          have HB7 := Lib.hid (bthen HB6.out hb)
          clear b_x_6 b_y_6 b_s_6 b_d_6
          clear hW hz hb
          have k_x := b_x_7.cell
          have l_x := b_x_7.lt
          have k_y := b_y_7.cell
          have l_y := b_y_7.lt
          have k_s := b_s_7.cell
          have l_s := b_s_7.lt
          have k_d := b_d_7.cell
          have l_d := b_d_7.lt
          have k_p := b_p_7.cell
          have l_p := b_p_7.lt
          go_wp2_with fail
          clear k_x l_x k_y l_y k_s l_s k_d l_d k_p l_p
          refine (bin_reckon (code := 10) (x := p) (y := b) (k := 2) (n := a) (e := 0) (B := 0) (vs := [_, _, _, _]) (ws := [_, _, _, _]) (int_tm _ _ HP.out) (int_tm _ _ HB_.out) (Nat.zero_le _) (fixed_int _) (fixed_int _) (by omega) HM2.out).mono ?_
          rintro x w8 ⟨rfl, hb⟩
          have b_x_8 := b_x_7.later hb
          have b_y_8 := b_y_7.later hb
          have b_s_8 := b_s_7.later hb
          have b_d_8 := b_d_7.later hb
          have b_p_8 := b_p_7.later hb
          have HB8 := Lib.hid (bthen HB7.out hb)
          clear b_x_7 b_y_7 b_s_7 b_d_7 b_p_7
          clear hb
          have k_x := b_x_8.cell
          have l_x := b_x_8.lt
          have k_y := b_y_8.cell
          have l_y := b_y_8.lt
          have k_s := b_s_8.cell
          have l_s := b_s_8.lt
          have k_d := b_d_8.cell
          have l_d := b_d_8.lt
          have k_p := b_p_8.cell
          have l_p := b_p_8.lt
          go_wp2_with fail
          clear k_x l_x k_y l_y k_s l_s k_d l_d k_p l_p
          generalize hW : World.alloc _ _ = w9
          obtain ⟨hb, hz⟩ := al1 hW
          have b_m_9 := n11 hW
          have b_x_9 := b_x_8.later hb
          have b_y_9 := b_y_8.later hb
          have b_s_9 := b_s_8.later hb
          have b_d_9 := b_d_8.later hb
          have b_p_9 := b_p_8.later hb
          have HB9 := Lib.hid (bthen HB8.out hb)
          clear b_x_8 b_y_8 b_s_8 b_d_8 b_p_8
          clear hW hz hb
          have k_x := b_x_9.cell
          have l_x := b_x_9.lt
          have k_y := b_y_9.cell
          have l_y := b_y_9.lt
          have k_s := b_s_9.cell
          have l_s := b_s_9.lt
          have k_d := b_d_9.cell
          have l_d := b_d_9.lt
          have k_p := b_p_9.cell
          have l_p := b_p_9.lt
          have k_m := b_m_9.cell
          have l_m := b_m_9.lt
          go_wp2_with fail
          clear k_x l_x k_y l_y k_s l_s k_d l_d k_p l_p k_m l_m
          rcases hdiv with ⟨hd, hd1, hd2, hd3⟩ | ⟨q, p', r, hd, hq, hp', hr', hp, hr, f1, f2, f3, f4⟩
          all_goals have HD := Lib.hid hd
          all_goals clear hd
          · exfalso
            omega
          · refine (bin_reckon (code := 10) (x := a) (y := b) (k := 2) (n := q) (e := 0) (B := 0) (vs := [_, _, _, _]) (ws := [_, _, _, _]) (int_tm _ _ HA.out) (int_tm _ _ HB_.out) (Nat.zero_le _) (fixed_int _) (fixed_int _) (by omega) HD.out).mono ?_
            rintro x w10 ⟨rfl, hb⟩
            have b_x_10 := b_x_9.later hb
            have b_y_10 := b_y_9.later hb
            have b_s_10 := b_s_9.later hb
            have b_d_10 := b_d_9.later hb
            have b_p_10 := b_p_9.later hb
            have b_m_10 := b_m_9.later hb
            have HB10 := Lib.hid (bthen HB9.out hb)
            clear b_x_9 b_y_9 b_s_9 b_d_9 b_p_9 b_m_9
            clear hb
            rcases Int.lt_or_le (-9223372036854775808) b with hm | hm
            · have k_x := b_x_10.cell
              have l_x := b_x_10.lt
              have k_y := b_y_10.cell
              have l_y := b_y_10.lt
              have k_s := b_s_10.cell
              have l_s := b_s_10.lt
              have k_d := b_d_10.cell
              have l_d := b_d_10.lt
              have k_p := b_p_10.cell
              have l_p := b_p_10.lt
              have k_m := b_m_10.cell
              have l_m := b_m_10.lt
              go_wp2_with fail
              all_goals
                clear k_x l_x k_y l_y k_s l_s k_d l_d k_p l_p k_m l_m
                generalize hW : World.alloc _ _ = w11
                obtain ⟨hb, hz⟩ := al1 hW
                have b_q_11 := n11 hW
                have b_x_11 := b_x_10.later hb
                have b_y_11 := b_y_10.later hb
                have b_s_11 := b_s_10.later hb
                have b_d_11 := b_d_10.later hb
                have b_p_11 := b_p_10.later hb
                have b_m_11 := b_m_10.later hb
                have HB11 := Lib.hid (bthen HB10.out hb)
                clear b_x_10 b_y_10 b_s_10 b_d_10 b_p_10 b_m_10
                clear hW hz hb
                refine (awake_any _).mono ?_
                rintro x w12 ⟨rfl, hb⟩
                have b_x_12 := b_x_11.later hb
                have b_y_12 := b_y_11.later hb
                have b_s_12 := b_s_11.later hb
                have b_d_12 := b_d_11.later hb
                have b_p_12 := b_p_11.later hb
                have b_m_12 := b_m_11.later hb
                have b_q_12 := b_q_11.later hb
                have HB12 := Lib.hid (bthen HB11.out hb)
                clear b_x_11 b_y_11 b_s_11 b_d_11 b_p_11 b_m_11 b_q_11
                clear hb
                have k_x := b_x_12.cell
                have l_x := b_x_12.lt
                have k_y := b_y_12.cell
                have l_y := b_y_12.lt
                have k_s := b_s_12.cell
                have l_s := b_s_12.lt
                have k_d := b_d_12.cell
                have l_d := b_d_12.lt
                have k_p := b_p_12.cell
                have l_p := b_p_12.lt
                have k_m := b_m_12.cell
                have l_m := b_m_12.lt
                have k_q := b_q_12.cell
                have l_q := b_q_12.lt
                go_wp2_with fail
                clear k_x l_x k_y l_y k_s l_s k_d l_d k_p l_p k_m l_m k_q l_q
                go_ret
                first
                  | exact ⟨rfl, HB12.out⟩
                  | exact ⟨ret_bool (by simp only [Bool.or_eq_true, Bool.and_eq_true, decide_eq_true_eq, beq_iff_eq]; omega), HB12.out⟩
            · have hwm : wrap64 (-b) ≤ -9223372036854775808 := by rw [wrapI]; split <;> omega
              have k_x := b_x_10.cell
              have l_x := b_x_10.lt
              have k_y := b_y_10.cell
              have l_y := b_y_10.lt
              have k_s := b_s_10.cell
              have l_s := b_s_10.lt
              have k_d := b_d_10.cell
              have l_d := b_d_10.lt
              have k_p := b_p_10.cell
              have l_p := b_p_10.lt
              have k_m := b_m_10.cell
              have l_m := b_m_10.lt
              go_wp2_with fail
              all_goals
                clear k_x l_x k_y l_y k_s l_s k_d l_d k_p l_p k_m l_m
                generalize hW : World.alloc _ _ = w11
                obtain ⟨hb, hz⟩ := al1 hW
                have b_q_11 := n11 hW
                have b_x_11 := b_x_10.later hb
                have b_y_11 := b_y_10.later hb
                have b_s_11 := b_s_10.later hb
                have b_d_11 := b_d_10.later hb
                have b_p_11 := b_p_10.later hb
                have b_m_11 := b_m_10.later hb
                have HB11 := Lib.hid (bthen HB10.out hb)
                clear b_x_10 b_y_10 b_s_10 b_d_10 b_p_10 b_m_10
                clear hW hz hb
                refine (awake_any _).mono ?_
                rintro x w12 ⟨rfl, hb⟩
                have b_x_12 := b_x_11.later hb
                have b_y_12 := b_y_11.later hb
                have b_s_12 := b_s_11.later hb
                have b_d_12 := b_d_11.later hb
                have b_p_12 := b_p_11.later hb
                have b_m_12 := b_m_11.later hb
                have b_q_12 := b_q_11.later hb
                have HB12 := Lib.hid (bthen HB11.out hb)
                clear b_x_11 b_y_11 b_s_11 b_d_11 b_p_11 b_m_11 b_q_11
                clear hb
                have k_x := b_x_12.cell
                have l_x := b_x_12.lt
                have k_y := b_y_12.cell
                have l_y := b_y_12.lt
                have k_s := b_s_12.cell
                have l_s := b_s_12.lt
                have k_d := b_d_12.cell
                have l_d := b_d_12.lt
                have k_p := b_p_12.cell
                have l_p := b_p_12.lt
                have k_m := b_m_12.cell
                have l_m := b_m_12.lt
                have k_q := b_q_12.cell
                have l_q := b_q_12.lt
                go_wp2_with fail
                clear k_x l_x k_y l_y k_s l_s k_d l_d k_p l_p k_m l_m k_q l_q
                go_ret
                first
                  | exact ⟨rfl, HB12.out⟩
                  | exact ⟨ret_bool (by simp only [Bool.or_eq_true, Bool.and_eq_true, decide_eq_true_eq, beq_iff_eq]; omega), HB12.out⟩
      · have hadd1 := (add_no HA.out HB_.out hadd).1
        have HADD := Lib.hid hadd1
        unfold I64 at hadd
        have hsa : a < 0 := by omega
        clear hadd hadd1
        go_enter Try.func3, Try.ntmps3
        go_wp2_with fail
        generalize hW : World.alloc _ _ = w1
        obtain ⟨hb, hz⟩ := al2 hW
        have b_x_1 := n21 hW
        have b_y_1 := n22 hW
        have HB1 := Lib.hid hb
        clear hW hz hb
        refine (bin_reckon (code := 7) (x := a) (y := b) (k := 0) (n := 0) (e := 5) (B := 0) (vs := [_, _, _, _]) (ws := [_, _, _, _]) (int_tm _ _ HA.out) (int_tm _ _ HB_.out) (Nat.zero_le _) (fixed_int _) (fixed_int _) (by omega) HADD.out).mono ?_
        rintro x w2 ⟨rfl, hb⟩
        have b_x_2 := b_x_1.later hb
        have b_y_2 := b_y_1.later hb
        have HB2 := Lib.hid (bthen HB1.out hb)
        clear b_x_1 b_y_1
        clear hb
        have k_x := b_x_2.cell
        have l_x := b_x_2.lt
        have k_y := b_y_2.cell
        have l_y := b_y_2.lt
        go_wp2_with fail
        clear k_x l_x k_y l_y
        generalize hW : World.alloc _ _ = w3
        obtain ⟨hb, hz⟩ := al1 hW
        have b_s_3 := n11 hW
        have b_x_3 := b_x_2.later hb
        have b_y_3 := b_y_2.later hb
        have HB3 := Lib.hid (bthen HB2.out hb)
        clear b_x_2 b_y_2
        clear hW hz hb
        have k_x := b_x_3.cell
        have l_x := b_x_3.lt
        have k_y := b_y_3.cell
        have l_y := b_y_3.lt
        have k_s := b_s_3.cell
        have l_s := b_s_3.lt
        go_wp2_with fail
        clear k_x l_x k_y l_y k_s l_s
        rcases hmul with hm | ⟨p, hpi, hm, hm2⟩
        all_goals have HM := Lib.hid hm
        all_goals clear hm
        · refine (bin_reckon (code := 9) (x := a) (y := b) (k := 0) (n := 0) (e := 5) (B := 0) (vs := [_, _, _, _]) (ws := [_, _, _, _]) (int_tm _ _ HA.out) (int_tm _ _ HB_.out) (Nat.zero_le _) (fixed_int _) (fixed_int _) (by omega) HM.out).mono ?_
          rintro x w4 ⟨rfl, hb⟩
          have b_x_4 := b_x_3.later hb
          have b_y_4 := b_y_3.later hb
          have b_s_4 := b_s_3.later hb
          have HB4 := Lib.hid (bthen HB3.out hb)
          clear b_x_3 b_y_3 b_s_3
          clear hb
          have k_x := b_x_4.cell
          have l_x := b_x_4.lt
          have k_y := b_y_4.cell
          have l_y := b_y_4.lt
          have k_s := b_s_4.cell
          have l_s := b_s_4.lt
          go_wp2_with fail
          clear k_x l_x k_y l_y k_s l_s
          generalize hW : World.alloc _ _ = w5
          obtain ⟨hb, hz⟩ := al1 hW
          have b_p_5 := n11 hW
          have b_x_5 := b_x_4.later hb
          have b_y_5 := b_y_4.later hb
          have b_s_5 := b_s_4.later hb
          have HB5 := Lib.hid (bthen HB4.out hb)
          clear b_x_4 b_y_4 b_s_4
          clear hW hz hb
          have k_x := b_x_5.cell
          have l_x := b_x_5.lt
          have k_y := b_y_5.cell
          have l_y := b_y_5.lt
          have k_s := b_s_5.cell
          have l_s := b_s_5.lt
          have k_p := b_p_5.cell
          have l_p := b_p_5.lt
          go_wp2_with fail
          clear k_x l_x k_y l_y k_s l_s k_p l_p
          rcases hdiv with ⟨hd, hd1, hd2, hd3⟩ | ⟨q, p', r, hd, hq, hp', hr', hp, hr, f1, f2, f3, f4⟩
          all_goals have HD := Lib.hid hd
          all_goals clear hd
          · refine (bin_reckon (code := 10) (x := a) (y := b) (k := 0) (n := 0) (e := 5) (B := 0) (vs := [_, _, _, _]) (ws := [_, _, _, _]) (int_tm _ _ HA.out) (int_tm _ _ HB_.out) (Nat.zero_le _) (fixed_int _) (fixed_int _) (by omega) HD.out).mono ?_
            rintro x w6 ⟨rfl, hb⟩
            have b_x_6 := b_x_5.later hb
            have b_y_6 := b_y_5.later hb
            have b_s_6 := b_s_5.later hb
            have b_p_6 := b_p_5.later hb
            have HB6 := Lib.hid (bthen HB5.out hb)
            clear b_x_5 b_y_5 b_s_5 b_p_5
            clear hb
            have k_x := b_x_6.cell
            have l_x := b_x_6.lt
            have k_y := b_y_6.cell
            have l_y := b_y_6.lt
            have k_s := b_s_6.cell
            have l_s := b_s_6.lt
            have k_p := b_p_6.cell
            have l_p := b_p_6.lt
            go_wp2_with fail
            clear k_x l_x k_y l_y k_s l_s k_p l_p
            generalize hW : World.alloc _ _ = w7
            obtain ⟨hb, hz⟩ := al1 hW
            have b_q_7 := n11 hW
            have b_x_7 := b_x_6.later hb
            have b_y_7 := b_y_6.later hb
            have b_s_7 := b_s_6.later hb
            have b_p_7 := b_p_6.later hb
            have HB7 := Lib.hid (bthen HB6.out hb)
            clear b_x_6 b_y_6 b_s_6 b_p_6
            clear hW hz hb
            have k_x := b_x_7.cell
            have l_x := b_x_7.lt
            have k_y := b_y_7.cell
            have l_y := b_y_7.lt
            have k_s := b_s_7.cell
            have l_s := b_s_7.lt
            have k_p := b_p_7.cell
            have l_p := b_p_7.lt
            have k_q := b_q_7.cell
            have l_q := b_q_7.lt
            go_wp2_with fail
            clear k_x l_x k_y l_y k_s l_s k_p l_p k_q l_q
            refine (awake_any _).mono ?_
            rintro x w8 ⟨rfl, hb⟩
            have b_x_8 := b_x_7.later hb
            have b_y_8 := b_y_7.later hb
            have b_s_8 := b_s_7.later hb
            have b_p_8 := b_p_7.later hb
            have b_q_8 := b_q_7.later hb
            have HB8 := Lib.hid (bthen HB7.out hb)
            clear b_x_7 b_y_7 b_s_7 b_p_7 b_q_7
            clear hb
            have k_x := b_x_8.cell
            have l_x := b_x_8.lt
            have k_y := b_y_8.cell
            have l_y := b_y_8.lt
            have k_s := b_s_8.cell
            have l_s := b_s_8.lt
            have k_p := b_p_8.cell
            have l_p := b_p_8.lt
            have k_q := b_q_8.cell
            have l_q := b_q_8.lt
            go_wp2_with fail
            clear k_x l_x k_y l_y k_s l_s k_p l_p k_q l_q
            go_ret
            first
              | exact ⟨rfl, HB8.out⟩
              | exact ⟨ret_bool (by simp only [Bool.or_eq_true, Bool.and_eq_true, decide_eq_true_eq, beq_iff_eq]; omega), HB8.out⟩
          · refine (bin_reckon (code := 10) (x := a) (y := b) (k := 2) (n := q) (e := 0) (B := 0) (vs := [_, _, _, _]) (ws := [_, _, _, _]) (int_tm _ _ HA.out) (int_tm _ _ HB_.out) (Nat.zero_le _) (fixed_int _) (fixed_int _) (by omega) HD.out).mono ?_
            rintro x w6 ⟨rfl, hb⟩
            have b_x_6 := b_x_5.later hb
            have b_y_6 := b_y_5.later hb
            have b_s_6 := b_s_5.later hb
            have b_p_6 := b_p_5.later hb
            have HB6 := Lib.hid (bthen HB5.out hb)
            clear b_x_5 b_y_5 b_s_5 b_p_5
            clear hb
            rcases Int.lt_or_le (-9223372036854775808) b with hm | hm
            · have k_x := b_x_6.cell
              have l_x := b_x_6.lt
              have k_y := b_y_6.cell
              have l_y := b_y_6.lt
              have k_s := b_s_6.cell
              have l_s := b_s_6.lt
              have k_p := b_p_6.cell
              have l_p := b_p_6.lt
              go_wp2_with fail
              all_goals
                clear k_x l_x k_y l_y k_s l_s k_p l_p
                generalize hW : World.alloc _ _ = w7
                obtain ⟨hb, hz⟩ := al1 hW
                have b_q_7 := n11 hW
                have b_x_7 := b_x_6.later hb
                have b_y_7 := b_y_6.later hb
                have b_s_7 := b_s_6.later hb
                have b_p_7 := b_p_6.later hb
                have HB7 := Lib.hid (bthen HB6.out hb)
                clear b_x_6 b_y_6 b_s_6 b_p_6
                clear hW hz hb
                refine (awake_any _).mono ?_
                rintro x w8 ⟨rfl, hb⟩
                have b_x_8 := b_x_7.later hb
                have b_y_8 := b_y_7.later hb
                have b_s_8 := b_s_7.later hb
                have b_p_8 := b_p_7.later hb
                have b_q_8 := b_q_7.later hb
                have HB8 := Lib.hid (bthen HB7.out hb)
                clear b_x_7 b_y_7 b_s_7 b_p_7 b_q_7
                clear hb
                have k_x := b_x_8.cell
                have l_x := b_x_8.lt
                have k_y := b_y_8.cell
                have l_y := b_y_8.lt
                have k_s := b_s_8.cell
                have l_s := b_s_8.lt
                have k_p := b_p_8.cell
                have l_p := b_p_8.lt
                have k_q := b_q_8.cell
                have l_q := b_q_8.lt
                go_wp2_with fail
                clear k_x l_x k_y l_y k_s l_s k_p l_p k_q l_q
                go_ret
                first
                  | exact ⟨rfl, HB8.out⟩
                  | exact ⟨ret_bool (by simp only [Bool.or_eq_true, Bool.and_eq_true, decide_eq_true_eq, beq_iff_eq]; omega), HB8.out⟩
            · have hwm : wrap64 (-b) ≤ -9223372036854775808 := by rw [wrapI]; split <;> omega
              have k_x := b_x_6.cell
              have l_x := b_x_6.lt
              have k_y := b_y_6.cell
              have l_y := b_y_6.lt
              have k_s := b_s_6.cell
              have l_s := b_s_6.lt
              have k_p := b_p_6.cell
              have l_p := b_p_6.lt
              go_wp2_with fail
              all_goals
                clear k_x l_x k_y l_y k_s l_s k_p l_p
                generalize hW : World.alloc _ _ = w7
                obtain ⟨hb, hz⟩ := al1 hW
                have b_q_7 := n11 hW
                have b_x_7 := b_x_6.later hb
                have b_y_7 := b_y_6.later hb
                have b_s_7 := b_s_6.later hb
                have b_p_7 := b_p_6.later hb
                have HB7 := Lib.hid (bthen HB6.out hb)
                clear b_x_6 b_y_6 b_s_6 b_p_6
                clear hW hz hb
                refine (awake_any _).mono ?_
                rintro x w8 ⟨rfl, hb⟩
                have b_x_8 := b_x_7.later hb
                have b_y_8 := b_y_7.later hb
                have b_s_8 := b_s_7.later hb
                have b_p_8 := b_p_7.later hb
                have b_q_8 := b_q_7.later hb
                have HB8 := Lib.hid (bthen HB7.out hb)
                clear b_x_7 b_y_7 b_s_7 b_p_7 b_q_7
                clear hb
                have k_x := b_x_8.cell
                have l_x := b_x_8.lt
                have k_y := b_y_8.cell
                have l_y := b_y_8.lt
                have k_s := b_s_8.cell
                have l_s := b_s_8.lt
                have k_p := b_p_8.cell
                have l_p := b_p_8.lt
                have k_q := b_q_8.cell
                have l_q := b_q_8.lt
                go_wp2_with fail
                clear k_x l_x k_y l_y k_s l_s k_p l_p k_q l_q
                go_ret
                first
                  | exact ⟨rfl, HB8.out⟩
                  | exact ⟨ret_bool (by simp only [Bool.or_eq_true, Bool.and_eq_true, decide_eq_true_eq, beq_iff_eq]; omega), HB8.out⟩
        · have HM2 := Lib.hid hm2
          have HP := Lib.hid hpi
          clear hm2 hpi
          refine (bin_reckon (code := 9) (x := a) (y := b) (k := 2) (n := p) (e := 0) (B := 0) (vs := [_, _, _, _]) (ws := [_, _, _, _]) (int_tm _ _ HA.out) (int_tm _ _ HB_.out) (Nat.zero_le _) (fixed_int _) (fixed_int _) (by omega) HM.out).mono ?_
          rintro x w4 ⟨rfl, hb⟩
          have b_x_4 := b_x_3.later hb
          have b_y_4 := b_y_3.later hb
          have b_s_4 := b_s_3.later hb
          have HB4 := Lib.hid (bthen HB3.out hb)
          clear b_x_3 b_y_3 b_s_3
          clear hb
          have k_x := b_x_4.cell
          have l_x := b_x_4.lt
          have k_y := b_y_4.cell
          have l_y := b_y_4.lt
          have k_s := b_s_4.cell
          have l_s := b_s_4.lt
          go_wp2_with fail
          clear k_x l_x k_y l_y k_s l_s
          generalize hW : World.alloc _ _ = w5
          obtain ⟨hb, hz⟩ := al1 hW
          have b_p_5 := n11 hW
          have b_x_5 := b_x_4.later hb
          have b_y_5 := b_y_4.later hb
          have b_s_5 := b_s_4.later hb
          have HB5 := Lib.hid (bthen HB4.out hb)
          clear b_x_4 b_y_4 b_s_4
          clear hW hz hb
          have k_x := b_x_5.cell
          have l_x := b_x_5.lt
          have k_y := b_y_5.cell
          have l_y := b_y_5.lt
          have k_s := b_s_5.cell
          have l_s := b_s_5.lt
          have k_p := b_p_5.cell
          have l_p := b_p_5.lt
          go_wp2_with fail
          clear k_x l_x k_y l_y k_s l_s k_p l_p
          refine (bin_reckon (code := 10) (x := p) (y := b) (k := 2) (n := a) (e := 0) (B := 0) (vs := [_, _, _, _]) (ws := [_, _, _, _]) (int_tm _ _ HP.out) (int_tm _ _ HB_.out) (Nat.zero_le _) (fixed_int _) (fixed_int _) (by omega) HM2.out).mono ?_
          rintro x w6 ⟨rfl, hb⟩
          have b_x_6 := b_x_5.later hb
          have b_y_6 := b_y_5.later hb
          have b_s_6 := b_s_5.later hb
          have b_p_6 := b_p_5.later hb
          have HB6 := Lib.hid (bthen HB5.out hb)
          clear b_x_5 b_y_5 b_s_5 b_p_5
          clear hb
          have k_x := b_x_6.cell
          have l_x := b_x_6.lt
          have k_y := b_y_6.cell
          have l_y := b_y_6.lt
          have k_s := b_s_6.cell
          have l_s := b_s_6.lt
          have k_p := b_p_6.cell
          have l_p := b_p_6.lt
          go_wp2_with fail
          clear k_x l_x k_y l_y k_s l_s k_p l_p
          generalize hW : World.alloc _ _ = w7
          obtain ⟨hb, hz⟩ := al1 hW
          have b_m_7 := n11 hW
          have b_x_7 := b_x_6.later hb
          have b_y_7 := b_y_6.later hb
          have b_s_7 := b_s_6.later hb
          have b_p_7 := b_p_6.later hb
          have HB7 := Lib.hid (bthen HB6.out hb)
          clear b_x_6 b_y_6 b_s_6 b_p_6
          clear hW hz hb
          have k_x := b_x_7.cell
          have l_x := b_x_7.lt
          have k_y := b_y_7.cell
          have l_y := b_y_7.lt
          have k_s := b_s_7.cell
          have l_s := b_s_7.lt
          have k_p := b_p_7.cell
          have l_p := b_p_7.lt
          have k_m := b_m_7.cell
          have l_m := b_m_7.lt
          go_wp2_with fail
          clear k_x l_x k_y l_y k_s l_s k_p l_p k_m l_m
          rcases hdiv with ⟨hd, hd1, hd2, hd3⟩ | ⟨q, p', r, hd, hq, hp', hr', hp, hr, f1, f2, f3, f4⟩
          all_goals have HD := Lib.hid hd
          all_goals clear hd
          · refine (bin_reckon (code := 10) (x := a) (y := b) (k := 0) (n := 0) (e := 5) (B := 0) (vs := [_, _, _, _]) (ws := [_, _, _, _]) (int_tm _ _ HA.out) (int_tm _ _ HB_.out) (Nat.zero_le _) (fixed_int _) (fixed_int _) (by omega) HD.out).mono ?_
            rintro x w8 ⟨rfl, hb⟩
            have b_x_8 := b_x_7.later hb
            have b_y_8 := b_y_7.later hb
            have b_s_8 := b_s_7.later hb
            have b_p_8 := b_p_7.later hb
            have b_m_8 := b_m_7.later hb
            have HB8 := Lib.hid (bthen HB7.out hb)
            clear b_x_7 b_y_7 b_s_7 b_p_7 b_m_7
            clear hb
            have k_x := b_x_8.cell
            have l_x := b_x_8.lt
            have k_y := b_y_8.cell
            have l_y := b_y_8.lt
            have k_s := b_s_8.cell
            have l_s := b_s_8.lt
            have k_p := b_p_8.cell
            have l_p := b_p_8.lt
            have k_m := b_m_8.cell
            have l_m := b_m_8.lt
            go_wp2_with fail
            clear k_x l_x k_y l_y k_s l_s k_p l_p k_m l_m
            generalize hW : World.alloc _ _ = w9
            obtain ⟨hb, hz⟩ := al1 hW
            have b_q_9 := n11 hW
            have b_x_9 := b_x_8.later hb
            have b_y_9 := b_y_8.later hb
            have b_s_9 := b_s_8.later hb
            have b_p_9 := b_p_8.later hb
            have b_m_9 := b_m_8.later hb
            have HB9 := Lib.hid (bthen HB8.out hb)
            clear b_x_8 b_y_8 b_s_8 b_p_8 b_m_8
            clear hW hz hb
            have k_x := b_x_9.cell
            have l_x := b_x_9.lt
            have k_y := b_y_9.cell
            have l_y := b_y_9.lt
            have k_s := b_s_9.cell
            have l_s := b_s_9.lt
            have k_p := b_p_9.cell
            have l_p := b_p_9.lt
            have k_m := b_m_9.cell
            have l_m := b_m_9.lt
            have k_q := b_q_9.cell
            have l_q := b_q_9.lt
            go_wp2_with fail
            clear k_x l_x k_y l_y k_s l_s k_p l_p k_m l_m k_q l_q
            refine (awake_any _).mono ?_
            rintro x w10 ⟨rfl, hb⟩
            have b_x_10 := b_x_9.later hb
            have b_y_10 := b_y_9.later hb
            have b_s_10 := b_s_9.later hb
            have b_p_10 := b_p_9.later hb
            have b_m_10 := b_m_9.later hb
            have b_q_10 := b_q_9.later hb
            have HB10 := Lib.hid (bthen HB9.out hb)
            clear b_x_9 b_y_9 b_s_9 b_p_9 b_m_9 b_q_9
            clear hb
            have k_x := b_x_10.cell
            have l_x := b_x_10.lt
            have k_y := b_y_10.cell
            have l_y := b_y_10.lt
            have k_s := b_s_10.cell
            have l_s := b_s_10.lt
            have k_p := b_p_10.cell
            have l_p := b_p_10.lt
            have k_m := b_m_10.cell
            have l_m := b_m_10.lt
            have k_q := b_q_10.cell
            have l_q := b_q_10.lt
            go_wp2_with fail
            clear k_x l_x k_y l_y k_s l_s k_p l_p k_m l_m k_q l_q
            go_ret
            first
              | exact ⟨rfl, HB10.out⟩
              | exact ⟨ret_bool (by simp only [Bool.or_eq_true, Bool.and_eq_true, decide_eq_true_eq, beq_iff_eq]; omega), HB10.out⟩
          · refine (bin_reckon (code := 10) (x := a) (y := b) (k := 2) (n := q) (e := 0) (B := 0) (vs := [_, _, _, _]) (ws := [_, _, _, _]) (int_tm _ _ HA.out) (int_tm _ _ HB_.out) (Nat.zero_le _) (fixed_int _) (fixed_int _) (by omega) HD.out).mono ?_
            rintro x w8 ⟨rfl, hb⟩
            have b_x_8 := b_x_7.later hb
            have b_y_8 := b_y_7.later hb
            have b_s_8 := b_s_7.later hb
            have b_p_8 := b_p_7.later hb
            have b_m_8 := b_m_7.later hb
            have HB8 := Lib.hid (bthen HB7.out hb)
            clear b_x_7 b_y_7 b_s_7 b_p_7 b_m_7
            clear hb
            rcases Int.lt_or_le (-9223372036854775808) b with hm | hm
            · have k_x := b_x_8.cell
              have l_x := b_x_8.lt
              have k_y := b_y_8.cell
              have l_y := b_y_8.lt
              have k_s := b_s_8.cell
              have l_s := b_s_8.lt
              have k_p := b_p_8.cell
              have l_p := b_p_8.lt
              have k_m := b_m_8.cell
              have l_m := b_m_8.lt
              go_wp2_with fail
              all_goals
                clear k_x l_x k_y l_y k_s l_s k_p l_p k_m l_m
                generalize hW : World.alloc _ _ = w9
                obtain ⟨hb, hz⟩ := al1 hW
                have b_q_9 := n11 hW
                have b_x_9 := b_x_8.later hb
                have b_y_9 := b_y_8.later hb
                have b_s_9 := b_s_8.later hb
                have b_p_9 := b_p_8.later hb
                have b_m_9 := b_m_8.later hb
                have HB9 := Lib.hid (bthen HB8.out hb)
                clear b_x_8 b_y_8 b_s_8 b_p_8 b_m_8
                clear hW hz hb
                refine (awake_any _).mono ?_
                rintro x w10 ⟨rfl, hb⟩
                have b_x_10 := b_x_9.later hb
                have b_y_10 := b_y_9.later hb
                have b_s_10 := b_s_9.later hb
                have b_p_10 := b_p_9.later hb
                have b_m_10 := b_m_9.later hb
                have b_q_10 := b_q_9.later hb
                have HB10 := Lib.hid (bthen HB9.out hb)
                clear b_x_9 b_y_9 b_s_9 b_p_9 b_m_9 b_q_9
                clear hb
                have k_x := b_x_10.cell
                have l_x := b_x_10.lt
                have k_y := b_y_10.cell
                have l_y := b_y_10.lt
                have k_s := b_s_10.cell
                have l_s := b_s_10.lt
                have k_p := b_p_10.cell
                have l_p := b_p_10.lt
                have k_m := b_m_10.cell
                have l_m := b_m_10.lt
                have k_q := b_q_10.cell
                have l_q := b_q_10.lt
                go_wp2_with fail
                clear k_x l_x k_y l_y k_s l_s k_p l_p k_m l_m k_q l_q
                go_ret
                first
                  | exact ⟨rfl, HB10.out⟩
                  | exact ⟨ret_bool (by simp only [Bool.or_eq_true, Bool.and_eq_true, decide_eq_true_eq, beq_iff_eq]; omega), HB10.out⟩
            · have hwm : wrap64 (-b) ≤ -9223372036854775808 := by rw [wrapI]; split <;> omega
              have k_x := b_x_8.cell
              have l_x := b_x_8.lt
              have k_y := b_y_8.cell
              have l_y := b_y_8.lt
              have k_s := b_s_8.cell
              have l_s := b_s_8.lt
              have k_p := b_p_8.cell
              have l_p := b_p_8.lt
              have k_m := b_m_8.cell
              have l_m := b_m_8.lt
              go_wp2_with fail
              all_goals
                clear k_x l_x k_y l_y k_s l_s k_p l_p k_m l_m
                generalize hW : World.alloc _ _ = w9
                obtain ⟨hb, hz⟩ := al1 hW
                have b_q_9 := n11 hW
                have b_x_9 := b_x_8.later hb
                have b_y_9 := b_y_8.later hb
                have b_s_9 := b_s_8.later hb
                have b_p_9 := b_p_8.later hb
                have b_m_9 := b_m_8.later hb
                have HB9 := Lib.hid (bthen HB8.out hb)
                clear b_x_8 b_y_8 b_s_8 b_p_8 b_m_8
                clear hW hz hb
                refine (awake_any _).mono ?_
                rintro x w10 ⟨rfl, hb⟩
                have b_x_10 := b_x_9.later hb
                have b_y_10 := b_y_9.later hb
                have b_s_10 := b_s_9.later hb
                have b_p_10 := b_p_9.later hb
                have b_m_10 := b_m_9.later hb
                have b_q_10 := b_q_9.later hb
                have HB10 := Lib.hid (bthen HB9.out hb)
                clear b_x_9 b_y_9 b_s_9 b_p_9 b_m_9 b_q_9
                clear hb
                have k_x := b_x_10.cell
                have l_x := b_x_10.lt
                have k_y := b_y_10.cell
                have l_y := b_y_10.lt
                have k_s := b_s_10.cell
                have l_s := b_s_10.lt
                have k_p := b_p_10.cell
                have l_p := b_p_10.lt
                have k_m := b_m_10.cell
                have l_m := b_m_10.lt
                have k_q := b_q_10.cell
                have l_q := b_q_10.lt
                go_wp2_with fail
                clear k_x l_x k_y l_y k_s l_s k_p l_p k_m l_m k_q l_q
                go_ret
                first
                  | exact ⟨rfl, HB10.out⟩
                  | exact ⟨ret_bool (by simp only [Bool.or_eq_true, Bool.and_eq_true, decide_eq_true_eq, beq_iff_eq]; omega), HB10.out⟩
    · replace hdiv := hdiv.resolve_left (fun h => by omega)
      rcases hadd with hadd | hadd
      · have HADD := Lib.hid (add_yes HA.out hadd)
        have HS := Lib.hid hadd
        unfold I64 at hadd
        go_enter Try.func3, Try.ntmps3
        go_wp2_with fail
        generalize hW : World.alloc _ _ = w1
        obtain ⟨hb, hz⟩ := al2 hW
        have b_x_1 := n21 hW
        have b_y_1 := n22 hW
        have HB1 := Lib.hid hb
        clear hW hz hb
        refine (bin_reckon (code := 7) (x := a) (y := b) (k := 2) (n := (a + b)) (e := 0) (B := 0) (vs := [_, _, _, _]) (ws := [_, _, _, _]) (int_tm _ _ HA.out) (int_tm _ _ HB_.out) (Nat.zero_le _) (fixed_int _) (fixed_int _) (by omega) HADD.out.1).mono ?_
        rintro x w2 ⟨rfl, hb⟩
        have b_x_2 := b_x_1.later hb
        have b_y_2 := b_y_1.later hb
        have HB2 := Lib.hid (bthen HB1.out hb)
        clear b_x_1 b_y_1
        clear hb
        have k_x := b_x_2.cell
        have l_x := b_x_2.lt
        have k_y := b_y_2.cell
        have l_y := b_y_2.lt
        go_wp2_with fail
        clear k_x l_x k_y l_y
        generalize hW : World.alloc _ _ = w3
        obtain ⟨hb, hz⟩ := al1 hW
        have b_s_3 := n11 hW
        have b_x_3 := b_x_2.later hb
        have b_y_3 := b_y_2.later hb
        have HB3 := Lib.hid (bthen HB2.out hb)
        clear b_x_2 b_y_2
        clear hW hz hb
        refine (bin_reckon (code := 8) (x := (a + b)) (y := b) (k := 2) (n := a) (e := 0) (B := 0) (vs := [_, _, _, _]) (ws := [_, _, _, _]) (int_tm _ _ HS.out) (int_tm _ _ HB_.out) (Nat.zero_le _) (fixed_int _) (fixed_int _) (by omega) HADD.out.2).mono ?_
        rintro x w4 ⟨rfl, hb⟩
        have b_x_4 := b_x_3.later hb
        have b_y_4 := b_y_3.later hb
        have b_s_4 := b_s_3.later hb
        have HB4 := Lib.hid (bthen HB3.out hb)
        clear b_x_3 b_y_3 b_s_3
        clear hb
        have k_x := b_x_4.cell
        have l_x := b_x_4.lt
        have k_y := b_y_4.cell
        have l_y := b_y_4.lt
        have k_s := b_s_4.cell
        have l_s := b_s_4.lt
        go_wp2_with fail
        clear k_x l_x k_y l_y k_s l_s
        generalize hW : World.alloc _ _ = w5
        obtain ⟨hb, hz⟩ := al1 hW
        have b_d_5 := n11 hW
        have b_x_5 := b_x_4.later hb
        have b_y_5 := b_y_4.later hb
        have b_s_5 := b_s_4.later hb
        have HB5 := Lib.hid (bthen HB4.out hb)
        clear b_x_4 b_y_4 b_s_4
        clear hW hz hb
        have k_x := b_x_5.cell
        have l_x := b_x_5.lt
        have k_y := b_y_5.cell
        have l_y := b_y_5.lt
        have k_s := b_s_5.cell
        have l_s := b_s_5.lt
        have k_d := b_d_5.cell
        have l_d := b_d_5.lt
        go_wp2_with fail
        clear k_x l_x k_y l_y k_s l_s k_d l_d
        rcases hmul with hm | ⟨p, hpi, hm, hm2⟩
        all_goals have HM := Lib.hid hm
        all_goals clear hm
        · refine (bin_reckon (code := 9) (x := a) (y := b) (k := 0) (n := 0) (e := 5) (B := 0) (vs := [_, _, _, _]) (ws := [_, _, _, _]) (int_tm _ _ HA.out) (int_tm _ _ HB_.out) (Nat.zero_le _) (fixed_int _) (fixed_int _) (by omega) HM.out).mono ?_
          rintro x w6 ⟨rfl, hb⟩
          have b_x_6 := b_x_5.later hb
          have b_y_6 := b_y_5.later hb
          have b_s_6 := b_s_5.later hb
          have b_d_6 := b_d_5.later hb
          have HB6 := Lib.hid (bthen HB5.out hb)
          clear b_x_5 b_y_5 b_s_5 b_d_5
          clear hb
          have k_x := b_x_6.cell
          have l_x := b_x_6.lt
          have k_y := b_y_6.cell
          have l_y := b_y_6.lt
          have k_s := b_s_6.cell
          have l_s := b_s_6.lt
          have k_d := b_d_6.cell
          have l_d := b_d_6.lt
          go_wp2_with fail
          clear k_x l_x k_y l_y k_s l_s k_d l_d
          generalize hW : World.alloc _ _ = w7
          obtain ⟨hb, hz⟩ := al1 hW
          have b_p_7 := n11 hW
          have b_x_7 := b_x_6.later hb
          have b_y_7 := b_y_6.later hb
          have b_s_7 := b_s_6.later hb
          have b_d_7 := b_d_6.later hb
          have HB7 := Lib.hid (bthen HB6.out hb)
          clear b_x_6 b_y_6 b_s_6 b_d_6
          clear hW hz hb
          have k_x := b_x_7.cell
          have l_x := b_x_7.lt
          have k_y := b_y_7.cell
          have l_y := b_y_7.lt
          have k_s := b_s_7.cell
          have l_s := b_s_7.lt
          have k_d := b_d_7.cell
          have l_d := b_d_7.lt
          have k_p := b_p_7.cell
          have l_p := b_p_7.lt
          go_wp2_with fail
          clear k_x l_x k_y l_y k_s l_s k_d l_d k_p l_p
          obtain ⟨q, p', r, hd, hq, hp', hr', hp, hr, f1, f2, f3, f4⟩ := hdiv
          have HD := Lib.hid hd
          clear hd
          refine (bin_reckon (code := 10) (x := a) (y := b) (k := 2) (n := q) (e := 0) (B := 0) (vs := [_, _, _, _]) (ws := [_, _, _, _]) (int_tm _ _ HA.out) (int_tm _ _ HB_.out) (Nat.zero_le _) (fixed_int _) (fixed_int _) (by omega) HD.out).mono ?_
          rintro x w8 ⟨rfl, hb⟩
          have b_x_8 := b_x_7.later hb
          have b_y_8 := b_y_7.later hb
          have b_s_8 := b_s_7.later hb
          have b_d_8 := b_d_7.later hb
          have b_p_8 := b_p_7.later hb
          have HB8 := Lib.hid (bthen HB7.out hb)
          clear b_x_7 b_y_7 b_s_7 b_d_7 b_p_7
          clear hb
          have k_x := b_x_8.cell
          have l_x := b_x_8.lt
          have k_y := b_y_8.cell
          have l_y := b_y_8.lt
          have k_s := b_s_8.cell
          have l_s := b_s_8.lt
          have k_d := b_d_8.cell
          have l_d := b_d_8.lt
          have k_p := b_p_8.cell
          have l_p := b_p_8.lt
          go_wp2_with fail
          all_goals
            clear k_x l_x k_y l_y k_s l_s k_d l_d k_p l_p
            generalize hW : World.alloc _ _ = w9
            obtain ⟨hb, hz⟩ := al1 hW
            have b_q_9 := n11 hW
            have b_x_9 := b_x_8.later hb
            have b_y_9 := b_y_8.later hb
            have b_s_9 := b_s_8.later hb
            have b_d_9 := b_d_8.later hb
            have b_p_9 := b_p_8.later hb
            have HB9 := Lib.hid (bthen HB8.out hb)
            clear b_x_8 b_y_8 b_s_8 b_d_8 b_p_8
            clear hW hz hb
            refine (awake_any _).mono ?_
            rintro x w10 ⟨rfl, hb⟩
            have b_x_10 := b_x_9.later hb
            have b_y_10 := b_y_9.later hb
            have b_s_10 := b_s_9.later hb
            have b_d_10 := b_d_9.later hb
            have b_p_10 := b_p_9.later hb
            have b_q_10 := b_q_9.later hb
            have HB10 := Lib.hid (bthen HB9.out hb)
            clear b_x_9 b_y_9 b_s_9 b_d_9 b_p_9 b_q_9
            clear hb
            have k_x := b_x_10.cell
            have l_x := b_x_10.lt
            have k_y := b_y_10.cell
            have l_y := b_y_10.lt
            have k_s := b_s_10.cell
            have l_s := b_s_10.lt
            have k_d := b_d_10.cell
            have l_d := b_d_10.lt
            have k_p := b_p_10.cell
            have l_p := b_p_10.lt
            have k_q := b_q_10.cell
            have l_q := b_q_10.lt
            go_wp2_with fail
            clear k_x l_x k_y l_y k_s l_s k_d l_d k_p l_p k_q l_q
            go_ret
            first
              | exact ⟨rfl, HB10.out⟩
              | exact ⟨ret_bool (by simp only [Bool.or_eq_true, Bool.and_eq_true, decide_eq_true_eq, beq_iff_eq]; omega), HB10.out⟩
        · have HM2 := Lib.hid hm2
          have HP := Lib.hid hpi
          clear hm2 hpi
          refine (bin_reckon (code := 9) (x := a) (y := b) (k := 2) (n := p) (e := 0) (B := 0) (vs := [_, _, _, _]) (ws := [_, _, _, _]) (int_tm _ _ HA.out) (int_tm _ _ HB_.out) (Nat.zero_le _) (fixed_int _) (fixed_int _) (by omega) HM.out).mono ?_
          rintro x w6 ⟨rfl, hb⟩
          have b_x_6 := b_x_5.later hb
          have b_y_6 := b_y_5.later hb
          have b_s_6 := b_s_5.later hb
          have b_d_6 := b_d_5.later hb
          have HB6 := Lib.hid (bthen HB5.out hb)
          clear b_x_5 b_y_5 b_s_5 b_d_5
          clear hb
          have k_x := b_x_6.cell
          have l_x := b_x_6.lt
          have k_y := b_y_6.cell
          have l_y := b_y_6.lt
          have k_s := b_s_6.cell
          have l_s := b_s_6.lt
          have k_d := b_d_6.cell
          have l_d := b_d_6.lt
          go_wp2_with fail
          clear k_x l_x k_y l_y k_s l_s k_d l_d
          generalize hW : World.alloc _ _ = w7
          obtain ⟨hb, hz⟩ := al1 hW
          have b_p_7 := n11 hW
          have b_x_7 := b_x_6.later hb
          have b_y_7 := b_y_6.later hb
          have b_s_7 := b_s_6.later hb
          have b_d_7 := b_d_6.later hb
          have HB7 := Lib.hid (bthen HB6.out hb)
          clear b_x_6 b_y_6 b_s_6 b_d_6
          clear hW hz hb
          have k_x := b_x_7.cell
          have l_x := b_x_7.lt
          have k_y := b_y_7.cell
          have l_y := b_y_7.lt
          have k_s := b_s_7.cell
          have l_s := b_s_7.lt
          have k_d := b_d_7.cell
          have l_d := b_d_7.lt
          have k_p := b_p_7.cell
          have l_p := b_p_7.lt
          go_wp2_with fail
          clear k_x l_x k_y l_y k_s l_s k_d l_d k_p l_p
          refine (bin_reckon (code := 10) (x := p) (y := b) (k := 2) (n := a) (e := 0) (B := 0) (vs := [_, _, _, _]) (ws := [_, _, _, _]) (int_tm _ _ HP.out) (int_tm _ _ HB_.out) (Nat.zero_le _) (fixed_int _) (fixed_int _) (by omega) HM2.out).mono ?_
          rintro x w8 ⟨rfl, hb⟩
          have b_x_8 := b_x_7.later hb
          have b_y_8 := b_y_7.later hb
          have b_s_8 := b_s_7.later hb
          have b_d_8 := b_d_7.later hb
          have b_p_8 := b_p_7.later hb
          have HB8 := Lib.hid (bthen HB7.out hb)
          clear b_x_7 b_y_7 b_s_7 b_d_7 b_p_7
          clear hb
          have k_x := b_x_8.cell
          have l_x := b_x_8.lt
          have k_y := b_y_8.cell
          have l_y := b_y_8.lt
          have k_s := b_s_8.cell
          have l_s := b_s_8.lt
          have k_d := b_d_8.cell
          have l_d := b_d_8.lt
          have k_p := b_p_8.cell
          have l_p := b_p_8.lt
          go_wp2_with fail
          clear k_x l_x k_y l_y k_s l_s k_d l_d k_p l_p
          generalize hW : World.alloc _ _ = w9
          obtain ⟨hb, hz⟩ := al1 hW
          have b_m_9 := n11 hW
          have b_x_9 := b_x_8.later hb
          have b_y_9 := b_y_8.later hb
          have b_s_9 := b_s_8.later hb
          have b_d_9 := b_d_8.later hb
          have b_p_9 := b_p_8.later hb
          have HB9 := Lib.hid (bthen HB8.out hb)
          clear b_x_8 b_y_8 b_s_8 b_d_8 b_p_8
          clear hW hz hb
          have k_x := b_x_9.cell
          have l_x := b_x_9.lt
          have k_y := b_y_9.cell
          have l_y := b_y_9.lt
          have k_s := b_s_9.cell
          have l_s := b_s_9.lt
          have k_d := b_d_9.cell
          have l_d := b_d_9.lt
          have k_p := b_p_9.cell
          have l_p := b_p_9.lt
          have k_m := b_m_9.cell
          have l_m := b_m_9.lt
          go_wp2_with fail
          clear k_x l_x k_y l_y k_s l_s k_d l_d k_p l_p k_m l_m
          obtain ⟨q, p', r, hd, hq, hp', hr', hp, hr, f1, f2, f3, f4⟩ := hdiv
          have HD := Lib.hid hd
          clear hd
          refine (bin_reckon (code := 10) (x := a) (y := b) (k := 2) (n := q) (e := 0) (B := 0) (vs := [_, _, _, _]) (ws := [_, _, _, _]) (int_tm _ _ HA.out) (int_tm _ _ HB_.out) (Nat.zero_le _) (fixed_int _) (fixed_int _) (by omega) HD.out).mono ?_
          rintro x w10 ⟨rfl, hb⟩
          have b_x_10 := b_x_9.later hb
          have b_y_10 := b_y_9.later hb
          have b_s_10 := b_s_9.later hb
          have b_d_10 := b_d_9.later hb
          have b_p_10 := b_p_9.later hb
          have b_m_10 := b_m_9.later hb
          have HB10 := Lib.hid (bthen HB9.out hb)
          clear b_x_9 b_y_9 b_s_9 b_d_9 b_p_9 b_m_9
          clear hb
          have k_x := b_x_10.cell
          have l_x := b_x_10.lt
          have k_y := b_y_10.cell
          have l_y := b_y_10.lt
          have k_s := b_s_10.cell
          have l_s := b_s_10.lt
          have k_d := b_d_10.cell
          have l_d := b_d_10.lt
          have k_p := b_p_10.cell
          have l_p := b_p_10.lt
          have k_m := b_m_10.cell
          have l_m := b_m_10.lt
          go_wp2_with fail
          all_goals
            clear k_x l_x k_y l_y k_s l_s k_d l_d k_p l_p k_m l_m
            generalize hW : World.alloc _ _ = w11
            obtain ⟨hb, hz⟩ := al1 hW
            have b_q_11 := n11 hW
            have b_x_11 := b_x_10.later hb
            have b_y_11 := b_y_10.later hb
            have b_s_11 := b_s_10.later hb
            have b_d_11 := b_d_10.later hb
            have b_p_11 := b_p_10.later hb
            have b_m_11 := b_m_10.later hb
            have HB11 := Lib.hid (bthen HB10.out hb)
            clear b_x_10 b_y_10 b_s_10 b_d_10 b_p_10 b_m_10
            clear hW hz hb
            refine (awake_any _).mono ?_
            rintro x w12 ⟨rfl, hb⟩
            have b_x_12 := b_x_11.later hb
            have b_y_12 := b_y_11.later hb
            have b_s_12 := b_s_11.later hb
            have b_d_12 := b_d_11.later hb
            have b_p_12 := b_p_11.later hb
            have b_m_12 := b_m_11.later hb
            have b_q_12 := b_q_11.later hb
            have HB12 := Lib.hid (bthen HB11.out hb)
            clear b_x_11 b_y_11 b_s_11 b_d_11 b_p_11 b_m_11 b_q_11
            clear hb
            have k_x := b_x_12.cell
            have l_x := b_x_12.lt
            have k_y := b_y_12.cell
            have l_y := b_y_12.lt
            have k_s := b_s_12.cell
            have l_s := b_s_12.lt
            have k_d := b_d_12.cell
            have l_d := b_d_12.lt
            have k_p := b_p_12.cell
            have l_p := b_p_12.lt
            have k_m := b_m_12.cell
            have l_m := b_m_12.lt
            have k_q := b_q_12.cell
            have l_q := b_q_12.lt
            go_wp2_with fail
            clear k_x l_x k_y l_y k_s l_s k_d l_d k_p l_p k_m l_m k_q l_q
            go_ret
            first
              | exact ⟨rfl, HB12.out⟩
              | exact ⟨ret_bool (by simp only [Bool.or_eq_true, Bool.and_eq_true, decide_eq_true_eq, beq_iff_eq]; omega), HB12.out⟩
      · have hadd1 := (add_no HA.out HB_.out hadd).1
        have HADD := Lib.hid hadd1
        unfold I64 at hadd
        have hsa : 0 < a := by omega
        clear hadd hadd1
        have hsa2 : decide (a < 0) = false := decide_eq_false (by omega)
        have hsb2 : decide (b < 0) = false := decide_eq_false (by omega)
        go_enter Try.func3, Try.ntmps3
        go_wp2_with fail
        generalize hW : World.alloc _ _ = w1
        obtain ⟨hb, hz⟩ := al2 hW
        have b_x_1 := n21 hW
        have b_y_1 := n22 hW
        have HB1 := Lib.hid hb
        clear hW hz hb
        refine (bin_reckon (code := 7) (x := a) (y := b) (k := 0) (n := 0) (e := 5) (B := 0) (vs := [_, _, _, _]) (ws := [_, _, _, _]) (int_tm _ _ HA.out) (int_tm _ _ HB_.out) (Nat.zero_le _) (fixed_int _) (fixed_int _) (by omega) HADD.out).mono ?_
        rintro x w2 ⟨rfl, hb⟩
        have b_x_2 := b_x_1.later hb
        have b_y_2 := b_y_1.later hb
        have HB2 := Lib.hid (bthen HB1.out hb)
        clear b_x_1 b_y_1
        clear hb
        have k_x := b_x_2.cell
        have l_x := b_x_2.lt
        have k_y := b_y_2.cell
        have l_y := b_y_2.lt
        go_wp2_with fail
        clear k_x l_x k_y l_y
        generalize hW : World.alloc _ _ = w3
        obtain ⟨hb, hz⟩ := al1 hW
        have b_s_3 := n11 hW
        have b_x_3 := b_x_2.later hb
        have b_y_3 := b_y_2.later hb
        have HB3 := Lib.hid (bthen HB2.out hb)
        clear b_x_2 b_y_2
        clear hW hz hb
        have k_x := b_x_3.cell
        have l_x := b_x_3.lt
        have k_y := b_y_3.cell
        have l_y := b_y_3.lt
        have k_s := b_s_3.cell
        have l_s := b_s_3.lt
        go_wp2_with fail
        clear k_x l_x k_y l_y k_s l_s
        rcases hmul with hm | ⟨p, hpi, hm, hm2⟩
        all_goals have HM := Lib.hid hm
        all_goals clear hm
        · refine (bin_reckon (code := 9) (x := a) (y := b) (k := 0) (n := 0) (e := 5) (B := 0) (vs := [_, _, _, _]) (ws := [_, _, _, _]) (int_tm _ _ HA.out) (int_tm _ _ HB_.out) (Nat.zero_le _) (fixed_int _) (fixed_int _) (by omega) HM.out).mono ?_
          rintro x w4 ⟨rfl, hb⟩
          have b_x_4 := b_x_3.later hb
          have b_y_4 := b_y_3.later hb
          have b_s_4 := b_s_3.later hb
          have HB4 := Lib.hid (bthen HB3.out hb)
          clear b_x_3 b_y_3 b_s_3
          clear hb
          have k_x := b_x_4.cell
          have l_x := b_x_4.lt
          have k_y := b_y_4.cell
          have l_y := b_y_4.lt
          have k_s := b_s_4.cell
          have l_s := b_s_4.lt
          go_wp2_with fail
          clear k_x l_x k_y l_y k_s l_s
          generalize hW : World.alloc _ _ = w5
          obtain ⟨hb, hz⟩ := al1 hW
          have b_p_5 := n11 hW
          have b_x_5 := b_x_4.later hb
          have b_y_5 := b_y_4.later hb
          have b_s_5 := b_s_4.later hb
          have HB5 := Lib.hid (bthen HB4.out hb)
          clear b_x_4 b_y_4 b_s_4
          clear hW hz hb
          have k_x := b_x_5.cell
          have l_x := b_x_5.lt
          have k_y := b_y_5.cell
          have l_y := b_y_5.lt
          have k_s := b_s_5.cell
          have l_s := b_s_5.lt
          have k_p := b_p_5.cell
          have l_p := b_p_5.lt
          go_wp2_with fail
          clear k_x l_x k_y l_y k_s l_s k_p l_p
          obtain ⟨q, p', r, hd, hq, hp', hr', hp, hr, f1, f2, f3, f4⟩ := hdiv
          have HD := Lib.hid hd
          clear hd
          refine (bin_reckon (code := 10) (x := a) (y := b) (k := 2) (n := q) (e := 0) (B := 0) (vs := [_, _, _, _]) (ws := [_, _, _, _]) (int_tm _ _ HA.out) (int_tm _ _ HB_.out) (Nat.zero_le _) (fixed_int _) (fixed_int _) (by omega) HD.out).mono ?_
          rintro x w6 ⟨rfl, hb⟩
          have b_x_6 := b_x_5.later hb
          have b_y_6 := b_y_5.later hb
          have b_s_6 := b_s_5.later hb
          have b_p_6 := b_p_5.later hb
          have HB6 := Lib.hid (bthen HB5.out hb)
          clear b_x_5 b_y_5 b_s_5 b_p_5
          clear hb
          have k_x := b_x_6.cell
          have l_x := b_x_6.lt
          have k_y := b_y_6.cell
          have l_y := b_y_6.lt
          have k_s := b_s_6.cell
          have l_s := b_s_6.lt
          have k_p := b_p_6.cell
          have l_p := b_p_6.lt
          go_wp2_with fail
          all_goals
            clear k_x l_x k_y l_y k_s l_s k_p l_p
            generalize hW : World.alloc _ _ = w7
            obtain ⟨hb, hz⟩ := al1 hW
            have b_q_7 := n11 hW
            have b_x_7 := b_x_6.later hb
            have b_y_7 := b_y_6.later hb
            have b_s_7 := b_s_6.later hb
            have b_p_7 := b_p_6.later hb
            have HB7 := Lib.hid (bthen HB6.out hb)
            clear b_x_6 b_y_6 b_s_6 b_p_6
            clear hW hz hb
            refine (awake_any _).mono ?_
            rintro x w8 ⟨rfl, hb⟩
            have b_x_8 := b_x_7.later hb
            have b_y_8 := b_y_7.later hb
            have b_s_8 := b_s_7.later hb
            have b_p_8 := b_p_7.later hb
            have b_q_8 := b_q_7.later hb
            have HB8 := Lib.hid (bthen HB7.out hb)
            clear b_x_7 b_y_7 b_s_7 b_p_7 b_q_7
            clear hb
            have k_x := b_x_8.cell
            have l_x := b_x_8.lt
            have k_y := b_y_8.cell
            have l_y := b_y_8.lt
            have k_s := b_s_8.cell
            have l_s := b_s_8.lt
            have k_p := b_p_8.cell
            have l_p := b_p_8.lt
            have k_q := b_q_8.cell
            have l_q := b_q_8.lt
            go_wp2_with fail
            clear k_x l_x k_y l_y k_s l_s k_p l_p k_q l_q
            go_ret
            first
              | exact ⟨rfl, HB8.out⟩
              | exact ⟨ret_bool (by simp only [Bool.or_eq_true, Bool.and_eq_true, decide_eq_true_eq, beq_iff_eq]; omega), HB8.out⟩
        · have HM2 := Lib.hid hm2
          have HP := Lib.hid hpi
          clear hm2 hpi
          refine (bin_reckon (code := 9) (x := a) (y := b) (k := 2) (n := p) (e := 0) (B := 0) (vs := [_, _, _, _]) (ws := [_, _, _, _]) (int_tm _ _ HA.out) (int_tm _ _ HB_.out) (Nat.zero_le _) (fixed_int _) (fixed_int _) (by omega) HM.out).mono ?_
          rintro x w4 ⟨rfl, hb⟩
          have b_x_4 := b_x_3.later hb
          have b_y_4 := b_y_3.later hb
          have b_s_4 := b_s_3.later hb
          have HB4 := Lib.hid (bthen HB3.out hb)
          clear b_x_3 b_y_3 b_s_3
          clear hb
          have k_x := b_x_4.cell
          have l_x := b_x_4.lt
          have k_y := b_y_4.cell
          have l_y := b_y_4.lt
          have k_s := b_s_4.cell
          have l_s := b_s_4.lt
          go_wp2_with fail
          clear k_x l_x k_y l_y k_s l_s
          generalize hW : World.alloc _ _ = w5
          obtain ⟨hb, hz⟩ := al1 hW
          have b_p_5 := n11 hW
          have b_x_5 := b_x_4.later hb
          have b_y_5 := b_y_4.later hb
          have b_s_5 := b_s_4.later hb
          have HB5 := Lib.hid (bthen HB4.out hb)
          clear b_x_4 b_y_4 b_s_4
          clear hW hz hb
          have k_x := b_x_5.cell
          have l_x := b_x_5.lt
          have k_y := b_y_5.cell
          have l_y := b_y_5.lt
          have k_s := b_s_5.cell
          have l_s := b_s_5.lt
          have k_p := b_p_5.cell
          have l_p := b_p_5.lt
          go_wp2_with fail
          clear k_x l_x k_y l_y k_s l_s k_p l_p
          refine (bin_reckon (code := 10) (x := p) (y := b) (k := 2) (n := a) (e := 0) (B := 0) (vs := [_, _, _, _]) (ws := [_, _, _, _]) (int_tm _ _ HP.out) (int_tm _ _ HB_.out) (Nat.zero_le _) (fixed_int _) (fixed_int _) (by omega) HM2.out).mono ?_
          rintro x w6 ⟨rfl, hb⟩
          have b_x_6 := b_x_5.later hb
          have b_y_6 := b_y_5.later hb
          have b_s_6 := b_s_5.later hb
          have b_p_6 := b_p_5.later hb
          have HB6 := Lib.hid (bthen HB5.out hb)
          clear b_x_5 b_y_5 b_s_5 b_p_5
          clear hb
          have k_x := b_x_6.cell
          have l_x := b_x_6.lt
          have k_y := b_y_6.cell
          have l_y := b_y_6.lt
          have k_s := b_s_6.cell
          have l_s := b_s_6.lt
          have k_p := b_p_6.cell
          have l_p := b_p_6.lt
          go_wp2_with fail
          clear k_x l_x k_y l_y k_s l_s k_p l_p
          generalize hW : World.alloc _ _ = w7
          obtain ⟨hb, hz⟩ := al1 hW
          have b_m_7 := n11 hW
          have b_x_7 := b_x_6.later hb
          have b_y_7 := b_y_6.later hb
          have b_s_7 := b_s_6.later hb
          have b_p_7 := b_p_6.later hb
          have HB7 := Lib.hid (bthen HB6.out hb)
          clear b_x_6 b_y_6 b_s_6 b_p_6
          clear hW hz hb
          have k_x := b_x_7.cell
          have l_x := b_x_7.lt
          have k_y := b_y_7.cell
          have l_y := b_y_7.lt
          have k_s := b_s_7.cell
          have l_s := b_s_7.lt
          have k_p := b_p_7.cell
          have l_p := b_p_7.lt
          have k_m := b_m_7.cell
          have l_m := b_m_7.lt
          go_wp2_with fail
          clear k_x l_x k_y l_y k_s l_s k_p l_p k_m l_m
          obtain ⟨q, p', r, hd, hq, hp', hr', hp, hr, f1, f2, f3, f4⟩ := hdiv
          have HD := Lib.hid hd
          clear hd
          refine (bin_reckon (code := 10) (x := a) (y := b) (k := 2) (n := q) (e := 0) (B := 0) (vs := [_, _, _, _]) (ws := [_, _, _, _]) (int_tm _ _ HA.out) (int_tm _ _ HB_.out) (Nat.zero_le _) (fixed_int _) (fixed_int _) (by omega) HD.out).mono ?_
          rintro x w8 ⟨rfl, hb⟩
          have b_x_8 := b_x_7.later hb
          have b_y_8 := b_y_7.later hb
          have b_s_8 := b_s_7.later hb
          have b_p_8 := b_p_7.later hb
          have b_m_8 := b_m_7.later hb
          have HB8 := Lib.hid (bthen HB7.out hb)
          clear b_x_7 b_y_7 b_s_7 b_p_7 b_m_7
          clear hb
          have k_x := b_x_8.cell
          have l_x := b_x_8.lt
          have k_y := b_y_8.cell
          have l_y := b_y_8.lt
          have k_s := b_s_8.cell
          have l_s := b_s_8.lt
          have k_p := b_p_8.cell
          have l_p := b_p_8.lt
          have k_m := b_m_8.cell
          have l_m := b_m_8.lt
          go_wp2_with fail
          all_goals
            clear k_x l_x k_y l_y k_s l_s k_p l_p k_m l_m
            generalize hW : World.alloc _ _ = w9
            obtain ⟨hb, hz⟩ := al1 hW
            have b_q_9 := n11 hW
            have b_x_9 := b_x_8.later hb
            have b_y_9 := b_y_8.later hb
            have b_s_9 := b_s_8.later hb
            have b_p_9 := b_p_8.later hb
            have b_m_9 := b_m_8.later hb
            have HB9 := Lib.hid (bthen HB8.out hb)
            clear b_x_8 b_y_8 b_s_8 b_p_8 b_m_8
            clear hW hz hb
            refine (awake_any _).mono ?_
            rintro x w10 ⟨rfl, hb⟩
            have b_x_10 := b_x_9.later hb
            have b_y_10 := b_y_9.later hb
            have b_s_10 := b_s_9.later hb
            have b_p_10 := b_p_9.later hb
            have b_m_10 := b_m_9.later hb
            have b_q_10 := b_q_9.later hb
            have HB10 := Lib.hid (bthen HB9.out hb)
            clear b_x_9 b_y_9 b_s_9 b_p_9 b_m_9 b_q_9
            clear hb
            have k_x := b_x_10.cell
            have l_x := b_x_10.lt
            have k_y := b_y_10.cell
            have l_y := b_y_10.lt
            have k_s := b_s_10.cell
            have l_s := b_s_10.lt
            have k_p := b_p_10.cell
            have l_p := b_p_10.lt
            have k_m := b_m_10.cell
            have l_m := b_m_10.lt
            have k_q := b_q_10.cell
            have l_q := b_q_10.lt
            go_wp2_with fail
            clear k_x l_x k_y l_y k_s l_s k_p l_p k_m l_m k_q l_q
            go_ret
            first
              | exact ⟨rfl, HB10.out⟩
              | exact ⟨ret_bool (by simp only [Bool.or_eq_true, Bool.and_eq_true, decide_eq_true_eq, beq_iff_eq]; omega), HB10.out⟩
end Go.Proofs.Yteopojoflhmiiaa
