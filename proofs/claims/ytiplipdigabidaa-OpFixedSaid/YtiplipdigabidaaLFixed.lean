/- viaticumlaw11.OpFixed. -/
import Derived.Test.YtiplipdigabidaaBin
import Derived.Test.YtiplipdigabidaaLight
import Derived.Test.YtiplipdigabidaaOpAwake
import Derived.Test.YtiplipdigabidaaOpenT
import Derived.Deep.Cut
set_option linter.unusedVariables false
set_option linter.unusedSimpArgs false
namespace Go.Proofs.Ytiplipdigabidaa
open Go.ChangeShapes Go.WideShapes Go.ChangeAt Go.RowKit

theorem beq_of {a b : Int} (h : a = b) : (a == b) = true := by rw [h]; simp
theorem beq_no {a b : Int} (h : a ≠ b) : (a == b) = false := by simpa using h
theorem bne_of {a b : Int} (h : a = b) : (a != b) = false := by rw [h]; simp
theorem bne_no {a b : Int} (h : a ≠ b) : (a != b) = true := by simpa using h

set_option maxRecDepth 100000 in
set_option maxHeartbeats 4000000 in
theorem opFixed_any (x0 : Int) {d d' B : Nat} {a b : Tm} {va vb : List Value} {w : World} (ha : RTm w B d a va) (hb : RTm w B d' b vb) (hx : I64 x0) (hB : B ≤ w.heap.size) (h0 : 0 < w.heap.size) {m : Int} (hm : w.cell? ⟨0, 0, none⟩ = some (.int .i64 m)) :
    Calls Try.prog 4 #[.int .i64 x0, .agg va.toArray, .agg vb.toArray] w fun z w' => z = .returned (.bool true) ∧ Below w.heap.size w w' := by
  obtain ⟨D, hd, hd'⟩ : ∃ D, d ≤ D + 1 ∧ d' ≤ D + 1 := ⟨max d d', by omega, by omega⟩
  have ha := RTm.deeper hd ha
  have hb := RTm.deeper hd' hb
  obtain ⟨A, c, rfl, q1, q2, q3, q4, q5, _⟩ := ha.cells
  obtain ⟨A', c', rfl, r1, r2, r3, r4, r5, _⟩ := hb.cells
  have HA := Lib.hid ha
  have HB_ := Lib.hid hb
  have HM := Lib.hid hm
  clear ha hb hm
  go_enter Try.func4, Try.ntmps4
  go_wp2_with fail
  generalize hW : World.alloc _ _ = w1
  obtain ⟨hb, hz⟩ := al3 hW
  have b_a_1 := n31 hW
  have b_b_1 := n32 hW
  have b_l_1 := n33 hW
  have HB1 := Lib.hid hb
  clear hW hz hb
  have hB1 := Nat.le_trans hB HB1.out.size
  refine (light_any (d := D + 1) (B := w1.heap.size) (ts := [a, b]) (Blk.rl2 (R := TmR (D + 1)) b_l_1 rfl ((HA.out.below HB1.out hB).more hB1) ((HB_.out.below HB1.out hB).more hB1) b_l_1.lt) (Nat.le_refl _) (by simp)).mono ?_
  rintro e w2 ⟨⟨q, rfl⟩, hb⟩
  have b_a_2 := b_a_1.later hb
  have b_b_2 := b_b_1.later hb
  have HB2 := Lib.hid (bthen HB1.out hb)
  clear hb b_l_1 b_a_1 b_b_1
  cases q
  · go_wp2_with fail
    refine (awake_any _).mono ?_
    rintro e w3 ⟨rfl, hb⟩
    have HB3 := Lib.hid (bthen HB2.out hb)
    clear hb
    go_wp2_with fail
    go_ret
    exact ⟨rfl, HB3.out⟩
  · have k_a := b_a_2.cell
    have k_b := b_b_2.cell
    go_wp2_with fail
    clear k_a k_b
    refine (unary_any (code := x0) (d := D) (a := a) (vs := [_, _, _, _]) (HA.out.below HB2.out hB) (Nat.le_trans hB HB2.out.size)).mono ?_
    rintro e w3 ⟨⟨A1, c1, rfl, hown⟩, hb⟩
    have HT := told_un x0 a
    generalize unR x0 a = r at *
    obtain ⟨t1, e1⟩ := r
    simp only at hown HT
    have HT1 := Lib.hid HT
    have HO1 := Lib.hid hown
    have b_a_3 := b_a_2.later hb
    have b_b_3 := b_b_2.later hb
    have HB3 := Lib.hid (bthen HB2.out hb)
    clear hb hown HT b_a_2 b_b_2
    have k_a := b_a_3.cell
    have k_b := b_b_3.cell
    have l_a := b_a_3.lt
    have l_b := b_b_3.lt
    go_wp2_with fail
    clear k_a k_b l_a l_b
    generalize hW : World.alloc _ _ = w4
    obtain ⟨hb, hz⟩ := al1 hW
    have b_x_4 := n11 hW
    have b_a_4 := b_a_3.later hb
    have b_b_4 := b_b_3.later hb
    have HO1_4 := Lib.hid (HO1.out.later hb)
    have HB4 := Lib.hid (bthen HB3.out hb)
    clear hb hz hW HO1 b_a_3 b_b_3
    refine (binary_any (code := x0) (d := D) (a := a) (b := b) (vs := [_, _, _, _]) (ws := [_, _, _, _]) (HA.out.below HB4.out hB) (HB_.out.below HB4.out hB) (Nat.le_trans hB HB4.out.size) ((HB4.out.cell (p := ⟨0, 0, none⟩) h0).trans HM.out) (Nat.lt_of_lt_of_le h0 HB4.out.size)).mono ?_
    rintro e w5 ⟨⟨A2, c2, rfl, hown⟩, hb⟩
    have HT := told_bin x0 a b
    have HK := bin_kind x0 a b
    generalize binR x0 a b = r at *
    obtain ⟨t2, e2⟩ := r
    simp only at hown HT HK
    have HT2 := Lib.hid HT
    have HK2 := Lib.hid HK
    have HO2 := Lib.hid hown
    have b_x_5 := b_x_4.later hb
    have b_a_5 := b_a_4.later hb
    have b_b_5 := b_b_4.later hb
    have HO1_5 := Lib.hid (HO1_4.out.later hb)
    have HB5 := Lib.hid (bthen HB4.out hb)
    clear hb hown HT HK HO1_4 b_x_4 b_a_4 b_b_4
    have l_x := b_x_5.lt
    go_upto_region 5 with fail
    generalize hW : World.alloc _ _ = w6
    obtain ⟨hb, hz⟩ := al1 hW
    have b_y_6 := n11 hW
    have b_x_6 := b_x_5.later hb
    have b_a_6 := b_a_5.later hb
    have b_b_6 := b_b_5.later hb
    have HO1_6 := Lib.hid (HO1_5.out.later hb)
    have HO2_6 := Lib.hid (HO2.out.later hb)
    have HB6 := Lib.hid (bthen HB5.out hb)
    clear hb hz hW HO2 HO1_5 b_x_5 b_a_5 b_b_5 l_x
    have hcases : (e1 = 0 ∨ e1 ≠ 0) ∧ (e2 = 0 ∨ e2 = 7 ∨ e2 = 1 ∨ e2 ≠ 0 ∧ e2 ≠ 7 ∧ e2 ≠ 1) := by omega
    obtain ⟨hc1, hc2⟩ := hcases
    rcases hc1 with h1 | h1
    · have HF1 : Hid (fixedB t1 = true) := Lib.hid (HT1.out.1 h1)
      have p1 := beq_of h1
      have p2 := bne_of h1
      clear h1
      rcases hc2 with rfl | rfl | rfl | ⟨h2, h3, h4⟩
      · have HF2 : Hid (fixedB t2 = true) := Lib.hid (HT2.out.1 rfl)
        have k_x := b_x_6.cell
        have k_y := b_y_6.cell
        have k_a := b_a_6.cell
        have k_b := b_b_6.cell
        go_wp2_with fail
        clear k_x k_y k_a k_b
        refine (refFixed_any (d := D + 1) (t := t1) (vs := [_, _, _, _]) HO1_6.out.rtm (Nat.le_refl _)).mono ?_
        rintro e w7 ⟨rfl, hb⟩
        rw [HF1.out]
        have b_x_7 := b_x_6.later hb
        have b_y_7 := b_y_6.later hb
        have b_a_7 := b_a_6.later hb
        have b_b_7 := b_b_6.later hb
        have HO1_7 := Lib.hid (HO1_6.out.later hb)
        have HO2_7 := Lib.hid (HO2_6.out.later hb)
        have HB7 := Lib.hid (bthen HB6.out hb)
        clear hb HO1_6 HO2_6 b_x_6 b_y_6 b_a_6 b_b_6
        have k_x := b_x_7.cell
        have k_y := b_y_7.cell
        have k_a := b_a_7.cell
        have k_b := b_b_7.cell
        go_wp2_with fail
        clear k_x k_y k_a k_b
        refine (refFixed_any (d := D + 1) (t := t2) (vs := [_, _, _, _]) HO2_7.out.rtm (Nat.le_refl _)).mono ?_
        rintro e w8 ⟨rfl, hb⟩
        rw [HF2.out]
        have b_x_8 := b_x_7.later hb
        have b_y_8 := b_y_7.later hb
        have b_a_8 := b_a_7.later hb
        have b_b_8 := b_b_7.later hb
        have HO1_8 := Lib.hid (HO1_7.out.later hb)
        have HO2_8 := Lib.hid (HO2_7.out.later hb)
        have HB8 := Lib.hid (bthen HB7.out hb)
        clear hb HO1_7 HO2_7 b_x_7 b_y_7 b_a_7 b_b_7
        have k_x := b_x_8.cell
        have k_y := b_y_8.cell
        have k_a := b_a_8.cell
        have k_b := b_b_8.cell
        go_wp2_with fail
        clear k_x k_y k_a k_b
        refine (awake_any _).mono ?_
        rintro e w9 ⟨rfl, hb⟩
        have HB9 := Lib.hid (bthen HB8.out hb)
        clear hb
        go_wp2_with fail
        go_ret
        exact ⟨rfl, HB9.out⟩
      · have HF2 := Lib.hid (bne_of (HT2.out.2 (show (7 : Int) ≠ 0 by decide)))
        have hf2 := HF2.out
        have k_x := b_x_6.cell
        have k_y := b_y_6.cell
        have k_a := b_a_6.cell
        have k_b := b_b_6.cell
        go_wp2_with fail
        clear k_x k_y k_a k_b
        refine (refFixed_any (d := D + 1) (t := t1) (vs := [_, _, _, _]) HO1_6.out.rtm (Nat.le_refl _)).mono ?_
        rintro e w7 ⟨rfl, hb⟩
        rw [HF1.out]
        have b_x_7 := b_x_6.later hb
        have b_y_7 := b_y_6.later hb
        have b_a_7 := b_a_6.later hb
        have b_b_7 := b_b_6.later hb
        have HO1_7 := Lib.hid (HO1_6.out.later hb)
        have HO2_7 := Lib.hid (HO2_6.out.later hb)
        have HB7 := Lib.hid (bthen HB6.out hb)
        clear hb HO1_6 HO2_6 b_x_6 b_y_6 b_a_6 b_b_6
        have k_x := b_x_7.cell
        have k_y := b_y_7.cell
        have k_a := b_a_7.cell
        have k_b := b_b_7.cell
        go_wp2_with fail
        clear k_x k_y k_a k_b
        refine (awake_any _).mono ?_
        rintro e w8 ⟨rfl, hb⟩
        have HB8 := Lib.hid (bthen HB7.out hb)
        clear hb
        go_wp2_with fail
        go_ret
        exact ⟨rfl, HB8.out⟩
      · have HF2 := Lib.hid (bne_of (HT2.out.2 (show (1 : Int) ≠ 0 by decide)))
        have hf2 := HF2.out
        have k_x := b_x_6.cell
        have k_y := b_y_6.cell
        have k_a := b_a_6.cell
        have k_b := b_b_6.cell
        go_wp2_with fail
        clear k_x k_y k_a k_b
        refine (refFixed_any (d := D + 1) (t := t1) (vs := [_, _, _, _]) HO1_6.out.rtm (Nat.le_refl _)).mono ?_
        rintro e w7 ⟨rfl, hb⟩
        rw [HF1.out]
        have b_x_7 := b_x_6.later hb
        have b_y_7 := b_y_6.later hb
        have b_a_7 := b_a_6.later hb
        have b_b_7 := b_b_6.later hb
        have HO1_7 := Lib.hid (HO1_6.out.later hb)
        have HO2_7 := Lib.hid (HO2_6.out.later hb)
        have HB7 := Lib.hid (bthen HB6.out hb)
        clear hb HO1_6 HO2_6 b_x_6 b_y_6 b_a_6 b_b_6
        have k_x := b_x_7.cell
        have k_y := b_y_7.cell
        have k_a := b_a_7.cell
        have k_b := b_b_7.cell
        go_wp2_with fail
        clear k_x k_y k_a k_b
        refine (awake_any _).mono ?_
        rintro e w8 ⟨rfl, hb⟩
        have HB8 := Lib.hid (bthen HB7.out hb)
        clear hb
        go_wp2_with fail
        go_ret
        exact ⟨rfl, HB8.out⟩
      · have HF2 := Lib.hid (bne_of (HT2.out.2 h2))
        have hf2 := HF2.out
        have HKK : Hid (kindsB x0 a.kind b.kind = true) := Lib.hid (by
          rcases HK2.out with h | h | h
          · exact absurd h h3
          · exact absurd h h4
          · exact h)
        have z1 := beq_no h2
        have z2 := bne_no h2
        have z3 := beq_no h3
        have z4 := beq_no h4
        clear h2 h3 h4
        have k_x := b_x_6.cell
        have k_y := b_y_6.cell
        have k_a := b_a_6.cell
        have k_b := b_b_6.cell
        go_wp2_with fail
        clear k_x k_y k_a k_b
        refine (refFixed_any (d := D + 1) (t := t1) (vs := [_, _, _, _]) HO1_6.out.rtm (Nat.le_refl _)).mono ?_
        rintro e w7 ⟨rfl, hb⟩
        rw [HF1.out]
        have b_x_7 := b_x_6.later hb
        have b_y_7 := b_y_6.later hb
        have b_a_7 := b_a_6.later hb
        have b_b_7 := b_b_6.later hb
        have HO1_7 := Lib.hid (HO1_6.out.later hb)
        have HO2_7 := Lib.hid (HO2_6.out.later hb)
        have HB7 := Lib.hid (bthen HB6.out hb)
        clear hb HO1_6 HO2_6 b_x_6 b_y_6 b_a_6 b_b_6
        have k_x := b_x_7.cell
        have k_y := b_y_7.cell
        have k_a := b_a_7.cell
        have k_b := b_b_7.cell
        go_wp2_with fail
        clear k_x k_y k_a k_b
        refine (kinds_any x0 a.kind b.kind _).mono ?_
        rintro e w8 ⟨rfl, hb⟩
        rw [HKK.out]
        have b_x_8 := b_x_7.later hb
        have b_y_8 := b_y_7.later hb
        have b_a_8 := b_a_7.later hb
        have b_b_8 := b_b_7.later hb
        have HO1_8 := Lib.hid (HO1_7.out.later hb)
        have HO2_8 := Lib.hid (HO2_7.out.later hb)
        have HB8 := Lib.hid (bthen HB7.out hb)
        clear hb HO1_7 HO2_7 b_x_7 b_y_7 b_a_7 b_b_7
        have k_x := b_x_8.cell
        have k_y := b_y_8.cell
        have k_a := b_a_8.cell
        have k_b := b_b_8.cell
        go_wp2_with fail
        clear k_x k_y k_a k_b
        refine (awake_any _).mono ?_
        rintro e w9 ⟨rfl, hb⟩
        have HB9 := Lib.hid (bthen HB8.out hb)
        clear hb
        go_wp2_with fail
        go_ret
        exact ⟨rfl, HB9.out⟩
    · have p3 := bne_of (HT1.out.2 h1)
      have p1 := beq_no h1
      have p2 := bne_no h1
      clear h1
      rcases hc2 with rfl | rfl | rfl | ⟨h2, h3, h4⟩
      · have HF2 : Hid (fixedB t2 = true) := Lib.hid (HT2.out.1 rfl)
        have k_x := b_x_6.cell
        have k_y := b_y_6.cell
        have k_a := b_a_6.cell
        have k_b := b_b_6.cell
        go_wp2_with fail
        clear k_x k_y k_a k_b
        refine (refFixed_any (d := D + 1) (t := t2) (vs := [_, _, _, _]) HO2_6.out.rtm (Nat.le_refl _)).mono ?_
        rintro e w7 ⟨rfl, hb⟩
        rw [HF2.out]
        have b_x_7 := b_x_6.later hb
        have b_y_7 := b_y_6.later hb
        have b_a_7 := b_a_6.later hb
        have b_b_7 := b_b_6.later hb
        have HO1_7 := Lib.hid (HO1_6.out.later hb)
        have HO2_7 := Lib.hid (HO2_6.out.later hb)
        have HB7 := Lib.hid (bthen HB6.out hb)
        clear hb HO1_6 HO2_6 b_x_6 b_y_6 b_a_6 b_b_6
        have k_x := b_x_7.cell
        have k_y := b_y_7.cell
        have k_a := b_a_7.cell
        have k_b := b_b_7.cell
        go_wp2_with fail
        clear k_x k_y k_a k_b
        refine (awake_any _).mono ?_
        rintro e w8 ⟨rfl, hb⟩
        have HB8 := Lib.hid (bthen HB7.out hb)
        clear hb
        go_wp2_with fail
        go_ret
        exact ⟨rfl, HB8.out⟩
      · have HF2 := Lib.hid (bne_of (HT2.out.2 (show (7 : Int) ≠ 0 by decide)))
        have hf2 := HF2.out
        have k_x := b_x_6.cell
        have k_y := b_y_6.cell
        have k_a := b_a_6.cell
        have k_b := b_b_6.cell
        go_wp2_with fail
        clear k_x k_y k_a k_b
        refine (awake_any _).mono ?_
        rintro e w7 ⟨rfl, hb⟩
        have HB7 := Lib.hid (bthen HB6.out hb)
        clear hb
        go_wp2_with fail
        go_ret
        exact ⟨rfl, HB7.out⟩
      · have HF2 := Lib.hid (bne_of (HT2.out.2 (show (1 : Int) ≠ 0 by decide)))
        have hf2 := HF2.out
        have k_x := b_x_6.cell
        have k_y := b_y_6.cell
        have k_a := b_a_6.cell
        have k_b := b_b_6.cell
        go_wp2_with fail
        clear k_x k_y k_a k_b
        refine (awake_any _).mono ?_
        rintro e w7 ⟨rfl, hb⟩
        have HB7 := Lib.hid (bthen HB6.out hb)
        clear hb
        go_wp2_with fail
        go_ret
        exact ⟨rfl, HB7.out⟩
      · have HF2 := Lib.hid (bne_of (HT2.out.2 h2))
        have hf2 := HF2.out
        have HKK : Hid (kindsB x0 a.kind b.kind = true) := Lib.hid (by
          rcases HK2.out with h | h | h
          · exact absurd h h3
          · exact absurd h h4
          · exact h)
        have z1 := beq_no h2
        have z2 := bne_no h2
        have z3 := beq_no h3
        have z4 := beq_no h4
        clear h2 h3 h4
        have k_x := b_x_6.cell
        have k_y := b_y_6.cell
        have k_a := b_a_6.cell
        have k_b := b_b_6.cell
        go_wp2_with fail
        clear k_x k_y k_a k_b
        refine (kinds_any x0 a.kind b.kind _).mono ?_
        rintro e w7 ⟨rfl, hb⟩
        rw [HKK.out]
        have b_x_7 := b_x_6.later hb
        have b_y_7 := b_y_6.later hb
        have b_a_7 := b_a_6.later hb
        have b_b_7 := b_b_6.later hb
        have HO1_7 := Lib.hid (HO1_6.out.later hb)
        have HO2_7 := Lib.hid (HO2_6.out.later hb)
        have HB7 := Lib.hid (bthen HB6.out hb)
        clear hb HO1_6 HO2_6 b_x_6 b_y_6 b_a_6 b_b_6
        have k_x := b_x_7.cell
        have k_y := b_y_7.cell
        have k_a := b_a_7.cell
        have k_b := b_b_7.cell
        go_wp2_with fail
        clear k_x k_y k_a k_b
        refine (awake_any _).mono ?_
        rintro e w8 ⟨rfl, hb⟩
        have HB8 := Lib.hid (bthen HB7.out hb)
        clear hb
        go_wp2_with fail
        go_ret
        exact ⟨rfl, HB8.out⟩
end Go.Proofs.Ytiplipdigabidaa
