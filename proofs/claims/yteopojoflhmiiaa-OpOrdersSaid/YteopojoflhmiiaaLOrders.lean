/- viaticumlaw11.OpOrders. -/
import Derived.Test.YteopojoflhmiiaaLight
import Derived.Test.YteopojoflhmiiaaOp4
set_option linter.unusedVariables false
set_option linter.unusedSimpArgs false
namespace Go.Proofs.Yteopojoflhmiiaa
open Go.ChangeShapes Go.WideShapes Go.ChangeAt Go.RowKit

/-- The six answers as far as they were asked. -/
def arrK (f : Int → Bool) (k : Nat) : Array Value := #[.bool false, .bool (decide (1 < k) && f 1), .bool (decide (2 < k) && f 2), .bool (decide (3 < k) && f 3), .bool (decide (4 < k) && f 4), .bool (decide (5 < k) && f 5), .bool (decide (6 < k) && f 6)]
theorem bit_one (q : Bool) : (bit q == 1) = q := by cases q <;> rfl
theorem kinds_cmp {code ka kb : Int} (hc : code = 1 ∨ code = 2 ∨ code = 3 ∨ code = 4 ∨ code = 5 ∨ code = 6) (h : kindsB 1 ka kb = true) : kindsB code ka kb = true := by
  have h2 : bothB [2, 4] ka kb = true := h
  simp only [bothB, List.any_cons, List.any_nil, Bool.or_false, Bool.or_eq_true, Bool.and_eq_true, decide_eq_true_eq] at h2
  rcases hc with rfl | rfl | rfl | rfl | rfl | rfl
  · exact h
  · exact h
  · exact h
  · exact h
  all_goals
    show (decide (ka = kb) && decide (2 ≤ ka) && decide (ka ≤ 7)) = true
    simp only [Bool.and_eq_true, decide_eq_true_eq]
    omega

set_option maxRecDepth 100000 in
set_option maxHeartbeats 16000000 in
theorem opOrders_any {d d' B : Nat} {a b : Tm} {va vb : List Value} {w : World} (ha : RTm w B d a va) (hb : RTm w B d' b vb) (hB : B ≤ w.heap.size) :
    Calls Try.prog 5 #[.agg va.toArray, .agg vb.toArray] w fun z w' => z = .returned (.bool true) ∧ Below w.heap.size w w' := by
  obtain ⟨A, c, rfl, q1, q2, q3, q4, q5, _⟩ := ha.cells
  obtain ⟨A', c', rfl, r1, r2, r3, r4, r5, _⟩ := hb.cells
  have ha' : RTm w B (d + d') a _ := RTm.deeper (by omega) ha
  have hb' : RTm w B (d + d') b _ := RTm.deeper (by omega) hb
  have HA := Lib.hid ha'
  have HB_ := Lib.hid hb'
  clear ha hb ha' hb'
  obtain ⟨ka, x, s, l⟩ := a
  obtain ⟨kb, y, s', l'⟩ := b
  simp only at *
  go_enter Try.func5, Try.ntmps5
  go_wp2_with fail
  generalize hW : World.alloc _ _ = w1
  obtain ⟨hb, hz⟩ := al3 hW
  have b_a_1 := n31 hW
  have b_b_1 := n32 hW
  have b_s_1 := n33 hW
  have HB1 := Lib.hid hb
  clear hW hz hb
  refine (light_any (d := d + d') (B := w1.heap.size) (ts := [⟨ka, x, s, l⟩, ⟨kb, y, s', l'⟩]) (A := some ⟨w.heap.size + 1 + 1, 0, none⟩) (c := 2) (b_s_1.rl2 (R := TmR (d + d')) (us := [_, _, _, _]) (vs := [_, _, _, _]) rfl ((TmR _).wide (Nat.le_trans hB HB1.out.size) (HA.out.below HB1.out hB)) ((TmR _).wide (Nat.le_trans hB HB1.out.size) (HB_.out.below HB1.out hB)) b_s_1.lt) (Nat.le_refl _) (by simp)).mono ?_
  rintro x w2 ⟨⟨q, rfl⟩, hb⟩
  have b_a_2 := b_a_1.later hb
  have b_b_2 := b_b_1.later hb
  have b_s_2 := b_s_1.later hb
  have HB2 := Lib.hid (bthen HB1.out hb)
  clear b_a_1 b_b_1 b_s_1
  clear hb
  rcases q with _ | _
  · have k_a := b_a_2.cell
    have l_a := b_a_2.lt
    have k_b := b_b_2.cell
    have l_b := b_b_2.lt
    have k_s := b_s_2.cell
    have l_s := b_s_2.lt
    go_wp2_with fail
    clear k_a l_a k_b l_b k_s l_s
    refine (awake_any _).mono ?_
    rintro x w3 ⟨rfl, hb⟩
    have b_a_3 := b_a_2.later hb
    have b_b_3 := b_b_2.later hb
    have b_s_3 := b_s_2.later hb
    have HB3 := Lib.hid (bthen HB2.out hb)
    clear b_a_2 b_b_2 b_s_2
    clear hb
    have k_a := b_a_3.cell
    have l_a := b_a_3.lt
    have k_b := b_b_3.cell
    have l_b := b_b_3.lt
    have k_s := b_s_3.cell
    have l_s := b_s_3.lt
    go_wp2_with fail
    clear k_a l_a k_b l_b k_s l_s
    go_ret
    exact ⟨rfl, HB3.out⟩
  have k_a := b_a_2.cell
  have l_a := b_a_2.lt
  have k_b := b_b_2.cell
  have l_b := b_b_2.lt
  have k_s := b_s_2.cell
  have l_s := b_s_2.lt
  go_wp2_with fail
  clear k_a l_a k_b l_b k_s l_s
  refine (refFixed_any (t := ⟨ka, x, s, l⟩) (vs := [_, _, _, _]) (HA.out.below HB2.out hB) (Nat.le_trans hB HB2.out.size)).mono ?_
  rintro x w3 ⟨rfl, hb⟩
  have b_a_3 := b_a_2.later hb
  have b_b_3 := b_b_2.later hb
  have b_s_3 := b_s_2.later hb
  have HB3 := Lib.hid (bthen HB2.out hb)
  clear b_a_2 b_b_2 b_s_2
  clear hb
  by_cases fa : fixedB ⟨ka, x, s, l⟩ = true
  rotate_left
  · simp only [Bool.not_eq_true] at fa
    rw [fa]
    have k_a := b_a_3.cell
    have l_a := b_a_3.lt
    have k_b := b_b_3.cell
    have l_b := b_b_3.lt
    have k_s := b_s_3.cell
    have l_s := b_s_3.lt
    go_wp2_with fail
    clear k_a l_a k_b l_b k_s l_s
    refine (awake_any _).mono ?_
    rintro x w4 ⟨rfl, hb⟩
    have b_a_4 := b_a_3.later hb
    have b_b_4 := b_b_3.later hb
    have b_s_4 := b_s_3.later hb
    have HB4 := Lib.hid (bthen HB3.out hb)
    clear b_a_3 b_b_3 b_s_3
    clear hb
    have k_a := b_a_4.cell
    have l_a := b_a_4.lt
    have k_b := b_b_4.cell
    have l_b := b_b_4.lt
    have k_s := b_s_4.cell
    have l_s := b_s_4.lt
    go_wp2_with fail
    clear k_a l_a k_b l_b k_s l_s
    go_ret
    exact ⟨rfl, HB4.out⟩
  have FA := Lib.hid fa
  rw [fa]
  clear fa
  have k_a := b_a_3.cell
  have l_a := b_a_3.lt
  have k_b := b_b_3.cell
  have l_b := b_b_3.lt
  have k_s := b_s_3.cell
  have l_s := b_s_3.lt
  go_wp2_with fail
  clear k_a l_a k_b l_b k_s l_s
  refine (refFixed_any (t := ⟨kb, y, s', l'⟩) (vs := [_, _, _, _]) (HB_.out.below HB3.out hB) (Nat.le_trans hB HB3.out.size)).mono ?_
  rintro x w4 ⟨rfl, hb⟩
  have b_a_4 := b_a_3.later hb
  have b_b_4 := b_b_3.later hb
  have b_s_4 := b_s_3.later hb
  have HB4 := Lib.hid (bthen HB3.out hb)
  clear b_a_3 b_b_3 b_s_3
  clear hb
  by_cases fb : fixedB ⟨kb, y, s', l'⟩ = true
  rotate_left
  · simp only [Bool.not_eq_true] at fb
    rw [fb]
    have k_a := b_a_4.cell
    have l_a := b_a_4.lt
    have k_b := b_b_4.cell
    have l_b := b_b_4.lt
    have k_s := b_s_4.cell
    have l_s := b_s_4.lt
    go_wp2_with fail
    clear k_a l_a k_b l_b k_s l_s
    refine (awake_any _).mono ?_
    rintro x w5 ⟨rfl, hb⟩
    have b_a_5 := b_a_4.later hb
    have b_b_5 := b_b_4.later hb
    have b_s_5 := b_s_4.later hb
    have HB5 := Lib.hid (bthen HB4.out hb)
    clear b_a_4 b_b_4 b_s_4
    clear hb
    have k_a := b_a_5.cell
    have l_a := b_a_5.lt
    have k_b := b_b_5.cell
    have l_b := b_b_5.lt
    have k_s := b_s_5.cell
    have l_s := b_s_5.lt
    go_wp2_with fail
    clear k_a l_a k_b l_b k_s l_s
    go_ret
    exact ⟨rfl, HB5.out⟩
  have FB := Lib.hid fb
  rw [fb]
  clear fb
  have k_a := b_a_4.cell
  have l_a := b_a_4.lt
  have k_b := b_b_4.cell
  have l_b := b_b_4.lt
  have k_s := b_s_4.cell
  have l_s := b_s_4.lt
  go_wp2_with fail
  clear k_a l_a k_b l_b k_s l_s
  refine (kinds_any 1 ka kb _).mono ?_
  rintro x w5 ⟨rfl, hb⟩
  have b_a_5 := b_a_4.later hb
  have b_b_5 := b_b_4.later hb
  have b_s_5 := b_s_4.later hb
  have HB5 := Lib.hid (bthen HB4.out hb)
  clear b_a_4 b_b_4 b_s_4
  clear hb
  by_cases hk : kindsB 1 ka kb = true
  rotate_left
  · simp only [Bool.not_eq_true] at hk
    rw [hk]
    have k_a := b_a_5.cell
    have l_a := b_a_5.lt
    have k_b := b_b_5.cell
    have l_b := b_b_5.lt
    have k_s := b_s_5.cell
    have l_s := b_s_5.lt
    go_wp2_with fail
    clear k_a l_a k_b l_b k_s l_s
    refine (awake_any _).mono ?_
    rintro x w6 ⟨rfl, hb⟩
    have b_a_6 := b_a_5.later hb
    have b_b_6 := b_b_5.later hb
    have b_s_6 := b_s_5.later hb
    have HB6 := Lib.hid (bthen HB5.out hb)
    clear b_a_5 b_b_5 b_s_5
    clear hb
    have k_a := b_a_6.cell
    have l_a := b_a_6.lt
    have k_b := b_b_6.cell
    have l_b := b_b_6.lt
    have k_s := b_s_6.cell
    have l_s := b_s_6.lt
    go_wp2_with fail
    clear k_a l_a k_b l_b k_s l_s
    go_ret
    exact ⟨rfl, HB6.out⟩
  have HK := Lib.hid hk
  rw [hk]
  clear hk
  have k_a := b_a_5.cell
  have l_a := b_a_5.lt
  have k_b := b_b_5.cell
  have l_b := b_b_5.lt
  have k_s := b_s_5.cell
  have l_s := b_s_5.lt
  go_wp2_with fail
  clear k_a l_a k_b l_b k_s l_s
  generalize hcc : cmpT 3 ⟨ka, x, s, l⟩ ⟨kb, y, s', l'⟩ = cc
  have HCC := Lib.hid hcc
  clear hcc
  go_loopw [6] (fun i wr => ∃ k : Nat, (1 ≤ k ∧ k ≤ 7) ∧ i = .int .i64 k ∧ Below w5.heap.size w5 wr ∧ Blk wr w5.heap.size (arrK (fun j => compB j cc) k)) (fun i _ => 7 - (intOf i).toNat)
  case atStart => exact ⟨1, ⟨by omega, by omega⟩, rfl, (Below.refl _ _).alloc (Nat.le_refl _) _, n11 rfl⟩
  case round =>
    obtain ⟨k, hk, rfl, hbw, b_is⟩ := hrel
    have HBW := Lib.hid (bthen HB5.out hbw)
    have HBG := Lib.hid hbw
    have b_a := b_a_5.later hbw
    have b_b := b_b_5.later hbw
    have hk7 : k = 1 ∨ k = 2 ∨ k = 3 ∨ k = 4 ∨ k = 5 ∨ k = 6 ∨ k = 7 := by omega
    clear hk hbw b_a_5 b_b_5 b_s_5
    rcases hk7 with rfl | rfl | rfl | rfl | rfl | rfl | rfl
    · replace b_is : Blk wr w5.heap.size #[.bool false, .bool false, .bool false, .bool false, .bool false, .bool false, .bool false] := b_is
      have k_is := b_is.cell
      have k_a := b_a.cell
      have k_b := b_b.cell
      have l_is := b_is.lt
      have l_a := b_a.lt
      have l_b := b_b.lt
      go_wp2_with fail
      clear k_is k_a k_b l_is l_a l_b
      refine (bin_compare (code := 1) (ka := ka) (kb := kb) (x := x) (y := y) (s := s) (s' := s') (l := l) (l' := l') (d := d + d') (d' := d + d') (B := B) (vs := [_, _, _, _]) (ws := [_, _, _, _]) (HA.out.below HBW.out hB) (HB_.out.below HBW.out hB) (Nat.le_trans hB HBW.out.size) FA.out FB.out (by omega) (kinds_cmp (by omega) HK.out)).mono ?_
      rintro z w1_ ⟨rfl, hb1⟩
      rw [HCC.out]
      have hq := bit_one (compB 1 cc)
      generalize hQ : compB 1 cc = q at hq
      have HQ := Lib.hid hQ
      clear hQ
      have b_is1 := b_is.later hb1
      have HB1_ := Lib.hid (bthen HBG.out hb1)
      have k_is := b_is1.cell
      have f_is := b_is1.free
      have l_is := b_is1.lt
      clear b_is b_a b_b hb1
      go_wp2_with fail
      have hsc := HB1_.out.setCell (p := ⟨w5.heap.size, 1, none⟩) (Nat.le_refl _) (.bool q)
      have hbl := b_is1.set_ 1 (.bool q)
      have hQ := HQ.out
      subst hQ
      go_roundw
      case rel => exact ⟨2, by omega, by go_num, hsc.alloc hsc.size _, hbl.old _⟩
      case measure => simp [intOf]
    · replace b_is : Blk wr w5.heap.size #[.bool false, .bool (compB 1 cc), .bool false, .bool false, .bool false, .bool false, .bool false] := b_is
      have k_is := b_is.cell
      have k_a := b_a.cell
      have k_b := b_b.cell
      have l_is := b_is.lt
      have l_a := b_a.lt
      have l_b := b_b.lt
      go_wp2_with fail
      clear k_is k_a k_b l_is l_a l_b
      refine (bin_compare (code := 2) (ka := ka) (kb := kb) (x := x) (y := y) (s := s) (s' := s') (l := l) (l' := l') (d := d + d') (d' := d + d') (B := B) (vs := [_, _, _, _]) (ws := [_, _, _, _]) (HA.out.below HBW.out hB) (HB_.out.below HBW.out hB) (Nat.le_trans hB HBW.out.size) FA.out FB.out (by omega) (kinds_cmp (by omega) HK.out)).mono ?_
      rintro z w1_ ⟨rfl, hb1⟩
      rw [HCC.out]
      have hq := bit_one (compB 2 cc)
      generalize hQ : compB 2 cc = q at hq
      have HQ := Lib.hid hQ
      clear hQ
      have b_is1 := b_is.later hb1
      have HB1_ := Lib.hid (bthen HBG.out hb1)
      have k_is := b_is1.cell
      have f_is := b_is1.free
      have l_is := b_is1.lt
      clear b_is b_a b_b hb1
      go_wp2_with fail
      have hsc := HB1_.out.setCell (p := ⟨w5.heap.size, 2, none⟩) (Nat.le_refl _) (.bool q)
      have hbl := b_is1.set_ 2 (.bool q)
      have hQ := HQ.out
      subst hQ
      go_roundw
      case rel => exact ⟨3, by omega, by go_num, hsc.alloc hsc.size _, hbl.old _⟩
      case measure => simp [intOf]
    · replace b_is : Blk wr w5.heap.size #[.bool false, .bool (compB 1 cc), .bool (compB 2 cc), .bool false, .bool false, .bool false, .bool false] := b_is
      have k_is := b_is.cell
      have k_a := b_a.cell
      have k_b := b_b.cell
      have l_is := b_is.lt
      have l_a := b_a.lt
      have l_b := b_b.lt
      go_wp2_with fail
      clear k_is k_a k_b l_is l_a l_b
      refine (bin_compare (code := 3) (ka := ka) (kb := kb) (x := x) (y := y) (s := s) (s' := s') (l := l) (l' := l') (d := d + d') (d' := d + d') (B := B) (vs := [_, _, _, _]) (ws := [_, _, _, _]) (HA.out.below HBW.out hB) (HB_.out.below HBW.out hB) (Nat.le_trans hB HBW.out.size) FA.out FB.out (by omega) (kinds_cmp (by omega) HK.out)).mono ?_
      rintro z w1_ ⟨rfl, hb1⟩
      rw [HCC.out]
      have hq := bit_one (compB 3 cc)
      generalize hQ : compB 3 cc = q at hq
      have HQ := Lib.hid hQ
      clear hQ
      have b_is1 := b_is.later hb1
      have HB1_ := Lib.hid (bthen HBG.out hb1)
      have k_is := b_is1.cell
      have f_is := b_is1.free
      have l_is := b_is1.lt
      clear b_is b_a b_b hb1
      go_wp2_with fail
      have hsc := HB1_.out.setCell (p := ⟨w5.heap.size, 3, none⟩) (Nat.le_refl _) (.bool q)
      have hbl := b_is1.set_ 3 (.bool q)
      have hQ := HQ.out
      subst hQ
      go_roundw
      case rel => exact ⟨4, by omega, by go_num, hsc.alloc hsc.size _, hbl.old _⟩
      case measure => simp [intOf]
    · replace b_is : Blk wr w5.heap.size #[.bool false, .bool (compB 1 cc), .bool (compB 2 cc), .bool (compB 3 cc), .bool false, .bool false, .bool false] := b_is
      have k_is := b_is.cell
      have k_a := b_a.cell
      have k_b := b_b.cell
      have l_is := b_is.lt
      have l_a := b_a.lt
      have l_b := b_b.lt
      go_wp2_with fail
      clear k_is k_a k_b l_is l_a l_b
      refine (bin_compare (code := 4) (ka := ka) (kb := kb) (x := x) (y := y) (s := s) (s' := s') (l := l) (l' := l') (d := d + d') (d' := d + d') (B := B) (vs := [_, _, _, _]) (ws := [_, _, _, _]) (HA.out.below HBW.out hB) (HB_.out.below HBW.out hB) (Nat.le_trans hB HBW.out.size) FA.out FB.out (by omega) (kinds_cmp (by omega) HK.out)).mono ?_
      rintro z w1_ ⟨rfl, hb1⟩
      rw [HCC.out]
      have hq := bit_one (compB 4 cc)
      generalize hQ : compB 4 cc = q at hq
      have HQ := Lib.hid hQ
      clear hQ
      have b_is1 := b_is.later hb1
      have HB1_ := Lib.hid (bthen HBG.out hb1)
      have k_is := b_is1.cell
      have f_is := b_is1.free
      have l_is := b_is1.lt
      clear b_is b_a b_b hb1
      go_wp2_with fail
      have hsc := HB1_.out.setCell (p := ⟨w5.heap.size, 4, none⟩) (Nat.le_refl _) (.bool q)
      have hbl := b_is1.set_ 4 (.bool q)
      have hQ := HQ.out
      subst hQ
      go_roundw
      case rel => exact ⟨5, by omega, by go_num, hsc.alloc hsc.size _, hbl.old _⟩
      case measure => simp [intOf]
    · replace b_is : Blk wr w5.heap.size #[.bool false, .bool (compB 1 cc), .bool (compB 2 cc), .bool (compB 3 cc), .bool (compB 4 cc), .bool false, .bool false] := b_is
      have k_is := b_is.cell
      have k_a := b_a.cell
      have k_b := b_b.cell
      have l_is := b_is.lt
      have l_a := b_a.lt
      have l_b := b_b.lt
      go_wp2_with fail
      clear k_is k_a k_b l_is l_a l_b
      refine (bin_compare (code := 5) (ka := ka) (kb := kb) (x := x) (y := y) (s := s) (s' := s') (l := l) (l' := l') (d := d + d') (d' := d + d') (B := B) (vs := [_, _, _, _]) (ws := [_, _, _, _]) (HA.out.below HBW.out hB) (HB_.out.below HBW.out hB) (Nat.le_trans hB HBW.out.size) FA.out FB.out (by omega) (kinds_cmp (by omega) HK.out)).mono ?_
      rintro z w1_ ⟨rfl, hb1⟩
      rw [HCC.out]
      have hq := bit_one (compB 5 cc)
      generalize hQ : compB 5 cc = q at hq
      have HQ := Lib.hid hQ
      clear hQ
      have b_is1 := b_is.later hb1
      have HB1_ := Lib.hid (bthen HBG.out hb1)
      have k_is := b_is1.cell
      have f_is := b_is1.free
      have l_is := b_is1.lt
      clear b_is b_a b_b hb1
      go_wp2_with fail
      have hsc := HB1_.out.setCell (p := ⟨w5.heap.size, 5, none⟩) (Nat.le_refl _) (.bool q)
      have hbl := b_is1.set_ 5 (.bool q)
      have hQ := HQ.out
      subst hQ
      go_roundw
      case rel => exact ⟨6, by omega, by go_num, hsc.alloc hsc.size _, hbl.old _⟩
      case measure => simp [intOf]
    · replace b_is : Blk wr w5.heap.size #[.bool false, .bool (compB 1 cc), .bool (compB 2 cc), .bool (compB 3 cc), .bool (compB 4 cc), .bool (compB 5 cc), .bool false] := b_is
      have k_is := b_is.cell
      have k_a := b_a.cell
      have k_b := b_b.cell
      have l_is := b_is.lt
      have l_a := b_a.lt
      have l_b := b_b.lt
      go_wp2_with fail
      clear k_is k_a k_b l_is l_a l_b
      refine (bin_compare (code := 6) (ka := ka) (kb := kb) (x := x) (y := y) (s := s) (s' := s') (l := l) (l' := l') (d := d + d') (d' := d + d') (B := B) (vs := [_, _, _, _]) (ws := [_, _, _, _]) (HA.out.below HBW.out hB) (HB_.out.below HBW.out hB) (Nat.le_trans hB HBW.out.size) FA.out FB.out (by omega) (kinds_cmp (by omega) HK.out)).mono ?_
      rintro z w1_ ⟨rfl, hb1⟩
      rw [HCC.out]
      have hq := bit_one (compB 6 cc)
      generalize hQ : compB 6 cc = q at hq
      have HQ := Lib.hid hQ
      clear hQ
      have b_is1 := b_is.later hb1
      have HB1_ := Lib.hid (bthen HBG.out hb1)
      have k_is := b_is1.cell
      have f_is := b_is1.free
      have l_is := b_is1.lt
      clear b_is b_a b_b hb1
      go_wp2_with fail
      have hsc := HB1_.out.setCell (p := ⟨w5.heap.size, 6, none⟩) (Nat.le_refl _) (.bool q)
      have hbl := b_is1.set_ 6 (.bool q)
      have hQ := HQ.out
      subst hQ
      go_roundw
      case rel => exact ⟨7, by omega, by go_num, hsc.alloc hsc.size _, hbl.old _⟩
      case measure => simp [intOf]
    · replace b_is : Blk wr w5.heap.size #[.bool false, .bool (compB 1 cc), .bool (compB 2 cc), .bool (compB 3 cc), .bool (compB 4 cc), .bool (compB 5 cc), .bool (compB 6 cc)] := b_is
      clear b_a b_b
      rcases Int.lt_trichotomy cc 0 with h | h | h
      · have e1 : compB 1 cc = true := by simp [compB]; omega
        have e2 : compB 2 cc = false := by simp [compB]; omega
        have e3 : compB 3 cc = true := by simp [compB]; omega
        have e4 : compB 4 cc = false := by simp [compB]; omega
        have e5 : compB 5 cc = false := by simp [compB]; omega
        have e6 : compB 6 cc = true := by simp [compB]; omega
        rw [e1, e2, e3, e4, e5, e6] at b_is
        have HC := Lib.hid h
        clear e1 e2 e3 e4 e5 e6 h
        have k_is := b_is.cell
        have l_is := b_is.lt
        go_wp2_with fail
        go_loop [66, 9] (fun i n => (i = .int .i64 0 ∧ n = .int .i64 0) ∨ (i = .int .i64 1 ∧ n = .int .i64 1) ∨ (i = .int .i64 2 ∧ n = .int .i64 1) ∨ (i = .int .i64 3 ∧ n = .int .i64 1)) (fun i _ => 3 - (intOf i).toNat)
        case atStart => exact .inl ⟨rfl, rfl⟩
        case round =>
          rcases hrel with ⟨rfl, rfl⟩ | ⟨rfl, rfl⟩ | ⟨rfl, rfl⟩ | ⟨rfl, rfl⟩
          · have hT : ∀ w : World, (Instr.index 37 (.agg #[.bool true, .bool false, .bool false]) (.int .i64 0)).run Try.prog w = .ok (.bool true) w := fun w => by kernel_rfl
            go_wp2_with fail
            go_round
            case rel => exact .inr (.inl ⟨by go_num, by go_num⟩)
            case measure => simp [intOf]
          · have hT : ∀ w : World, (Instr.index 37 (.agg #[.bool true, .bool false, .bool false]) (.int .i64 1)).run Try.prog w = .ok (.bool false) w := fun w => by kernel_rfl
            go_wp2_with fail
            go_round
            case rel => exact .inr (.inr (.inl ⟨by go_num, by go_num⟩))
            case measure => simp [intOf]
          · have hT : ∀ w : World, (Instr.index 37 (.agg #[.bool true, .bool false, .bool false]) (.int .i64 2)).run Try.prog w = .ok (.bool false) w := fun w => by kernel_rfl
            go_wp2_with fail
            go_round
            case rel => exact .inr (.inr (.inr ⟨by go_num, by go_num⟩))
            case measure => simp [intOf]
          · go_wp2_with fail
            clear k_is l_is
            refine (awake_any _).mono ?_
            rintro z1 w9 ⟨rfl, hb9⟩
            have HB9 := Lib.hid (bthen HBW.out hb9)
            clear hb9
            go_wp2_with fail
            go_ret
            exact ⟨rfl, HB9.out⟩
      · have e1 : compB 1 cc = false := by simp [compB]; omega
        have e2 : compB 2 cc = false := by simp [compB]; omega
        have e3 : compB 3 cc = true := by simp [compB]; omega
        have e4 : compB 4 cc = true := by simp [compB]; omega
        have e5 : compB 5 cc = true := by simp [compB]; omega
        have e6 : compB 6 cc = false := by simp [compB]; omega
        rw [e1, e2, e3, e4, e5, e6] at b_is
        have HC := Lib.hid h
        clear e1 e2 e3 e4 e5 e6 h
        have k_is := b_is.cell
        have l_is := b_is.lt
        go_wp2_with fail
        go_loop [66, 9] (fun i n => (i = .int .i64 0 ∧ n = .int .i64 0) ∨ (i = .int .i64 1 ∧ n = .int .i64 0) ∨ (i = .int .i64 2 ∧ n = .int .i64 0) ∨ (i = .int .i64 3 ∧ n = .int .i64 1)) (fun i _ => 3 - (intOf i).toNat)
        case atStart => exact .inl ⟨rfl, rfl⟩
        case round =>
          rcases hrel with ⟨rfl, rfl⟩ | ⟨rfl, rfl⟩ | ⟨rfl, rfl⟩ | ⟨rfl, rfl⟩
          · have hT : ∀ w : World, (Instr.index 37 (.agg #[.bool false, .bool false, .bool true]) (.int .i64 0)).run Try.prog w = .ok (.bool false) w := fun w => by kernel_rfl
            go_wp2_with fail
            go_round
            case rel => exact .inr (.inl ⟨by go_num, by go_num⟩)
            case measure => simp [intOf]
          · have hT : ∀ w : World, (Instr.index 37 (.agg #[.bool false, .bool false, .bool true]) (.int .i64 1)).run Try.prog w = .ok (.bool false) w := fun w => by kernel_rfl
            go_wp2_with fail
            go_round
            case rel => exact .inr (.inr (.inl ⟨by go_num, by go_num⟩))
            case measure => simp [intOf]
          · have hT : ∀ w : World, (Instr.index 37 (.agg #[.bool false, .bool false, .bool true]) (.int .i64 2)).run Try.prog w = .ok (.bool true) w := fun w => by kernel_rfl
            go_wp2_with fail
            go_round
            case rel => exact .inr (.inr (.inr ⟨by go_num, by go_num⟩))
            case measure => simp [intOf]
          · go_wp2_with fail
            clear k_is l_is
            refine (awake_any _).mono ?_
            rintro z1 w9 ⟨rfl, hb9⟩
            have HB9 := Lib.hid (bthen HBW.out hb9)
            clear hb9
            go_wp2_with fail
            go_ret
            exact ⟨rfl, HB9.out⟩
      · have e1 : compB 1 cc = false := by simp [compB]; omega
        have e2 : compB 2 cc = true := by simp [compB]; omega
        have e3 : compB 3 cc = false := by simp [compB]; omega
        have e4 : compB 4 cc = true := by simp [compB]; omega
        have e5 : compB 5 cc = false := by simp [compB]; omega
        have e6 : compB 6 cc = true := by simp [compB]; omega
        rw [e1, e2, e3, e4, e5, e6] at b_is
        have HC := Lib.hid h
        clear e1 e2 e3 e4 e5 e6 h
        have k_is := b_is.cell
        have l_is := b_is.lt
        go_wp2_with fail
        go_loop [66, 9] (fun i n => (i = .int .i64 0 ∧ n = .int .i64 0) ∨ (i = .int .i64 1 ∧ n = .int .i64 0) ∨ (i = .int .i64 2 ∧ n = .int .i64 1) ∨ (i = .int .i64 3 ∧ n = .int .i64 1)) (fun i _ => 3 - (intOf i).toNat)
        case atStart => exact .inl ⟨rfl, rfl⟩
        case round =>
          rcases hrel with ⟨rfl, rfl⟩ | ⟨rfl, rfl⟩ | ⟨rfl, rfl⟩ | ⟨rfl, rfl⟩
          · have hT : ∀ w : World, (Instr.index 37 (.agg #[.bool false, .bool true, .bool false]) (.int .i64 0)).run Try.prog w = .ok (.bool false) w := fun w => by kernel_rfl
            go_wp2_with fail
            go_round
            case rel => exact .inr (.inl ⟨by go_num, by go_num⟩)
            case measure => simp [intOf]
          · have hT : ∀ w : World, (Instr.index 37 (.agg #[.bool false, .bool true, .bool false]) (.int .i64 1)).run Try.prog w = .ok (.bool true) w := fun w => by kernel_rfl
            go_wp2_with fail
            go_round
            case rel => exact .inr (.inr (.inl ⟨by go_num, by go_num⟩))
            case measure => simp [intOf]
          · have hT : ∀ w : World, (Instr.index 37 (.agg #[.bool false, .bool true, .bool false]) (.int .i64 2)).run Try.prog w = .ok (.bool false) w := fun w => by kernel_rfl
            go_wp2_with fail
            go_round
            case rel => exact .inr (.inr (.inr ⟨by go_num, by go_num⟩))
            case measure => simp [intOf]
          · go_wp2_with fail
            clear k_is l_is
            refine (awake_any _).mono ?_
            rintro z1 w9 ⟨rfl, hb9⟩
            have HB9 := Lib.hid (bthen HBW.out hb9)
            clear hb9
            go_wp2_with fail
            go_ret
            exact ⟨rfl, HB9.out⟩
end Go.Proofs.Yteopojoflhmiiaa
