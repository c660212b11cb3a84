/- viaticumref11.Unary. -/
import Derived.Test.YtiplipdigabidaaGreatRb2
import Derived.Test.YtiplipdigabidaaGreatOwnS
set_option linter.unusedVariables false
set_option linter.unusedSimpArgs false
namespace Go.Proofs.YtiplipdigabidaaGreat
open Go.ChangeShapes Go.WideShapes Go.ChangeAt Go.RowKit
theorem flatR_eq {k n m e f : Int} {s : ByteArray} (h : n = m) (h2 : e = f) : flatR k n s e = flatR k m s f := by rw [h, h2]
set_option maxRecDepth 100000 in
set_option maxHeartbeats 4000000 in
theorem unq_bad {code x ka : Int} {d B : Nat} {s : ByteArray} {l : List Tm} {vs : List Value} {w : World} (ha : RTm w B d ⟨ka, x, s, l⟩ vs) (hB : B ≤ w.heap.size) (fa : fixedB ⟨ka, x, s, l⟩ = false) :
   Calls Tryz.prog 55 #[.int .i64 code, .agg vs.toArray] w fun z w' => z = flatR 0 0 emp 1 ∧ Below w.heap.size w w' := by
 obtain ⟨A, c, rfl, q1, q2, q3, q4, q5, _⟩ := ha.cells
 have HA := Lib.hid ha
 simp only at q2 q3 q4 q5
 clear ha
 have FA := Lib.hid fa
 clear fa
 go_enter Tryz.func55, Tryz.ntmps55
 go_wp2_with fail
 generalize hW : World.alloc _ _ = w1
 obtain ⟨hb, hz⟩ := al3 hW
 have b_a_1 := n31 hW
 have b_r_1 := n32 hW
 have b_n_1 := n33 hW
 have HB1 := Lib.hid hb
 clear hW hz hb
 refine (refFixed_any (t := ⟨ka, x, s, l⟩) (vs := [_, _, _, _]) (HA.out.below HB1.out hB) (Nat.le_trans hB HB1.out.size)).mono ?_
 rintro x w2 ⟨rfl, hb⟩
 have b_a_2 := b_a_1.later hb
 have b_r_2 := b_r_1.later hb
 have b_n_2 := b_n_1.later hb
 have HB2 := Lib.hid (bthen HB1.out hb)
 clear b_a_1 b_r_1 b_n_1
 clear hb
 rw [FA.out]
 have k_a := b_a_2.cell
 have k_r := b_r_2.cell
 have k_n := b_n_2.cell
 have f_r := b_r_2.free
 go_wp2_with fail
 refine bodyPost_ret (ret_tm2 rfl rfl (put4 b_r_2 HB2.out (by omega)).1 rfl) rfl ?_
 exact ⟨flatR_eq (rfl) (rfl), (put4 b_r_2 HB2.out (by omega)).2⟩
set_option maxRecDepth 100000 in
set_option maxHeartbeats 4000000 in
theorem unq_lo {code x ka : Int} {d B : Nat} {s : ByteArray} {l : List Tm} {vs : List Value} {w : World} (ha : RTm w B d ⟨ka, x, s, l⟩ vs) (hB : B ≤ w.heap.size) (fa : fixedB ⟨ka, x, s, l⟩ = true) (hc : code < 1) :
   Calls Tryz.prog 55 #[.int .i64 code, .agg vs.toArray] w fun z w' => z = flatR 0 0 emp 1 ∧ Below w.heap.size w w' := by
 obtain ⟨A, c, rfl, q1, q2, q3, q4, q5, _⟩ := ha.cells
 have HA := Lib.hid ha
 simp only at q2 q3 q4 q5
 clear ha
 have hq0 : decide (code < 1) = true := by simp; omega
 have FA := Lib.hid fa
 clear fa
 go_enter Tryz.func55, Tryz.ntmps55
 go_wp2_with fail
 generalize hW : World.alloc _ _ = w1
 obtain ⟨hb, hz⟩ := al3 hW
 have b_a_1 := n31 hW
 have b_r_1 := n32 hW
 have b_n_1 := n33 hW
 have HB1 := Lib.hid hb
 clear hW hz hb
 refine (refFixed_any (t := ⟨ka, x, s, l⟩) (vs := [_, _, _, _]) (HA.out.below HB1.out hB) (Nat.le_trans hB HB1.out.size)).mono ?_
 rintro x w2 ⟨rfl, hb⟩
 have b_a_2 := b_a_1.later hb
 have b_r_2 := b_r_1.later hb
 have b_n_2 := b_n_1.later hb
 have HB2 := Lib.hid (bthen HB1.out hb)
 clear b_a_1 b_r_1 b_n_1
 clear hb
 rw [FA.out]
 have k_a := b_a_2.cell
 have k_r := b_r_2.cell
 have k_n := b_n_2.cell
 have f_r := b_r_2.free
 go_wp2_with fail
 refine bodyPost_ret (ret_tm2 rfl rfl (put4 b_r_2 HB2.out (by omega)).1 rfl) rfl ?_
 exact ⟨flatR_eq (rfl) (rfl), (put4 b_r_2 HB2.out (by omega)).2⟩
set_option maxRecDepth 100000 in
set_option maxHeartbeats 4000000 in
theorem unq_hi {code x ka : Int} {d B : Nat} {s : ByteArray} {l : List Tm} {vs : List Value} {w : World} (ha : RTm w B d ⟨ka, x, s, l⟩ vs) (hB : B ≤ w.heap.size) (fa : fixedB ⟨ka, x, s, l⟩ = true) (hc : 3 < code) :
   Calls Tryz.prog 55 #[.int .i64 code, .agg vs.toArray] w fun z w' => z = flatR 0 0 emp 1 ∧ Below w.heap.size w w' := by
 obtain ⟨A, c, rfl, q1, q2, q3, q4, q5, _⟩ := ha.cells
 have HA := Lib.hid ha
 simp only at q2 q3 q4 q5
 clear ha
 have hq0 : decide (code < 1) = false := by simp; omega
 have hq1 : decide (3 < code) = true := by simp; omega
 have FA := Lib.hid fa
 clear fa
 go_enter Tryz.func55, Tryz.ntmps55
 go_wp2_with fail
 generalize hW : World.alloc _ _ = w1
 obtain ⟨hb, hz⟩ := al3 hW
 have b_a_1 := n31 hW
 have b_r_1 := n32 hW
 have b_n_1 := n33 hW
 have HB1 := Lib.hid hb
 clear hW hz hb
 refine (refFixed_any (t := ⟨ka, x, s, l⟩) (vs := [_, _, _, _]) (HA.out.below HB1.out hB) (Nat.le_trans hB HB1.out.size)).mono ?_
 rintro x w2 ⟨rfl, hb⟩
 have b_a_2 := b_a_1.later hb
 have b_r_2 := b_r_1.later hb
 have b_n_2 := b_n_1.later hb
 have HB2 := Lib.hid (bthen HB1.out hb)
 clear b_a_1 b_r_1 b_n_1
 clear hb
 rw [FA.out]
 have k_a := b_a_2.cell
 have k_r := b_r_2.cell
 have k_n := b_n_2.cell
 have f_r := b_r_2.free
 go_wp2_with fail
 refine bodyPost_ret (ret_tm2 rfl rfl (put4 b_r_2 HB2.out (by omega)).1 rfl) rfl ?_
 exact ⟨flatR_eq (rfl) (rfl), (put4 b_r_2 HB2.out (by omega)).2⟩
set_option maxRecDepth 100000 in
set_option maxHeartbeats 4000000 in
theorem unq_not {x : Int} {d B : Nat} {s : ByteArray} {l : List Tm} {vs : List Value} {w : World} (ha : RTm w B d ⟨6, x, s, l⟩ vs) (hB : B ≤ w.heap.size) (fa : fixedB ⟨6, x, s, l⟩ = true) :
   Calls Tryz.prog 55 #[.int .i64 1, .agg vs.toArray] w fun z w' => z = flatR 6 (bit (decide (x = 0))) emp 0 ∧ Below w.heap.size w w' := by
 obtain ⟨A, c, rfl, q1, q2, q3, q4, q5, _⟩ := ha.cells
 have HA := Lib.hid ha
 simp only at q2 q3 q4 q5
 clear ha
 have HD : Hid ((x == 0) = decide (x = 0)) := Lib.hid (by rw [Bool.eq_iff_iff]; simp)
 have FA := Lib.hid fa
 clear fa
 go_enter Tryz.func55, Tryz.ntmps55
 go_wp2_with fail
 generalize hW : World.alloc _ _ = w1
 obtain ⟨hb, hz⟩ := al3 hW
 have b_a_1 := n31 hW
 have b_r_1 := n32 hW
 have b_n_1 := n33 hW
 have HB1 := Lib.hid hb
 clear hW hz hb
 refine (refFixed_any (t := ⟨6, x, s, l⟩) (vs := [_, _, _, _]) (HA.out.below HB1.out hB) (Nat.le_trans hB HB1.out.size)).mono ?_
 rintro x w2 ⟨rfl, hb⟩
 have b_a_2 := b_a_1.later hb
 have b_r_2 := b_r_1.later hb
 have b_n_2 := b_n_1.later hb
 have HB2 := Lib.hid (bthen HB1.out hb)
 clear b_a_1 b_r_1 b_n_1
 clear hb
 rw [FA.out]
 have k_a := b_a_2.cell
 have k_r := b_r_2.cell
 have k_n := b_n_2.cell
 go_wp2_with fail
 clear k_a k_r k_n
 rw [HD.out]
 refine (truthq_any _ _).mono ?_
 rintro x w3 ⟨rfl, hb⟩
 have b_a_3 := b_a_2.later hb
 have b_r_3 := b_r_2.later hb
 have b_n_3 := b_n_2.later hb
 have HB3 := Lib.hid (bthen HB2.out hb)
 clear b_a_2 b_r_2 b_n_2
 clear hb
 have k_a := b_a_3.cell
 have k_r := b_r_3.cell
 have k_n := b_n_3.cell
 have f_r := b_r_3.free
 go_wp2_with fail
 refine bodyPost_ret (ret_tm2 rfl rfl (put4 b_r_3 HB3.out (by omega)).1 rfl) rfl ?_
 exact ⟨flatR_eq (rfl) (rfl), (put4 b_r_3 HB3.out (by omega)).2⟩
set_option maxRecDepth 100000 in
set_option maxHeartbeats 4000000 in
theorem unq_neg {x : Int} {d B : Nat} {s : ByteArray} {l : List Tm} {vs : List Value} {w : World} (ha : RTm w B d ⟨2, x, s, l⟩ vs) (hB : B ≤ w.heap.size) (fa : fixedB ⟨2, x, s, l⟩ = true) (h : x ≠ -9223372036854775808) :
   Calls Tryz.prog 55 #[.int .i64 2, .agg vs.toArray] w fun z w' => z = flatR 2 (-x) emp 0 ∧ Below w.heap.size w w' := by
 obtain ⟨A, c, rfl, q1, q2, q3, q4, q5, _⟩ := ha.cells
 have HA := Lib.hid ha
 simp only at q2 q3 q4 q5
 clear ha
 have hq : (x == -9223372036854775808) = false := by simpa using h
 have hwr : wrap64 (-x) = -x := by unfold wrap64; unfold I64 at q5; omega
 clear h
 have FA := Lib.hid fa
 clear fa
 go_enter Tryz.func55, Tryz.ntmps55
 go_wp2_with fail
 generalize hW : World.alloc _ _ = w1
 obtain ⟨hb, hz⟩ := al3 hW
 have b_a_1 := n31 hW
 have b_r_1 := n32 hW
 have b_n_1 := n33 hW
 have HB1 := Lib.hid hb
 clear hW hz hb
 refine (refFixed_any (t := ⟨2, x, s, l⟩) (vs := [_, _, _, _]) (HA.out.below HB1.out hB) (Nat.le_trans hB HB1.out.size)).mono ?_
 rintro x w2 ⟨rfl, hb⟩
 have b_a_2 := b_a_1.later hb
 have b_r_2 := b_r_1.later hb
 have b_n_2 := b_n_1.later hb
 have HB2 := Lib.hid (bthen HB1.out hb)
 clear b_a_1 b_r_1 b_n_1
 clear hb
 rw [FA.out]
 have k_a := b_a_2.cell
 have k_r := b_r_2.cell
 have k_n := b_n_2.cell
 go_wp2_with fail
 clear k_a k_r k_n
 refine (numberq_any _ _).mono ?_
 rintro x w3 ⟨rfl, hb⟩
 have b_a_3 := b_a_2.later hb
 have b_r_3 := b_r_2.later hb
 have b_n_3 := b_n_2.later hb
 have HB3 := Lib.hid (bthen HB2.out hb)
 clear b_a_2 b_r_2 b_n_2
 clear hb
 have k_a := b_a_3.cell
 have k_r := b_r_3.cell
 have k_n := b_n_3.cell
 have f_r := b_r_3.free
 go_wp2_with fail
 refine bodyPost_ret (ret_tm2 rfl rfl (put4 b_r_3 HB3.out (by omega)).1 rfl) rfl ?_
 exact ⟨flatR_eq (rfl) (rfl), (put4 b_r_3 HB3.out (by omega)).2⟩
set_option maxRecDepth 100000 in
set_option maxHeartbeats 4000000 in
theorem unq_over {x : Int} {d B : Nat} {s : ByteArray} {l : List Tm} {vs : List Value} {w : World} (ha : RTm w B d ⟨2, x, s, l⟩ vs) (hB : B ≤ w.heap.size) (fa : fixedB ⟨2, x, s, l⟩ = true) (h : x = -9223372036854775808) :
   Calls Tryz.prog 55 #[.int .i64 2, .agg vs.toArray] w fun z w' => z = flatR 0 0 emp 5 ∧ Below w.heap.size w w' := by
 obtain ⟨A, c, rfl, q1, q2, q3, q4, q5, _⟩ := ha.cells
 have HA := Lib.hid ha
 simp only at q2 q3 q4 q5
 clear ha
 have hq : (x == -9223372036854775808) = true := by simpa using h
 clear h
 have FA := Lib.hid fa
 clear fa
 go_enter Tryz.func55, Tryz.ntmps55
 go_wp2_with fail
 generalize hW : World.alloc _ _ = w1
 obtain ⟨hb, hz⟩ := al3 hW
 have b_a_1 := n31 hW
 have b_r_1 := n32 hW
 have b_n_1 := n33 hW
 have HB1 := Lib.hid hb
 clear hW hz hb
 refine (refFixed_any (t := ⟨2, x, s, l⟩) (vs := [_, _, _, _]) (HA.out.below HB1.out hB) (Nat.le_trans hB HB1.out.size)).mono ?_
 rintro x w2 ⟨rfl, hb⟩
 have b_a_2 := b_a_1.later hb
 have b_r_2 := b_r_1.later hb
 have b_n_2 := b_n_1.later hb
 have HB2 := Lib.hid (bthen HB1.out hb)
 clear b_a_1 b_r_1 b_n_1
 clear hb
 rw [FA.out]
 have k_a := b_a_2.cell
 have k_r := b_r_2.cell
 have k_n := b_n_2.cell
 have f_r := b_r_2.free
 go_wp2_with fail
 refine bodyPost_ret (ret_tm2 rfl rfl (put4 b_r_2 HB2.out (by omega)).1 rfl) rfl ?_
 exact ⟨flatR_eq (rfl) (rfl), (put4 b_r_2 HB2.out (by omega)).2⟩
set_option maxRecDepth 100000 in
set_option maxHeartbeats 4000000 in
theorem unq_len3 {x : Int} {d B : Nat} {s : ByteArray} {l : List Tm} {vs : List Value} {w : World} (ha : RTm w B d ⟨3, x, s, l⟩ vs) (hB : B ≤ w.heap.size) (fa : fixedB ⟨3, x, s, l⟩ = true) :
   Calls Tryz.prog 55 #[.int .i64 3, .agg vs.toArray] w fun z w' => z = flatR 2 s.size emp 0 ∧ Below w.heap.size w w' := by
 obtain ⟨A, c, rfl, q1, q2, q3, q4, q5, _⟩ := ha.cells
 have HA := Lib.hid ha
 simp only at q2 q3 q4 q5
 clear ha
 have FA := Lib.hid fa
 clear fa
 go_enter Tryz.func55, Tryz.ntmps55
 go_wp2_with fail
 generalize hW : World.alloc _ _ = w1
 obtain ⟨hb, hz⟩ := al3 hW
 have b_a_1 := n31 hW
 have b_r_1 := n32 hW
 have b_n_1 := n33 hW
 have HB1 := Lib.hid hb
 clear hW hz hb
 refine (refFixed_any (t := ⟨3, x, s, l⟩) (vs := [_, _, _, _]) (HA.out.below HB1.out hB) (Nat.le_trans hB HB1.out.size)).mono ?_
 rintro x w2 ⟨rfl, hb⟩
 have b_a_2 := b_a_1.later hb
 have b_r_2 := b_r_1.later hb
 have b_n_2 := b_n_1.later hb
 have HB2 := Lib.hid (bthen HB1.out hb)
 clear b_a_1 b_r_1 b_n_1
 clear hb
 rw [FA.out]
 have k_a := b_a_2.cell
 have k_r := b_r_2.cell
 have k_n := b_n_2.cell
 go_wp2_with fail
 clear k_a k_r k_n
 refine (numberq_any _ _).mono ?_
 rintro x w3 ⟨rfl, hb⟩
 have b_a_3 := b_a_2.later hb
 have b_r_3 := b_r_2.later hb
 have b_n_3 := b_n_2.later hb
 have HB3 := Lib.hid (bthen HB2.out hb)
 clear b_a_2 b_r_2 b_n_2
 clear hb
 have k_a := b_a_3.cell
 have k_r := b_r_3.cell
 have k_n := b_n_3.cell
 have f_r := b_r_3.free
 go_wp2_with fail
 refine bodyPost_ret (ret_tm2 rfl rfl (put4 b_r_3 HB3.out (by omega)).1 rfl) rfl ?_
 exact ⟨flatR_eq (rfl) (rfl), (put4 b_r_3 HB3.out (by omega)).2⟩
set_option maxRecDepth 100000 in
set_option maxHeartbeats 4000000 in
theorem unq_len5 {x : Int} {d B : Nat} {s : ByteArray} {l : List Tm} {vs : List Value} {w : World} (ha : RTm w B d ⟨5, x, s, l⟩ vs) (hB : B ≤ w.heap.size) (fa : fixedB ⟨5, x, s, l⟩ = true) :
   Calls Tryz.prog 55 #[.int .i64 3, .agg vs.toArray] w fun z w' => z = flatR 2 s.size emp 0 ∧ Below w.heap.size w w' := by
 obtain ⟨A, c, rfl, q1, q2, q3, q4, q5, _⟩ := ha.cells
 have HA := Lib.hid ha
 simp only at q2 q3 q4 q5
 clear ha
 have FA := Lib.hid fa
 clear fa
 go_enter Tryz.func55, Tryz.ntmps55
 go_wp2_with fail
 generalize hW : World.alloc _ _ = w1
 obtain ⟨hb, hz⟩ := al3 hW
 have b_a_1 := n31 hW
 have b_r_1 := n32 hW
 have b_n_1 := n33 hW
 have HB1 := Lib.hid hb
 clear hW hz hb
 refine (refFixed_any (t := ⟨5, x, s, l⟩) (vs := [_, _, _, _]) (HA.out.below HB1.out hB) (Nat.le_trans hB HB1.out.size)).mono ?_
 rintro x w2 ⟨rfl, hb⟩
 have b_a_2 := b_a_1.later hb
 have b_r_2 := b_r_1.later hb
 have b_n_2 := b_n_1.later hb
 have HB2 := Lib.hid (bthen HB1.out hb)
 clear b_a_1 b_r_1 b_n_1
 clear hb
 rw [FA.out]
 have k_a := b_a_2.cell
 have k_r := b_r_2.cell
 have k_n := b_n_2.cell
 go_wp2_with fail
 clear k_a k_r k_n
 refine (numberq_any _ _).mono ?_
 rintro x w3 ⟨rfl, hb⟩
 have b_a_3 := b_a_2.later hb
 have b_r_3 := b_r_2.later hb
 have b_n_3 := b_n_2.later hb
 have HB3 := Lib.hid (bthen HB2.out hb)
 clear b_a_2 b_r_2 b_n_2
 clear hb
 have k_a := b_a_3.cell
 have k_r := b_r_3.cell
 have k_n := b_n_3.cell
 have f_r := b_r_3.free
 go_wp2_with fail
 refine bodyPost_ret (ret_tm2 rfl rfl (put4 b_r_3 HB3.out (by omega)).1 rfl) rfl ?_
 exact ⟨flatR_eq (rfl) (rfl), (put4 b_r_3 HB3.out (by omega)).2⟩
set_option maxRecDepth 100000 in
set_option maxHeartbeats 4000000 in
theorem unq_len7 {x : Int} {d B : Nat} {s : ByteArray} {l : List Tm} {vs : List Value} {w : World} (ha : RTm w B d ⟨7, x, s, l⟩ vs) (hB : B ≤ w.heap.size) (fa : fixedB ⟨7, x, s, l⟩ = true) :
   Calls Tryz.prog 55 #[.int .i64 3, .agg vs.toArray] w fun z w' => z = flatR 2 l.length emp 0 ∧ Below w.heap.size w w' := by
 obtain ⟨A, c, rfl, q1, q2, q3, q4, q5, _⟩ := ha.cells
 have HA := Lib.hid ha
 simp only at q2 q3 q4 q5
 clear ha
 have FA := Lib.hid fa
 clear fa
 go_enter Tryz.func55, Tryz.ntmps55
 go_wp2_with fail
 generalize hW : World.alloc _ _ = w1
 obtain ⟨hb, hz⟩ := al3 hW
 have b_a_1 := n31 hW
 have b_r_1 := n32 hW
 have b_n_1 := n33 hW
 have HB1 := Lib.hid hb
 clear hW hz hb
 refine (refFixed_any (t := ⟨7, x, s, l⟩) (vs := [_, _, _, _]) (HA.out.below HB1.out hB) (Nat.le_trans hB HB1.out.size)).mono ?_
 rintro x w2 ⟨rfl, hb⟩
 have b_a_2 := b_a_1.later hb
 have b_r_2 := b_r_1.later hb
 have b_n_2 := b_n_1.later hb
 have HB2 := Lib.hid (bthen HB1.out hb)
 clear b_a_1 b_r_1 b_n_1
 clear hb
 rw [FA.out]
 have k_a := b_a_2.cell
 have k_r := b_r_2.cell
 have k_n := b_n_2.cell
 go_wp2_with fail
 clear k_a k_r k_n
 refine (numberq_any _ _).mono ?_
 rintro x w3 ⟨rfl, hb⟩
 have b_a_3 := b_a_2.later hb
 have b_r_3 := b_r_2.later hb
 have b_n_3 := b_n_2.later hb
 have HB3 := Lib.hid (bthen HB2.out hb)
 clear b_a_2 b_r_2 b_n_2
 clear hb
 have k_a := b_a_3.cell
 have k_r := b_r_3.cell
 have k_n := b_n_3.cell
 have f_r := b_r_3.free
 go_wp2_with fail
 refine bodyPost_ret (ret_tm2 rfl rfl (put4 b_r_3 HB3.out (by omega)).1 rfl) rfl ?_
 exact ⟨flatR_eq (rfl) (rfl), (put4 b_r_3 HB3.out (by omega)).2⟩
set_option maxRecDepth 100000 in
set_option maxHeartbeats 4000000 in
theorem unq_type1 {x ka : Int} {d B : Nat} {s : ByteArray} {l : List Tm} {vs : List Value} {w : World} (ha : RTm w B d ⟨ka, x, s, l⟩ vs) (hB : B ≤ w.heap.size) (fa : fixedB ⟨ka, x, s, l⟩ = true) (h6 : ka ≠ 6) :
   Calls Tryz.prog 55 #[.int .i64 1, .agg vs.toArray] w fun z w' => z = flatR 0 0 emp 7 ∧ Below w.heap.size w w' := by
 obtain ⟨A, c, rfl, q1, q2, q3, q4, q5, _⟩ := ha.cells
 have HA := Lib.hid ha
 simp only at q2 q3 q4 q5
 clear ha
 have hq6 : (ka == 6) = false := by simpa using h6
 have FA := Lib.hid fa
 clear fa
 go_enter Tryz.func55, Tryz.ntmps55
 go_wp2_with fail
 generalize hW : World.alloc _ _ = w1
 obtain ⟨hb, hz⟩ := al3 hW
 have b_a_1 := n31 hW
 have b_r_1 := n32 hW
 have b_n_1 := n33 hW
 have HB1 := Lib.hid hb
 clear hW hz hb
 refine (refFixed_any (t := ⟨ka, x, s, l⟩) (vs := [_, _, _, _]) (HA.out.below HB1.out hB) (Nat.le_trans hB HB1.out.size)).mono ?_
 rintro x w2 ⟨rfl, hb⟩
 have b_a_2 := b_a_1.later hb
 have b_r_2 := b_r_1.later hb
 have b_n_2 := b_n_1.later hb
 have HB2 := Lib.hid (bthen HB1.out hb)
 clear b_a_1 b_r_1 b_n_1
 clear hb
 rw [FA.out]
 have k_a := b_a_2.cell
 have k_r := b_r_2.cell
 have k_n := b_n_2.cell
 have f_r := b_r_2.free
 go_wp2_with fail
 refine bodyPost_ret (ret_tm2 rfl rfl (put4 b_r_2 HB2.out (by omega)).1 rfl) rfl ?_
 exact ⟨flatR_eq (rfl) (rfl), (put4 b_r_2 HB2.out (by omega)).2⟩
set_option maxRecDepth 100000 in
set_option maxHeartbeats 4000000 in
theorem unq_type2 {x ka : Int} {d B : Nat} {s : ByteArray} {l : List Tm} {vs : List Value} {w : World} (ha : RTm w B d ⟨ka, x, s, l⟩ vs) (hB : B ≤ w.heap.size) (fa : fixedB ⟨ka, x, s, l⟩ = true) (h2 : ka ≠ 2) :
   Calls Tryz.prog 55 #[.int .i64 2, .agg vs.toArray] w fun z w' => z = flatR 0 0 emp 7 ∧ Below w.heap.size w w' := by
 obtain ⟨A, c, rfl, q1, q2, q3, q4, q5, _⟩ := ha.cells
 have HA := Lib.hid ha
 simp only at q2 q3 q4 q5
 clear ha
 have hq2 : (ka == 2) = false := by simpa using h2
 have FA := Lib.hid fa
 clear fa
 go_enter Tryz.func55, Tryz.ntmps55
 go_wp2_with fail
 generalize hW : World.alloc _ _ = w1
 obtain ⟨hb, hz⟩ := al3 hW
 have b_a_1 := n31 hW
 have b_r_1 := n32 hW
 have b_n_1 := n33 hW
 have HB1 := Lib.hid hb
 clear hW hz hb
 refine (refFixed_any (t := ⟨ka, x, s, l⟩) (vs := [_, _, _, _]) (HA.out.below HB1.out hB) (Nat.le_trans hB HB1.out.size)).mono ?_
 rintro x w2 ⟨rfl, hb⟩
 have b_a_2 := b_a_1.later hb
 have b_r_2 := b_r_1.later hb
 have b_n_2 := b_n_1.later hb
 have HB2 := Lib.hid (bthen HB1.out hb)
 clear b_a_1 b_r_1 b_n_1
 clear hb
 rw [FA.out]
 have k_a := b_a_2.cell
 have k_r := b_r_2.cell
 have k_n := b_n_2.cell
 have f_r := b_r_2.free
 go_wp2_with fail
 refine bodyPost_ret (ret_tm2 rfl rfl (put4 b_r_2 HB2.out (by omega)).1 rfl) rfl ?_
 exact ⟨flatR_eq (rfl) (rfl), (put4 b_r_2 HB2.out (by omega)).2⟩
set_option maxRecDepth 100000 in
set_option maxHeartbeats 4000000 in
theorem unq_type3 {x ka : Int} {d B : Nat} {s : ByteArray} {l : List Tm} {vs : List Value} {w : World} (ha : RTm w B d ⟨ka, x, s, l⟩ vs) (hB : B ≤ w.heap.size) (fa : fixedB ⟨ka, x, s, l⟩ = true) (h3 : ka ≠ 3) (h5 : ka ≠ 5) (h7 : ka ≠ 7) :
   Calls Tryz.prog 55 #[.int .i64 3, .agg vs.toArray] w fun z w' => z = flatR 0 0 emp 7 ∧ Below w.heap.size w w' := by
 obtain ⟨A, c, rfl, q1, q2, q3, q4, q5, _⟩ := ha.cells
 have HA := Lib.hid ha
 simp only at q2 q3 q4 q5
 clear ha
 have hq3 : (ka == 3) = false := by simpa using h3
 have hq5 : (ka == 5) = false := by simpa using h5
 have hq7 : (ka == 7) = false := by simpa using h7
 have FA := Lib.hid fa
 clear fa
 go_enter Tryz.func55, Tryz.ntmps55
 go_wp2_with fail
 generalize hW : World.alloc _ _ = w1
 obtain ⟨hb, hz⟩ := al3 hW
 have b_a_1 := n31 hW
 have b_r_1 := n32 hW
 have b_n_1 := n33 hW
 have HB1 := Lib.hid hb
 clear hW hz hb
 refine (refFixed_any (t := ⟨ka, x, s, l⟩) (vs := [_, _, _, _]) (HA.out.below HB1.out hB) (Nat.le_trans hB HB1.out.size)).mono ?_
 rintro x w2 ⟨rfl, hb⟩
 have b_a_2 := b_a_1.later hb
 have b_r_2 := b_r_1.later hb
 have b_n_2 := b_n_1.later hb
 have HB2 := Lib.hid (bthen HB1.out hb)
 clear b_a_1 b_r_1 b_n_1
 clear hb
 rw [FA.out]
 have k_a := b_a_2.cell
 have k_r := b_r_2.cell
 have k_n := b_n_2.cell
 have f_r := b_r_2.free
 go_wp2_with fail
 refine bodyPost_ret (ret_tm2 rfl rfl (put4 b_r_2 HB2.out (by omega)).1 rfl) rfl ?_
 exact ⟨flatR_eq (rfl) (rfl), (put4 b_r_2 HB2.out (by omega)).2⟩
theorem rec_neg {x : Int} (hx : I64 x) : recT (recR 8 0 x) = if x = -9223372036854775808 then (noT, 5) else (intT (-x), 0) := by
 have hv : recV 8 0 x = -x := by show (0 : Int) - x = -x; omega
 by_cases h : x = -9223372036854775808
 · rw [if_pos h]
   have he : recE 8 0 x = 5 := by unfold recE; rw [if_neg (by omega), (fitsB_not _).2 (by rw [hv]; unfold I64; omega)]; rfl
   unfold recR
   rw [he, if_neg (by omega)]
   rfl
 · rw [if_neg h]
   have he : recE 8 0 x = 0 := by unfold recE; rw [if_neg (by omega), (fitsB_iff _).2 (by rw [hv]; unfold I64 at *; omega)]; rfl
   unfold recR
   rw [he, if_pos rfl, hv]
   rfl
set_option maxRecDepth 100000 in
theorem unaryq_any {code : Int} {a : Tm} {d B : Nat} {vs : List Value} {w : World} (ha : RTm w B (d + 1) a vs) (hB : B ≤ w.heap.size) :
   Calls Tryz.prog 55 #[.int .i64 code, .agg vs.toArray] w fun z w' => TermE d w w' (unR code a) z := by
 obtain ⟨ka, x, s, l⟩ := a
 have hsz : s.size ≤ 140737488351232 := by obtain ⟨_, _, _, _, _, h, _⟩ := ha.cells; exact h
 have hx64 : I64 x := by obtain ⟨_, _, _, _, _, _, _, h, _⟩ := ha.cells; exact h
 unfold unR
 rcases Bool.eq_false_or_eq_true (fixedB ⟨ka, x, s, l⟩) with fa | fa
 · by_cases hlo : code < 1
   · rw [if_pos (.inr (.inl hlo))]
     exact (unq_lo ha hB fa hlo).mono fun _ _ h => termE_no h
   · by_cases hhi : 3 < code
     · rw [if_pos (.inr (.inr hhi))]
       exact (unq_hi ha hB fa hhi).mono fun _ _ h => termE_no h
     · rw [if_neg (by rw [fa]; simp; omega)]
       have hc : code = 1 ∨ code = 2 ∨ code = 3 := by omega
       simp only
       rcases hc with rfl | rfl | rfl
       · by_cases h6 : ka = 6
         · subst h6
           rw [if_pos ⟨rfl, rfl⟩]
           exact (unq_not ha hB fa).mono fun _ _ h => termE_bool h
         · rw [if_neg (fun h => h6 h.2), if_neg (by omega), if_neg (by omega), if_neg (by omega)]
           exact (unq_type1 ha hB fa h6).mono fun _ _ h => termE_no h
       · rw [if_neg (by omega)]
         by_cases h2 : ka = 2
         · subst h2
           rw [if_pos ⟨rfl, rfl⟩, rec_neg hx64]
           by_cases hm : x = -9223372036854775808
           · rw [if_pos hm]
             exact (unq_over ha hB fa hm).mono fun _ _ h => termE_no h
           · rw [if_neg hm]
             exact (unq_neg ha hB fa hm).mono fun _ _ h => termE_int h (by unfold I64 at *; omega)
         · rw [if_neg (fun h => h2 h.2), if_neg (by omega), if_neg (by omega)]
           exact (unq_type2 ha hB fa h2).mono fun _ _ h => termE_no h
       · rw [if_neg (by omega), if_neg (by omega)]
         by_cases h3 : ka = 3
         · subst h3
           rw [if_pos ⟨rfl, .inl rfl⟩]
           exact (unq_len3 ha hB fa).mono fun _ _ h => termE_int h (i64_small (by omega) (by have := fixed_text fa; omega))
         · by_cases h5 : ka = 5
           · subst h5
             rw [if_pos ⟨rfl, .inr rfl⟩]
             exact (unq_len5 ha hB fa).mono fun _ _ h => termE_int h (i64_small (by omega) (by omega))
           · rw [if_neg (by omega)]
             by_cases h7 : ka = 7
             · subst h7
               rw [if_pos ⟨rfl, rfl⟩]
               exact (unq_len7 ha hB fa).mono fun _ _ h => termE_int h (i64_small (by omega) (by have := (fixed_set fa).1; omega))
             · rw [if_neg (by omega)]
               exact (unq_type3 ha hB fa h3 h5 h7).mono fun _ _ h => termE_no h
 · rw [if_pos (.inl fa)]
   exact (unq_bad ha hB fa).mono fun _ _ h => termE_no h
end Go.Proofs.YtiplipdigabidaaGreat
