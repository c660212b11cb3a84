/- op.compares, op.add, op.Binary on numbers and texts: what each arm tells. -/
import Derived.Test.YtiplipdigabidaaGreatRegSpec
set_option linter.unusedVariables false
set_option linter.unusedSimpArgs false
namespace Go.Proofs.YtiplipdigabidaaGreat
open Go.ChangeShapes Go.WideShapes Go.ChangeAt Go.RowKit
abbrev flatR (k n : Int) (s : ByteArray) (e : Int) : Ending := .returned (.tuple #[.agg #[.int .i64 k, .int .i64 n, .string s, .slice none 0 0], .int .i64 e])
abbrev emp : ByteArray := ⟨#[]⟩
set_option maxRecDepth 100000 in
set_option maxHeartbeats 4000000 in
theorem bin_reckon {code x y k n e : Int} {d d' B : Nat} {s s' : ByteArray} {l l' : List Tm} {vs ws : List Value} {w : World} (ha : RTm w B d ⟨2, x, s, l⟩ vs) (hb : RTm w B d' ⟨2, y, s', l'⟩ ws) (hB : B ≤ w.heap.size) (fa : fixedB ⟨2, x, s, l⟩ = true) (fb : fixedB ⟨2, y, s', l'⟩ = true) (hc : code = 7 ∨ code = 8 ∨ code = 9 ∨ code = 10) (hr : recR code x y = (k, n, e)) :
   Calls Tryz.prog 67 #[.int .i64 code, .agg vs.toArray, .agg ws.toArray] w fun z w' => z = flatR k n emp e ∧ Below w.heap.size w w' := by
 obtain ⟨A, c, rfl, q1, q2, q3, q4, q5, _⟩ := ha.cells
 obtain ⟨A', c', rfl, r1, r2, r3, r4, r5, _⟩ := hb.cells
 have HA := Lib.hid ha
 have HB_ := Lib.hid hb
 have FA := Lib.hid fa
 have FB := Lib.hid fb
 simp only at q2 q3 q4 q5 r2 r3 r4 r5
 clear ha hb fa fb
 have HR := Lib.hid hr
 have HK : Hid (kindsB code 2 2 = true) := Lib.hid (by rcases hc with rfl | rfl | rfl | rfl <;> decide)
 clear hr
 rcases hc with rfl | rfl | rfl | rfl
 all_goals
   go_enter Tryz.func67, Tryz.ntmps67
   go_wp2_with fail
   generalize hW : World.alloc _ _ = w1
   obtain ⟨hb, hz⟩ := al3 hW
   have b_a_1 := n31 hW
   have b_b_1 := n32 hW
   have b_r_1 := n33 hW
   have HB1 := Lib.hid hb
   clear hW hz hb
   refine (fixed_any (t := ⟨2, x, s, l⟩) (vs := [_, _, _, _]) (HA.out.below HB1.out hB) (Nat.le_trans hB HB1.out.size)).mono ?_
   rintro x w2 ⟨rfl, hb⟩
   have b_a_2 := b_a_1.later hb
   have b_b_2 := b_b_1.later hb
   have b_r_2 := b_r_1.later hb
   have HB2 := Lib.hid (bthen HB1.out hb)
   clear b_a_1 b_b_1 b_r_1
   clear hb
   rw [FA.out]
   have k_a := b_a_2.cell
   have k_b := b_b_2.cell
   have k_r := b_r_2.cell
   go_wp2_with fail
   clear k_a k_b k_r
   refine (fixed_any (t := ⟨2, y, s', l'⟩) (vs := [_, _, _, _]) (HB_.out.below HB2.out hB) (Nat.le_trans hB HB2.out.size)).mono ?_
   rintro x w3 ⟨rfl, hb⟩
   have b_a_3 := b_a_2.later hb
   have b_b_3 := b_b_2.later hb
   have b_r_3 := b_r_2.later hb
   have HB3 := Lib.hid (bthen HB2.out hb)
   clear b_a_2 b_b_2 b_r_2
   clear hb
   rw [FB.out]
   have k_a := b_a_3.cell
   have k_b := b_b_3.cell
   have k_r := b_r_3.cell
   go_wp2_with fail
   clear k_a k_b k_r
   refine (kinds_any _ 2 2 _).mono ?_
   rintro x w4 ⟨rfl, hb⟩
   have b_a_4 := b_a_3.later hb
   have b_b_4 := b_b_3.later hb
   have b_r_4 := b_r_3.later hb
   have HB4 := Lib.hid (bthen HB3.out hb)
   clear b_a_3 b_b_3 b_r_3
   clear hb
   rw [HK.out]
   have k_a := b_a_4.cell
   have k_b := b_b_4.cell
   have k_r := b_r_4.cell
   go_wp2_with fail
   clear k_a k_b k_r
   refine (reckon_any _ x y k n e (by omega) q5 r5 HR.out _).mono ?_
   rintro x w5 ⟨rfl, hb⟩
   have b_a_5 := b_a_4.later hb
   have b_b_5 := b_b_4.later hb
   have b_r_5 := b_r_4.later hb
   have HB5 := Lib.hid (bthen HB4.out hb)
   clear b_a_4 b_b_4 b_r_4
   clear hb
   have k_a := b_a_5.cell
   have k_b := b_b_5.cell
   have k_r := b_r_5.cell
   have f_r := b_r_5.free
   go_wp2_with fail
   refine bodyPost_ret (ret_tm2 rfl rfl (put4 b_r_5 HB5.out (by omega)).1 rfl) rfl ?_
   exact ⟨rfl, (put4 b_r_5 HB5.out (by omega)).2⟩
set_option maxRecDepth 100000 in
set_option maxHeartbeats 4000000 in
theorem bin_and {x y : Int} {d d' B : Nat} {s s' : ByteArray} {l l' : List Tm} {vs ws : List Value} {w : World} (ha : RTm w B d ⟨2, x, s, l⟩ vs) (hb : RTm w B d' ⟨2, y, s', l'⟩ ws) (hB : B ≤ w.heap.size) (fa : fixedB ⟨2, x, s, l⟩ = true) (fb : fixedB ⟨2, y, s', l'⟩ = true)  :
   Calls Tryz.prog 67 #[.int .i64 17, .agg vs.toArray, .agg ws.toArray] w fun z w' => z = flatR 2 (bits .and .i64 x y) emp 0 ∧ Below w.heap.size w w' := by
 obtain ⟨A, c, rfl, q1, q2, q3, q4, q5, _⟩ := ha.cells
 obtain ⟨A', c', rfl, r1, r2, r3, r4, r5, _⟩ := hb.cells
 have HA := Lib.hid ha
 have HB_ := Lib.hid hb
 have FA := Lib.hid fa
 have FB := Lib.hid fb
 simp only at q2 q3 q4 q5 r2 r3 r4 r5
 clear ha hb fa fb
 have HK : Hid (kindsB 17 2 2 = true) := Lib.hid (by decide)
 go_enter Tryz.func67, Tryz.ntmps67
 go_wp2_with fail
 generalize hW : World.alloc _ _ = w1
 obtain ⟨hb, hz⟩ := al3 hW
 have b_a_1 := n31 hW
 have b_b_1 := n32 hW
 have b_r_1 := n33 hW
 have HB1 := Lib.hid hb
 clear hW hz hb
 refine (fixed_any (t := ⟨2, x, s, l⟩) (vs := [_, _, _, _]) (HA.out.below HB1.out hB) (Nat.le_trans hB HB1.out.size)).mono ?_
 rintro x w2 ⟨rfl, hb⟩
 have b_a_2 := b_a_1.later hb
 have b_b_2 := b_b_1.later hb
 have b_r_2 := b_r_1.later hb
 have HB2 := Lib.hid (bthen HB1.out hb)
 clear b_a_1 b_b_1 b_r_1
 clear hb
 rw [FA.out]
 have k_a := b_a_2.cell
 have k_b := b_b_2.cell
 have k_r := b_r_2.cell
 go_wp2_with fail
 clear k_a k_b k_r
 refine (fixed_any (t := ⟨2, y, s', l'⟩) (vs := [_, _, _, _]) (HB_.out.below HB2.out hB) (Nat.le_trans hB HB2.out.size)).mono ?_
 rintro x w3 ⟨rfl, hb⟩
 have b_a_3 := b_a_2.later hb
 have b_b_3 := b_b_2.later hb
 have b_r_3 := b_r_2.later hb
 have HB3 := Lib.hid (bthen HB2.out hb)
 clear b_a_2 b_b_2 b_r_2
 clear hb
 rw [FB.out]
 have k_a := b_a_3.cell
 have k_b := b_b_3.cell
 have k_r := b_r_3.cell
 go_wp2_with fail
 clear k_a k_b k_r
 refine (kinds_any 17 2 2 _).mono ?_
 rintro x w4 ⟨rfl, hb⟩
 have b_a_4 := b_a_3.later hb
 have b_b_4 := b_b_3.later hb
 have b_r_4 := b_r_3.later hb
 have HB4 := Lib.hid (bthen HB3.out hb)
 clear b_a_3 b_b_3 b_r_3
 clear hb
 rw [HK.out]
 have k_a := b_a_4.cell
 have k_b := b_b_4.cell
 have k_r := b_r_4.cell
 go_wp2_with fail
 clear k_a k_b k_r
 refine (number_any _ _).mono ?_
 rintro x w5 ⟨rfl, hb⟩
 have b_a_5 := b_a_4.later hb
 have b_b_5 := b_b_4.later hb
 have b_r_5 := b_r_4.later hb
 have HB5 := Lib.hid (bthen HB4.out hb)
 clear b_a_4 b_b_4 b_r_4
 clear hb
 have k_a := b_a_5.cell
 have k_b := b_b_5.cell
 have k_r := b_r_5.cell
 have f_r := b_r_5.free
 go_wp2_with fail
 refine bodyPost_ret (ret_tm2 rfl rfl (put4 b_r_5 HB5.out (by omega)).1 rfl) rfl ?_
 exact ⟨rfl, (put4 b_r_5 HB5.out (by omega)).2⟩
set_option maxRecDepth 100000 in
set_option maxHeartbeats 4000000 in
theorem bin_or {x y : Int} {d d' B : Nat} {s s' : ByteArray} {l l' : List Tm} {vs ws : List Value} {w : World} (ha : RTm w B d ⟨2, x, s, l⟩ vs) (hb : RTm w B d' ⟨2, y, s', l'⟩ ws) (hB : B ≤ w.heap.size) (fa : fixedB ⟨2, x, s, l⟩ = true) (fb : fixedB ⟨2, y, s', l'⟩ = true)  :
   Calls Tryz.prog 67 #[.int .i64 18, .agg vs.toArray, .agg ws.toArray] w fun z w' => z = flatR 2 (bits .or .i64 x y) emp 0 ∧ Below w.heap.size w w' := by
 obtain ⟨A, c, rfl, q1, q2, q3, q4, q5, _⟩ := ha.cells
 obtain ⟨A', c', rfl, r1, r2, r3, r4, r5, _⟩ := hb.cells
 have HA := Lib.hid ha
 have HB_ := Lib.hid hb
 have FA := Lib.hid fa
 have FB := Lib.hid fb
 simp only at q2 q3 q4 q5 r2 r3 r4 r5
 clear ha hb fa fb
 have HK : Hid (kindsB 18 2 2 = true) := Lib.hid (by decide)
 go_enter Tryz.func67, Tryz.ntmps67
 go_wp2_with fail
 generalize hW : World.alloc _ _ = w1
 obtain ⟨hb, hz⟩ := al3 hW
 have b_a_1 := n31 hW
 have b_b_1 := n32 hW
 have b_r_1 := n33 hW
 have HB1 := Lib.hid hb
 clear hW hz hb
 refine (fixed_any (t := ⟨2, x, s, l⟩) (vs := [_, _, _, _]) (HA.out.below HB1.out hB) (Nat.le_trans hB HB1.out.size)).mono ?_
 rintro x w2 ⟨rfl, hb⟩
 have b_a_2 := b_a_1.later hb
 have b_b_2 := b_b_1.later hb
 have b_r_2 := b_r_1.later hb
 have HB2 := Lib.hid (bthen HB1.out hb)
 clear b_a_1 b_b_1 b_r_1
 clear hb
 rw [FA.out]
 have k_a := b_a_2.cell
 have k_b := b_b_2.cell
 have k_r := b_r_2.cell
 go_wp2_with fail
 clear k_a k_b k_r
 refine (fixed_any (t := ⟨2, y, s', l'⟩) (vs := [_, _, _, _]) (HB_.out.below HB2.out hB) (Nat.le_trans hB HB2.out.size)).mono ?_
 rintro x w3 ⟨rfl, hb⟩
 have b_a_3 := b_a_2.later hb
 have b_b_3 := b_b_2.later hb
 have b_r_3 := b_r_2.later hb
 have HB3 := Lib.hid (bthen HB2.out hb)
 clear b_a_2 b_b_2 b_r_2
 clear hb
 rw [FB.out]
 have k_a := b_a_3.cell
 have k_b := b_b_3.cell
 have k_r := b_r_3.cell
 go_wp2_with fail
 clear k_a k_b k_r
 refine (kinds_any 18 2 2 _).mono ?_
 rintro x w4 ⟨rfl, hb⟩
 have b_a_4 := b_a_3.later hb
 have b_b_4 := b_b_3.later hb
 have b_r_4 := b_r_3.later hb
 have HB4 := Lib.hid (bthen HB3.out hb)
 clear b_a_3 b_b_3 b_r_3
 clear hb
 rw [HK.out]
 have k_a := b_a_4.cell
 have k_b := b_b_4.cell
 have k_r := b_r_4.cell
 go_wp2_with fail
 clear k_a k_b k_r
 refine (number_any _ _).mono ?_
 rintro x w5 ⟨rfl, hb⟩
 have b_a_5 := b_a_4.later hb
 have b_b_5 := b_b_4.later hb
 have b_r_5 := b_r_4.later hb
 have HB5 := Lib.hid (bthen HB4.out hb)
 clear b_a_4 b_b_4 b_r_4
 clear hb
 have k_a := b_a_5.cell
 have k_b := b_b_5.cell
 have k_r := b_r_5.cell
 have f_r := b_r_5.free
 go_wp2_with fail
 refine bodyPost_ret (ret_tm2 rfl rfl (put4 b_r_5 HB5.out (by omega)).1 rfl) rfl ?_
 exact ⟨rfl, (put4 b_r_5 HB5.out (by omega)).2⟩
set_option maxRecDepth 100000 in
set_option maxHeartbeats 4000000 in
theorem bin_xor {x y : Int} {d d' B : Nat} {s s' : ByteArray} {l l' : List Tm} {vs ws : List Value} {w : World} (ha : RTm w B d ⟨2, x, s, l⟩ vs) (hb : RTm w B d' ⟨2, y, s', l'⟩ ws) (hB : B ≤ w.heap.size) (fa : fixedB ⟨2, x, s, l⟩ = true) (fb : fixedB ⟨2, y, s', l'⟩ = true)  :
   Calls Tryz.prog 67 #[.int .i64 19, .agg vs.toArray, .agg ws.toArray] w fun z w' => z = flatR 2 (bits .xor .i64 x y) emp 0 ∧ Below w.heap.size w w' := by
 obtain ⟨A, c, rfl, q1, q2, q3, q4, q5, _⟩ := ha.cells
 obtain ⟨A', c', rfl, r1, r2, r3, r4, r5, _⟩ := hb.cells
 have HA := Lib.hid ha
 have HB_ := Lib.hid hb
 have FA := Lib.hid fa
 have FB := Lib.hid fb
 simp only at q2 q3 q4 q5 r2 r3 r4 r5
 clear ha hb fa fb
 have HK : Hid (kindsB 19 2 2 = true) := Lib.hid (by decide)
 go_enter Tryz.func67, Tryz.ntmps67
 go_wp2_with fail
 generalize hW : World.alloc _ _ = w1
 obtain ⟨hb, hz⟩ := al3 hW
 have b_a_1 := n31 hW
 have b_b_1 := n32 hW
 have b_r_1 := n33 hW
 have HB1 := Lib.hid hb
 clear hW hz hb
 refine (fixed_any (t := ⟨2, x, s, l⟩) (vs := [_, _, _, _]) (HA.out.below HB1.out hB) (Nat.le_trans hB HB1.out.size)).mono ?_
 rintro x w2 ⟨rfl, hb⟩
 have b_a_2 := b_a_1.later hb
 have b_b_2 := b_b_1.later hb
 have b_r_2 := b_r_1.later hb
 have HB2 := Lib.hid (bthen HB1.out hb)
 clear b_a_1 b_b_1 b_r_1
 clear hb
 rw [FA.out]
 have k_a := b_a_2.cell
 have k_b := b_b_2.cell
 have k_r := b_r_2.cell
 go_wp2_with fail
 clear k_a k_b k_r
 refine (fixed_any (t := ⟨2, y, s', l'⟩) (vs := [_, _, _, _]) (HB_.out.below HB2.out hB) (Nat.le_trans hB HB2.out.size)).mono ?_
 rintro x w3 ⟨rfl, hb⟩
 have b_a_3 := b_a_2.later hb
 have b_b_3 := b_b_2.later hb
 have b_r_3 := b_r_2.later hb
 have HB3 := Lib.hid (bthen HB2.out hb)
 clear b_a_2 b_b_2 b_r_2
 clear hb
 rw [FB.out]
 have k_a := b_a_3.cell
 have k_b := b_b_3.cell
 have k_r := b_r_3.cell
 go_wp2_with fail
 clear k_a k_b k_r
 refine (kinds_any 19 2 2 _).mono ?_
 rintro x w4 ⟨rfl, hb⟩
 have b_a_4 := b_a_3.later hb
 have b_b_4 := b_b_3.later hb
 have b_r_4 := b_r_3.later hb
 have HB4 := Lib.hid (bthen HB3.out hb)
 clear b_a_3 b_b_3 b_r_3
 clear hb
 rw [HK.out]
 have k_a := b_a_4.cell
 have k_b := b_b_4.cell
 have k_r := b_r_4.cell
 go_wp2_with fail
 clear k_a k_b k_r
 refine (number_any _ _).mono ?_
 rintro x w5 ⟨rfl, hb⟩
 have b_a_5 := b_a_4.later hb
 have b_b_5 := b_b_4.later hb
 have b_r_5 := b_r_4.later hb
 have HB5 := Lib.hid (bthen HB4.out hb)
 clear b_a_4 b_b_4 b_r_4
 clear hb
 have k_a := b_a_5.cell
 have k_b := b_b_5.cell
 have k_r := b_r_5.cell
 have f_r := b_r_5.free
 go_wp2_with fail
 refine bodyPost_ret (ret_tm2 rfl rfl (put4 b_r_5 HB5.out (by omega)).1 rfl) rfl ?_
 exact ⟨rfl, (put4 b_r_5 HB5.out (by omega)).2⟩
end Go.Proofs.YtiplipdigabidaaGreat
