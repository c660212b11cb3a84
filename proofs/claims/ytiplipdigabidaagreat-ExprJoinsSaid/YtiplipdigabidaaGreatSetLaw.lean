/- What is in both sets, what is in either: the plain law. -/
import Derived.Test.YtiplipdigabidaaGreatOp3
import Derived.Test.YtiplipdigabidaaGreatSet
set_option linter.unusedVariables false
set_option linter.unusedSimpArgs false
namespace Go.Proofs.YtiplipdigabidaaGreat
open Go.ChangeShapes Go.WideShapes Go.ChangeAt Go.RowKit
def compB (code c : Int) : Bool :=
 if code = 1 then decide (c < 0) else if code = 2 then decide (0 < c) else if code = 3 then decide (c ≤ 0) else if code = 4 then decide (0 ≤ c) else if code = 5 then decide (c = 0) else decide (c ≠ 0)
set_option maxHeartbeats 1000000 in
theorem compares_any (code c : Int) (hc : code = 1 ∨ code = 2 ∨ code = 3 ∨ code = 4 ∨ code = 5 ∨ code = 6) (w : World) :
   Calls Tryz.prog 93 #[.int .i64 code, .int .i64 c] w fun e w' => e = .returned (.bool (compB code c)) ∧ w = w' := by
 rcases hc with rfl | rfl | rfl | rfl | rfl | rfl
 all_goals
   go_enter Tryz.func93, Tryz.ntmps93
   go_wp2_with fail
   go_ret
   refine ⟨ret_bool ?_, rfl⟩
   rw [Bool.eq_iff_iff]
   simp [compB]
set_option maxRecDepth 100000 in
set_option maxHeartbeats 4000000 in
theorem bin_compare {code x y ka kb : Int} {d d' B : Nat} {s s' : ByteArray} {l l' : List Tm} {vs ws : List Value} {w : World} (ha : RTm w B d ⟨ka, x, s, l⟩ vs) (hb : RTm w B d' ⟨kb, y, s', l'⟩ ws) (hB : B ≤ w.heap.size) (fa : fixedB ⟨ka, x, s, l⟩ = true) (fb : fixedB ⟨kb, y, s', l'⟩ = true) (hc : code = 1 ∨ code = 2 ∨ code = 3 ∨ code = 4 ∨ code = 5 ∨ code = 6) (hk : kindsB code ka kb = true) :
   Calls Tryz.prog 67 #[.int .i64 code, .agg vs.toArray, .agg ws.toArray] w fun z w' => z = flatR 6 (bit (compB code (cmpT 3 ⟨ka, x, s, l⟩ ⟨kb, y, s', l'⟩))) emp 0 ∧ Below w.heap.size w w' := by
 obtain ⟨A, c, rfl, q1, q2, q3, q4, q5, _⟩ := ha.cells
 obtain ⟨A', c', rfl, r1, r2, r3, r4, r5, _⟩ := hb.cells
 have HA := Lib.hid ha
 have HB_ := Lib.hid hb
 have FA := Lib.hid fa
 have FB := Lib.hid fb
 simp only at q2 q3 q4 q5 r2 r3 r4 r5
 clear ha hb fa fb
 have HK := Lib.hid hk
 clear hk
 rcases hc with rfl | rfl | rfl | rfl | rfl | rfl
 all_goals
   go_enter Tryz.func67, Tryz.ntmps67
   go_wp2_with fail
   generalize hW : World.alloc _ _ = w1
   obtain ⟨hb, hz⟩ := al3 hW
   have b_a_1 := n31 hW
   have b_b_1 := n32 hW
   have b_r_1 := n33 hW
   have HB1 := Lib.hid hb
   clear hW hz hb
   refine (fixed_any (t := ⟨ka, x, s, l⟩) (vs := [_, _, _, _]) (HA.out.below HB1.out hB) (Nat.le_trans hB HB1.out.size)).mono ?_
   rintro x w2 ⟨rfl, hb⟩
   have b_a_2 := b_a_1.later hb
   have b_b_2 := b_b_1.later hb
   have b_r_2 := b_r_1.later hb
   have HB2 := Lib.hid (bthen HB1.out hb)
   clear b_a_1 b_b_1 b_r_1
   clear hb
   rw [FA.out]
   have k_a := b_a_2.cell
   have k_b := b_b_2.cell
   have k_r := b_r_2.cell
   go_wp2_with fail
   clear k_a k_b k_r
   refine (fixed_any (t := ⟨kb, y, s', l'⟩) (vs := [_, _, _, _]) (HB_.out.below HB2.out hB) (Nat.le_trans hB HB2.out.size)).mono ?_
   rintro x w3 ⟨rfl, hb⟩
   have b_a_3 := b_a_2.later hb
   have b_b_3 := b_b_2.later hb
   have b_r_3 := b_r_2.later hb
   have HB3 := Lib.hid (bthen HB2.out hb)
   clear b_a_2 b_b_2 b_r_2
   clear hb
   rw [FB.out]
   have k_a := b_a_3.cell
   have k_b := b_b_3.cell
   have k_r := b_r_3.cell
   go_wp2_with fail
   clear k_a k_b k_r
   refine (kinds_any _ ka kb _).mono ?_
   rintro x w4 ⟨rfl, hb⟩
   have b_a_4 := b_a_3.later hb
   have b_b_4 := b_b_3.later hb
   have b_r_4 := b_r_3.later hb
   have HB4 := Lib.hid (bthen HB3.out hb)
   clear b_a_3 b_b_3 b_r_3
   clear hb
   rw [HK.out]
   have k_a := b_a_4.cell
   have k_b := b_b_4.cell
   have k_r := b_r_4.cell
   go_wp2_with fail
   clear k_a k_b k_r
   refine (compare_any d d' ⟨ka, x, s, l⟩ ⟨kb, y, s', l'⟩ [_, _, _, _] [_, _, _, _] B _ (HA.out.below HB4.out hB) (HB_.out.below HB4.out hB) (Nat.le_trans hB HB4.out.size)).mono ?_
   rintro x w5 ⟨rfl, hb⟩
   have b_a_5 := b_a_4.later hb
   have b_b_5 := b_b_4.later hb
   have b_r_5 := b_r_4.later hb
   have HB5 := Lib.hid (bthen HB4.out hb)
   clear b_a_4 b_b_4 b_r_4
   clear hb
   have k_a := b_a_5.cell
   have k_b := b_b_5.cell
   have k_r := b_r_5.cell
   go_wp2_with fail
   clear k_a k_b k_r
   refine (compares_any _ (cmpT 3 ⟨ka, x, s, l⟩ ⟨kb, y, s', l'⟩) (by omega) _).mono ?_
   rintro z0 wz ⟨rfl, rfl⟩
   have k_a := b_a_5.cell
   have k_b := b_b_5.cell
   have k_r := b_r_5.cell
   go_wp2_with fail
   clear k_a k_b k_r
   refine (truth_any _ _).mono ?_
   rintro x w6 ⟨rfl, hb⟩
   have b_a_6 := b_a_5.later hb
   have b_b_6 := b_b_5.later hb
   have b_r_6 := b_r_5.later hb
   have HB6 := Lib.hid (bthen HB5.out hb)
   clear b_a_5 b_b_5 b_r_5
   clear hb
   have k_a := b_a_6.cell
   have k_b := b_b_6.cell
   have k_r := b_r_6.cell
   have f_r := b_r_6.free
   go_wp2_with fail
   refine bodyPost_ret (ret_tm2 rfl rfl (put4 b_r_6 HB6.out (by omega)).1 rfl) rfl ?_
   exact ⟨rfl, (put4 b_r_6 HB6.out (by omega)).2⟩
set_option maxHeartbeats 1000000 in
theorem add_any {x y : Int} {s s' : ByteArray} {A A' : Option Addr} {n n' c c' : Nat} {w : World} (hs : s.size ≤ 140737488351232) (hs' : s'.size ≤ 140737488351232) (h : s.size + s'.size ≤ 256) :
   Calls Tryz.prog 88 #[.agg #[.int .i64 3, .int .i64 x, .string s, .slice A n c], .agg #[.int .i64 3, .int .i64 y, .string s', .slice A' n' c']] w fun z w' => z = flatR 3 0 (s ++ s') 0 ∧ Below w.heap.size w w' := by
 have h1 : (s.size : Int) + s'.size ≤ 256 := by omega
 go_enter Tryz.func88, Tryz.ntmps88
 go_wp2_with fail
 generalize hW : World.alloc _ _ = W
 obtain ⟨hb, hz⟩ := al3 hW
 have br := n33 hW
 refine bodyPost_ret (ret_tm2 rfl rfl br rfl) rfl ?_
 exact ⟨rfl, hb⟩
set_option maxHeartbeats 1000000 in
theorem add_long {x y : Int} {s s' : ByteArray} {A A' : Option Addr} {n n' c c' : Nat} {w : World} (hs : s.size ≤ 140737488351232) (hs' : s'.size ≤ 140737488351232) (h : ¬ s.size + s'.size ≤ 256) :
   Calls Tryz.prog 88 #[.agg #[.int .i64 3, .int .i64 x, .string s, .slice A n c], .agg #[.int .i64 3, .int .i64 y, .string s', .slice A' n' c']] w fun z w' => z = flatR 0 0 emp 4 ∧ Below w.heap.size w w' := by
 have h1 : ¬ (s.size : Int) + s'.size ≤ 256 := by omega
 go_enter Tryz.func88, Tryz.ntmps88
 go_wp2_with fail
 generalize hW : World.alloc _ _ = W
 obtain ⟨hb, hz⟩ := al3 hW
 have br := n33 hW
 refine bodyPost_ret (ret_tm2 rfl rfl br rfl) rfl ?_
 exact ⟨rfl, hb⟩
set_option maxRecDepth 100000 in
set_option maxHeartbeats 4000000 in
theorem bin_add {x y : Int} {d d' B : Nat} {s s' : ByteArray} {l l' : List Tm} {vs ws : List Value} {w : World} (ha : RTm w B d ⟨3, x, s, l⟩ vs) (hb : RTm w B d' ⟨3, y, s', l'⟩ ws) (hB : B ≤ w.heap.size) (fa : fixedB ⟨3, x, s, l⟩ = true) (fb : fixedB ⟨3, y, s', l'⟩ = true) (hlen : s.size + s'.size ≤ 256) :
   Calls Tryz.prog 67 #[.int .i64 7, .agg vs.toArray, .agg ws.toArray] w fun z w' => z = flatR 3 0 (s ++ s') 0 ∧ Below w.heap.size w w' := by
 obtain ⟨A, c, rfl, q1, q2, q3, q4, q5, _⟩ := ha.cells
 obtain ⟨A', c', rfl, r1, r2, r3, r4, r5, _⟩ := hb.cells
 have HA := Lib.hid ha
 have HB_ := Lib.hid hb
 have FA := Lib.hid fa
 have FB := Lib.hid fb
 simp only at q2 q3 q4 q5 r2 r3 r4 r5
 clear ha hb fa fb
 have HK : Hid (kindsB 7 3 3 = true) := Lib.hid (by decide)
 have HLEN := Lib.hid hlen
 clear hlen
 go_enter Tryz.func67, Tryz.ntmps67
 go_wp2_with fail
 generalize hW : World.alloc _ _ = w1
 obtain ⟨hb, hz⟩ := al3 hW
 have b_a_1 := n31 hW
 have b_b_1 := n32 hW
 have b_r_1 := n33 hW
 have HB1 := Lib.hid hb
 clear hW hz hb
 refine (fixed_any (t := ⟨3, x, s, l⟩) (vs := [_, _, _, _]) (HA.out.below HB1.out hB) (Nat.le_trans hB HB1.out.size)).mono ?_
 rintro x w2 ⟨rfl, hb⟩
 have b_a_2 := b_a_1.later hb
 have b_b_2 := b_b_1.later hb
 have b_r_2 := b_r_1.later hb
 have HB2 := Lib.hid (bthen HB1.out hb)
 clear b_a_1 b_b_1 b_r_1
 clear hb
 rw [FA.out]
 have k_a := b_a_2.cell
 have k_b := b_b_2.cell
 have k_r := b_r_2.cell
 go_wp2_with fail
 clear k_a k_b k_r
 refine (fixed_any (t := ⟨3, y, s', l'⟩) (vs := [_, _, _, _]) (HB_.out.below HB2.out hB) (Nat.le_trans hB HB2.out.size)).mono ?_
 rintro x w3 ⟨rfl, hb⟩
 have b_a_3 := b_a_2.later hb
 have b_b_3 := b_b_2.later hb
 have b_r_3 := b_r_2.later hb
 have HB3 := Lib.hid (bthen HB2.out hb)
 clear b_a_2 b_b_2 b_r_2
 clear hb
 rw [FB.out]
 have k_a := b_a_3.cell
 have k_b := b_b_3.cell
 have k_r := b_r_3.cell
 go_wp2_with fail
 clear k_a k_b k_r
 refine (kinds_any 7 3 3 _).mono ?_
 rintro x w4 ⟨rfl, hb⟩
 have b_a_4 := b_a_3.later hb
 have b_b_4 := b_b_3.later hb
 have b_r_4 := b_r_3.later hb
 have HB4 := Lib.hid (bthen HB3.out hb)
 clear b_a_3 b_b_3 b_r_3
 clear hb
 rw [HK.out]
 have k_a := b_a_4.cell
 have k_b := b_b_4.cell
 have k_r := b_r_4.cell
 go_wp2_with fail
 clear k_a k_b k_r
 refine (add_any q3 r3 HLEN.out).mono ?_
 rintro x w5 ⟨rfl, hb⟩
 have b_a_5 := b_a_4.later hb
 have b_b_5 := b_b_4.later hb
 have b_r_5 := b_r_4.later hb
 have HB5 := Lib.hid (bthen HB4.out hb)
 clear b_a_4 b_b_4 b_r_4
 clear hb
 have k_a := b_a_5.cell
 have k_b := b_b_5.cell
 have k_r := b_r_5.cell
 have f_r := b_r_5.free
 go_wp2_with fail
 refine bodyPost_ret (ret_tm2 rfl rfl (put4 b_r_5 HB5.out (by omega)).1 rfl) rfl ?_
 exact ⟨rfl, (put4 b_r_5 HB5.out (by omega)).2⟩
set_option maxRecDepth 100000 in
set_option maxHeartbeats 4000000 in
theorem bin_long {x y : Int} {d d' B : Nat} {s s' : ByteArray} {l l' : List Tm} {vs ws : List Value} {w : World} (ha : RTm w B d ⟨3, x, s, l⟩ vs) (hb : RTm w B d' ⟨3, y, s', l'⟩ ws) (hB : B ≤ w.heap.size) (fa : fixedB ⟨3, x, s, l⟩ = true) (fb : fixedB ⟨3, y, s', l'⟩ = true) (hlen : ¬ s.size + s'.size ≤ 256) :
   Calls Tryz.prog 67 #[.int .i64 7, .agg vs.toArray, .agg ws.toArray] w fun z w' => z = flatR 0 0 emp 4 ∧ Below w.heap.size w w' := by
 obtain ⟨A, c, rfl, q1, q2, q3, q4, q5, _⟩ := ha.cells
 obtain ⟨A', c', rfl, r1, r2, r3, r4, r5, _⟩ := hb.cells
 have HA := Lib.hid ha
 have HB_ := Lib.hid hb
 have FA := Lib.hid fa
 have FB := Lib.hid fb
 simp only at q2 q3 q4 q5 r2 r3 r4 r5
 clear ha hb fa fb
 have HK : Hid (kindsB 7 3 3 = true) := Lib.hid (by decide)
 have HLEN := Lib.hid hlen
 clear hlen
 go_enter Tryz.func67, Tryz.ntmps67
 go_wp2_with fail
 generalize hW : World.alloc _ _ = w1
 obtain ⟨hb, hz⟩ := al3 hW
 have b_a_1 := n31 hW
 have b_b_1 := n32 hW
 have b_r_1 := n33 hW
 have HB1 := Lib.hid hb
 clear hW hz hb
 refine (fixed_any (t := ⟨3, x, s, l⟩) (vs := [_, _, _, _]) (HA.out.below HB1.out hB) (Nat.le_trans hB HB1.out.size)).mono ?_
 rintro x w2 ⟨rfl, hb⟩
 have b_a_2 := b_a_1.later hb
 have b_b_2 := b_b_1.later hb
 have b_r_2 := b_r_1.later hb
 have HB2 := Lib.hid (bthen HB1.out hb)
 clear b_a_1 b_b_1 b_r_1
 clear hb
 rw [FA.out]
 have k_a := b_a_2.cell
 have k_b := b_b_2.cell
 have k_r := b_r_2.cell
 go_wp2_with fail
 clear k_a k_b k_r
 refine (fixed_any (t := ⟨3, y, s', l'⟩) (vs := [_, _, _, _]) (HB_.out.below HB2.out hB) (Nat.le_trans hB HB2.out.size)).mono ?_
 rintro x w3 ⟨rfl, hb⟩
 have b_a_3 := b_a_2.later hb
 have b_b_3 := b_b_2.later hb
 have b_r_3 := b_r_2.later hb
 have HB3 := Lib.hid (bthen HB2.out hb)
 clear b_a_2 b_b_2 b_r_2
 clear hb
 rw [FB.out]
 have k_a := b_a_3.cell
 have k_b := b_b_3.cell
 have k_r := b_r_3.cell
 go_wp2_with fail
 clear k_a k_b k_r
 refine (kinds_any 7 3 3 _).mono ?_
 rintro x w4 ⟨rfl, hb⟩
 have b_a_4 := b_a_3.later hb
 have b_b_4 := b_b_3.later hb
 have b_r_4 := b_r_3.later hb
 have HB4 := Lib.hid (bthen HB3.out hb)
 clear b_a_3 b_b_3 b_r_3
 clear hb
 rw [HK.out]
 have k_a := b_a_4.cell
 have k_b := b_b_4.cell
 have k_r := b_r_4.cell
 go_wp2_with fail
 clear k_a k_b k_r
 refine (add_long q3 r3 HLEN.out).mono ?_
 rintro x w5 ⟨rfl, hb⟩
 have b_a_5 := b_a_4.later hb
 have b_b_5 := b_b_4.later hb
 have b_r_5 := b_r_4.later hb
 have HB5 := Lib.hid (bthen HB4.out hb)
 clear b_a_4 b_b_4 b_r_4
 clear hb
 have k_a := b_a_5.cell
 have k_b := b_b_5.cell
 have k_r := b_r_5.cell
 have f_r := b_r_5.free
 go_wp2_with fail
 refine bodyPost_ret (ret_tm2 rfl rfl (put4 b_r_5 HB5.out (by omega)).1 rfl) rfl ?_
 exact ⟨rfl, (put4 b_r_5 HB5.out (by omega)).2⟩
set_option maxRecDepth 100000 in
set_option maxHeartbeats 4000000 in
theorem bin_starts {x y ka kb : Int} {d d' B : Nat} {s s' : ByteArray} {l l' : List Tm} {vs ws : List Value} {w : World} (ha : RTm w B d ⟨ka, x, s, l⟩ vs) (hb : RTm w B d' ⟨kb, y, s', l'⟩ ws) (hB : B ≤ w.heap.size) (fa : fixedB ⟨ka, x, s, l⟩ = true) (fb : fixedB ⟨kb, y, s', l'⟩ = true) (hk : kindsB 12 ka kb = true) :
   Calls Tryz.prog 67 #[.int .i64 12, .agg vs.toArray, .agg ws.toArray] w fun z w' => z = flatR 6 (bit (Lib.hasPrefix (bs s) (bs s'))) emp 0 ∧ Below w.heap.size w w' := by
 obtain ⟨A, c, rfl, q1, q2, q3, q4, q5, _⟩ := ha.cells
 obtain ⟨A', c', rfl, r1, r2, r3, r4, r5, _⟩ := hb.cells
 have HA := Lib.hid ha
 have HB_ := Lib.hid hb
 have FA := Lib.hid fa
 have FB := Lib.hid fb
 simp only at q2 q3 q4 q5 r2 r3 r4 r5
 clear ha hb fa fb
 have HK := Lib.hid hk
 clear hk
 go_enter Tryz.func67, Tryz.ntmps67
 go_wp2_with fail
 generalize hW : World.alloc _ _ = w1
 obtain ⟨hb, hz⟩ := al3 hW
 have b_a_1 := n31 hW
 have b_b_1 := n32 hW
 have b_r_1 := n33 hW
 have HB1 := Lib.hid hb
 clear hW hz hb
 refine (fixed_any (t := ⟨ka, x, s, l⟩) (vs := [_, _, _, _]) (HA.out.below HB1.out hB) (Nat.le_trans hB HB1.out.size)).mono ?_
 rintro x w2 ⟨rfl, hb⟩
 have b_a_2 := b_a_1.later hb
 have b_b_2 := b_b_1.later hb
 have b_r_2 := b_r_1.later hb
 have HB2 := Lib.hid (bthen HB1.out hb)
 clear b_a_1 b_b_1 b_r_1
 clear hb
 rw [FA.out]
 have k_a := b_a_2.cell
 have k_b := b_b_2.cell
 have k_r := b_r_2.cell
 go_wp2_with fail
 clear k_a k_b k_r
 refine (fixed_any (t := ⟨kb, y, s', l'⟩) (vs := [_, _, _, _]) (HB_.out.below HB2.out hB) (Nat.le_trans hB HB2.out.size)).mono ?_
 rintro x w3 ⟨rfl, hb⟩
 have b_a_3 := b_a_2.later hb
 have b_b_3 := b_b_2.later hb
 have b_r_3 := b_r_2.later hb
 have HB3 := Lib.hid (bthen HB2.out hb)
 clear b_a_2 b_b_2 b_r_2
 clear hb
 rw [FB.out]
 have k_a := b_a_3.cell
 have k_b := b_b_3.cell
 have k_r := b_r_3.cell
 go_wp2_with fail
 clear k_a k_b k_r
 refine (kinds_any 12 ka kb _).mono ?_
 rintro x w4 ⟨rfl, hb⟩
 have b_a_4 := b_a_3.later hb
 have b_b_4 := b_b_3.later hb
 have b_r_4 := b_r_3.later hb
 have HB4 := Lib.hid (bthen HB3.out hb)
 clear b_a_3 b_b_3 b_r_3
 clear hb
 rw [HK.out]
 have k_a := b_a_4.cell
 have k_b := b_b_4.cell
 have k_r := b_r_4.cell
 go_wp2_with fail
 clear k_a k_b k_r
 refine (Tryz.strings_HasPrefix s s' _).mono ?_
 rintro z0 wz ⟨rfl, rfl⟩
 have k_a := b_a_4.cell
 have k_b := b_b_4.cell
 have k_r := b_r_4.cell
 go_wp2_with fail
 clear k_a k_b k_r
 refine (truth_any _ _).mono ?_
 rintro x w5 ⟨rfl, hb⟩
 have b_a_5 := b_a_4.later hb
 have b_b_5 := b_b_4.later hb
 have b_r_5 := b_r_4.later hb
 have HB5 := Lib.hid (bthen HB4.out hb)
 clear b_a_4 b_b_4 b_r_4
 clear hb
 have k_a := b_a_5.cell
 have k_b := b_b_5.cell
 have k_r := b_r_5.cell
 have f_r := b_r_5.free
 go_wp2_with fail
 refine bodyPost_ret (ret_tm2 rfl rfl (put4 b_r_5 HB5.out (by omega)).1 rfl) rfl ?_
 exact ⟨rfl, (put4 b_r_5 HB5.out (by omega)).2⟩
set_option maxRecDepth 100000 in
set_option maxHeartbeats 4000000 in
theorem bin_ends {x y ka kb : Int} {d d' B : Nat} {s s' : ByteArray} {l l' : List Tm} {vs ws : List Value} {w : World} (ha : RTm w B d ⟨ka, x, s, l⟩ vs) (hb : RTm w B d' ⟨kb, y, s', l'⟩ ws) (hB : B ≤ w.heap.size) (fa : fixedB ⟨ka, x, s, l⟩ = true) (fb : fixedB ⟨kb, y, s', l'⟩ = true) (hk : kindsB 13 ka kb = true) :
   Calls Tryz.prog 67 #[.int .i64 13, .agg vs.toArray, .agg ws.toArray] w fun z w' => z = flatR 6 (bit (Lib.hasSuffix (bs s) (bs s'))) emp 0 ∧ Below w.heap.size w w' := by
 obtain ⟨A, c, rfl, q1, q2, q3, q4, q5, _⟩ := ha.cells
 obtain ⟨A', c', rfl, r1, r2, r3, r4, r5, _⟩ := hb.cells
 have HA := Lib.hid ha
 have HB_ := Lib.hid hb
 have FA := Lib.hid fa
 have FB := Lib.hid fb
 simp only at q2 q3 q4 q5 r2 r3 r4 r5
 clear ha hb fa fb
 have HK := Lib.hid hk
 clear hk
 go_enter Tryz.func67, Tryz.ntmps67
 go_wp2_with fail
 generalize hW : World.alloc _ _ = w1
 obtain ⟨hb, hz⟩ := al3 hW
 have b_a_1 := n31 hW
 have b_b_1 := n32 hW
 have b_r_1 := n33 hW
 have HB1 := Lib.hid hb
 clear hW hz hb
 refine (fixed_any (t := ⟨ka, x, s, l⟩) (vs := [_, _, _, _]) (HA.out.below HB1.out hB) (Nat.le_trans hB HB1.out.size)).mono ?_
 rintro x w2 ⟨rfl, hb⟩
 have b_a_2 := b_a_1.later hb
 have b_b_2 := b_b_1.later hb
 have b_r_2 := b_r_1.later hb
 have HB2 := Lib.hid (bthen HB1.out hb)
 clear b_a_1 b_b_1 b_r_1
 clear hb
 rw [FA.out]
 have k_a := b_a_2.cell
 have k_b := b_b_2.cell
 have k_r := b_r_2.cell
 go_wp2_with fail
 clear k_a k_b k_r
 refine (fixed_any (t := ⟨kb, y, s', l'⟩) (vs := [_, _, _, _]) (HB_.out.below HB2.out hB) (Nat.le_trans hB HB2.out.size)).mono ?_
 rintro x w3 ⟨rfl, hb⟩
 have b_a_3 := b_a_2.later hb
 have b_b_3 := b_b_2.later hb
 have b_r_3 := b_r_2.later hb
 have HB3 := Lib.hid (bthen HB2.out hb)
 clear b_a_2 b_b_2 b_r_2
 clear hb
 rw [FB.out]
 have k_a := b_a_3.cell
 have k_b := b_b_3.cell
 have k_r := b_r_3.cell
 go_wp2_with fail
 clear k_a k_b k_r
 refine (kinds_any 13 ka kb _).mono ?_
 rintro x w4 ⟨rfl, hb⟩
 have b_a_4 := b_a_3.later hb
 have b_b_4 := b_b_3.later hb
 have b_r_4 := b_r_3.later hb
 have HB4 := Lib.hid (bthen HB3.out hb)
 clear b_a_3 b_b_3 b_r_3
 clear hb
 rw [HK.out]
 have k_a := b_a_4.cell
 have k_b := b_b_4.cell
 have k_r := b_r_4.cell
 go_wp2_with fail
 clear k_a k_b k_r
 refine (Tryz.strings_HasSuffix s s' _ (by omega)).mono ?_
 rintro z0 wz ⟨rfl, rfl⟩
 have k_a := b_a_4.cell
 have k_b := b_b_4.cell
 have k_r := b_r_4.cell
 go_wp2_with fail
 clear k_a k_b k_r
 refine (truth_any _ _).mono ?_
 rintro x w5 ⟨rfl, hb⟩
 have b_a_5 := b_a_4.later hb
 have b_b_5 := b_b_4.later hb
 have b_r_5 := b_r_4.later hb
 have HB5 := Lib.hid (bthen HB4.out hb)
 clear b_a_4 b_b_4 b_r_4
 clear hb
 have k_a := b_a_5.cell
 have k_b := b_b_5.cell
 have k_r := b_r_5.cell
 have f_r := b_r_5.free
 go_wp2_with fail
 refine bodyPost_ret (ret_tm2 rfl rfl (put4 b_r_5 HB5.out (by omega)).1 rfl) rfl ?_
 exact ⟨rfl, (put4 b_r_5 HB5.out (by omega)).2⟩
set_option maxHeartbeats 1000000 in
theorem containsText_any {x y kb : Int} {s s' : ByteArray} {A A' : Option Addr} {n n' c c' : Nat} {w : World} {m : Int} (hs : s.size ≤ 256) (hm : w.cell? ⟨0, 0, none⟩ = some (.int .i64 m)) (h0 : 0 < w.heap.size) :
   Calls Tryz.prog 89 #[.agg #[.int .i64 3, .int .i64 x, .string s, .slice A n c], .agg #[.int .i64 kb, .int .i64 y, .string s', .slice A' n' c']] w fun z w' => z = .returned (.bool (Lib.contains (bs s) (bs s'))) ∧ Below w.heap.size w w' := by
 have HM := Lib.hid hm
 clear hm
 go_enter Tryz.func89, Tryz.ntmps89
 go_wp2_with fail
 generalize hW : World.alloc _ _ = W
 obtain ⟨hb, hz⟩ := al2 hW
 have HB := Lib.hid hb
 have HM2 := Lib.hid ((hb.cell (p := ⟨0, 0, none⟩) h0).trans HM.out)
 clear hW hb
 refine (Tryz.strings_Contains s s' m _ (by omega) HM2.out).mono ?_
 rintro z0 wz ⟨rfl, rfl⟩
 go_wp2_with fail
 go_ret
 exact ⟨rfl, HB.out⟩
set_option maxRecDepth 100000 in
set_option maxHeartbeats 4000000 in
theorem bin_contains {x y : Int} {d d' B : Nat} {s s' : ByteArray} {l l' : List Tm} {vs ws : List Value} {w : World} (ha : RTm w B d ⟨3, x, s, l⟩ vs) (hb : RTm w B d' ⟨3, y, s', l'⟩ ws) (hB : B ≤ w.heap.size) (fa : fixedB ⟨3, x, s, l⟩ = true) (fb : fixedB ⟨3, y, s', l'⟩ = true) {m : Int} (hm : w.cell? ⟨0, 0, none⟩ = some (.int .i64 m)) (h0 : 0 < w.heap.size) (hs : s.size ≤ 256) :
   Calls Tryz.prog 67 #[.int .i64 11, .agg vs.toArray, .agg ws.toArray] w fun z w' => z = flatR 6 (bit (Lib.contains (bs s) (bs s'))) emp 0 ∧ Below w.heap.size w w' := by
 obtain ⟨A, c, rfl, q1, q2, q3, q4, q5, _⟩ := ha.cells
 obtain ⟨A', c', rfl, r1, r2, r3, r4, r5, _⟩ := hb.cells
 have HA := Lib.hid ha
 have HB_ := Lib.hid hb
 have FA := Lib.hid fa
 have FB := Lib.hid fb
 simp only at q2 q3 q4 q5 r2 r3 r4 r5
 clear ha hb fa fb
 have HK : Hid (kindsB 11 3 3 = true) := Lib.hid (by decide)
 have HM := Lib.hid hm
 clear hm
 go_enter Tryz.func67, Tryz.ntmps67
 go_wp2_with fail
 generalize hW : World.alloc _ _ = w1
 obtain ⟨hb, hz⟩ := al3 hW
 have b_a_1 := n31 hW
 have b_b_1 := n32 hW
 have b_r_1 := n33 hW
 have HB1 := Lib.hid hb
 clear hW hz hb
 refine (fixed_any (t := ⟨3, x, s, l⟩) (vs := [_, _, _, _]) (HA.out.below HB1.out hB) (Nat.le_trans hB HB1.out.size)).mono ?_
 rintro x w2 ⟨rfl, hb⟩
 have b_a_2 := b_a_1.later hb
 have b_b_2 := b_b_1.later hb
 have b_r_2 := b_r_1.later hb
 have HB2 := Lib.hid (bthen HB1.out hb)
 clear b_a_1 b_b_1 b_r_1
 clear hb
 rw [FA.out]
 have k_a := b_a_2.cell
 have k_b := b_b_2.cell
 have k_r := b_r_2.cell
 go_wp2_with fail
 clear k_a k_b k_r
 refine (fixed_any (t := ⟨3, y, s', l'⟩) (vs := [_, _, _, _]) (HB_.out.below HB2.out hB) (Nat.le_trans hB HB2.out.size)).mono ?_
 rintro x w3 ⟨rfl, hb⟩
 have b_a_3 := b_a_2.later hb
 have b_b_3 := b_b_2.later hb
 have b_r_3 := b_r_2.later hb
 have HB3 := Lib.hid (bthen HB2.out hb)
 clear b_a_2 b_b_2 b_r_2
 clear hb
 rw [FB.out]
 have k_a := b_a_3.cell
 have k_b := b_b_3.cell
 have k_r := b_r_3.cell
 go_wp2_with fail
 clear k_a k_b k_r
 refine (kinds_any 11 3 3 _).mono ?_
 rintro x w4 ⟨rfl, hb⟩
 have b_a_4 := b_a_3.later hb
 have b_b_4 := b_b_3.later hb
 have b_r_4 := b_r_3.later hb
 have HB4 := Lib.hid (bthen HB3.out hb)
 clear b_a_3 b_b_3 b_r_3
 clear hb
 rw [HK.out]
 have k_a := b_a_4.cell
 have k_b := b_b_4.cell
 have k_r := b_r_4.cell
 go_wp2_with fail
 clear k_a k_b k_r
 refine (containsText_any (m := m) (kb := 3) hs ((HB4.out.cell (p := ⟨0, 0, none⟩) h0).trans HM.out) (Nat.lt_of_lt_of_le h0 HB4.out.size)).mono ?_
 rintro x w5 ⟨rfl, hb⟩
 have b_a_5 := b_a_4.later hb
 have b_b_5 := b_b_4.later hb
 have b_r_5 := b_r_4.later hb
 have HB5 := Lib.hid (bthen HB4.out hb)
 clear b_a_4 b_b_4 b_r_4
 clear hb
 have k_a := b_a_5.cell
 have k_b := b_b_5.cell
 have k_r := b_r_5.cell
 go_wp2_with fail
 clear k_a k_b k_r
 refine (truth_any _ _).mono ?_
 rintro x w6 ⟨rfl, hb⟩
 have b_a_6 := b_a_5.later hb
 have b_b_6 := b_b_5.later hb
 have b_r_6 := b_r_5.later hb
 have HB6 := Lib.hid (bthen HB5.out hb)
 clear b_a_5 b_b_5 b_r_5
 clear hb
 have k_a := b_a_6.cell
 have k_b := b_b_6.cell
 have k_r := b_r_6.cell
 have f_r := b_r_6.free
 go_wp2_with fail
 refine bodyPost_ret (ret_tm2 rfl rfl (put4 b_r_6 HB6.out (by omega)).1 rfl) rfl ?_
 exact ⟨rfl, (put4 b_r_6 HB6.out (by omega)).2⟩
set_option maxRecDepth 100000 in
set_option maxHeartbeats 4000000 in
theorem un_length {x : Int} {d B : Nat} {s : ByteArray} {l : List Tm} {vs : List Value} {w : World} (ha : RTm w B d ⟨3, x, s, l⟩ vs) (hB : B ≤ w.heap.size) (fa : fixedB ⟨3, x, s, l⟩ = true) :
   Calls Tryz.prog 66 #[.int .i64 3, .agg vs.toArray] w fun z w' => z = flatR 2 s.size emp 0 ∧ Below w.heap.size w w' := by
 obtain ⟨A, c, rfl, q1, q2, q3, q4, q5, _⟩ := ha.cells
 have HA := Lib.hid ha
 have FA := Lib.hid fa
 simp only at q2 q3 q4 q5
 clear ha fa
 go_enter Tryz.func66, Tryz.ntmps66
 go_wp2_with fail
 generalize hW : World.alloc _ _ = w1
 obtain ⟨hb, hz⟩ := al2 hW
 have b_a_1 := n21 hW
 have b_r_1 := n22 hW
 have HB1 := Lib.hid hb
 clear hW hz hb
 refine (fixed_any (t := ⟨3, x, s, l⟩) (vs := [_, _, _, _]) (HA.out.below HB1.out hB) (Nat.le_trans hB HB1.out.size)).mono ?_
 rintro x w2 ⟨rfl, hb⟩
 have b_a_2 := b_a_1.later hb
 have b_r_2 := b_r_1.later hb
 have HB2 := Lib.hid (bthen HB1.out hb)
 clear b_a_1 b_r_1
 clear hb
 rw [FA.out]
 have k_a := b_a_2.cell
 have k_r := b_r_2.cell
 go_wp2_with fail
 clear k_a k_r
 refine (number_any _ _).mono ?_
 rintro x w3 ⟨rfl, hb⟩
 have b_a_3 := b_a_2.later hb
 have b_r_3 := b_r_2.later hb
 have HB3 := Lib.hid (bthen HB2.out hb)
 clear b_a_2 b_r_2
 clear hb
 have k_a := b_a_3.cell
 have k_r := b_r_3.cell
 have f_r := b_r_3.free
 go_wp2_with fail
 refine bodyPost_ret (ret_tm2 rfl rfl (put4 b_r_3 HB3.out (by omega)).1 rfl) rfl ?_
 exact ⟨rfl, (put4 b_r_3 HB3.out (by omega)).2⟩
section
variable {α : Type} {c : α → α → Int}
end
def badJ (a b : Tm) (t : Tm) : Bool := decide (t.kind ≠ headK b.l) || (decide (0 < a.l.length) && decide (t.kind ≠ headK a.l))
def meetT (a b : Tm) : Tm := ⟨7, 0, emptyS, a.l.filter (hasB b)⟩
def joinAll (a b : Tm) : List Tm := a.l ++ b.l.filter fun t => !hasB a t
def joinR (a b : Tm) : Tm × Int := if b.l.any (badJ a b) then (noT, 7) else if 16 < (joinAll a b).length then (noT, 4) else setR (joinAll a b)
def containsS (a b : Tm) : Bool := if b.kind = 7 then b.l.all (hasB a) else hasB a b
structure OkL (l : List Tm) : Prop where
 rise : l.Pairwise (fun a b => cmpT 3 a b < 0)
 good : ∀ t ∈ l, badB (headK l) t = false
 few : l.length ≤ 16
theorem arg_parts {l : List Tm} (h : setArgB l = true) : l.length ≤ 16 ∧ ∀ t ∈ l, badB (headK l) t = false := by
 unfold setArgB at h
 rw [Bool.and_eq_true, decide_eq_true_eq, Bool.not_eq_true', List.any_eq_false] at h
 exact ⟨h.1, fun t ht => by simpa using h.2 t ht⟩
theorem good_leaf {k : Int} {t : Tm} (h : badB k t = false) : Leaf t := fixed_leaf (badB_not.1 h).1 (badB_not.1 h).2.1
theorem good_eq {k k' : Int} {a b : Tm} (ha : badB k a = false) (hb : badB k' b = false) (h : cmpT 3 a b = 0) : a = b := leaf_eq (good_leaf ha) (good_leaf hb) h
theorem headK_mem {l : List Tm} (h : l ≠ []) : ∃ t ∈ l, t.kind = headK l := by
 cases l with
 | nil => exact absurd rfl h
 | cons x l => exact ⟨x, by simp, rfl⟩
theorem set_ok {l : List Tm} (h : setArgB l = true) : OkL (setL (cmpT 3) l) := by
 obtain ⟨h1, h2⟩ := arg_parts h
 have he : ∀ a ∈ l, ∀ b ∈ l, cmpT 3 a b = 0 → a = b := fun a ha b hb => good_eq (h2 a ha) (h2 b hb)
 refine ⟨setL_sorted (cmpT_ord 3) he, fun t ht => ?_, Nat.le_trans (setL_length (cmpT_ord 3) he) h1⟩
 have hm := h2 t ((setL_mem (cmpT_ord 3) he t).1 ht)
 obtain ⟨u, hu, hk⟩ := headK_mem (l := setL (cmpT 3) l) (fun e => by rw [e] at ht; simp at ht)
 have hmu := h2 u ((setL_mem (cmpT_ord 3) he u).1 hu)
 rw [← hk, (badB_not.1 hmu).2.2]
 exact hm
theorem ok_arg {l : List Tm} (h : OkL l) : setArgB l = true := by
 unfold setArgB
 rw [Bool.and_eq_true, decide_eq_true_eq, Bool.not_eq_true', List.any_eq_false]
 exact ⟨h.few, fun t ht => by rw [h.good t ht]; simp⟩
theorem ok_fixed {l : List Tm} (h : OkL l) : fixedB ⟨7, 0, emptyS, l⟩ = true := by
 have hr : risingB l = true := by
   unfold risingB
   rw [Bool.and_eq_true, List.all_eq_true, decide_eq_true_eq]
   refine ⟨fun i hi => ?_, h.few⟩
   rw [List.mem_range] at hi
   have e1 : l[i]? = some l[i] := List.getElem?_eq_getElem hi
   have e2 : l[0]? = some (l[0]'(by omega)) := List.getElem?_eq_getElem (by omega)
   have e3 : l[i - 1]? = some (l[i - 1]'(by omega)) := List.getElem?_eq_getElem (by omega)
   unfold riseAt
   rw [e1, e2, e3]
   have g1 := badB_not.1 (h.good _ (List.getElem_mem hi))
   have g2 := badB_not.1 (h.good _ (List.getElem_mem (show 0 < l.length by omega)))
   have f1 := g1.1
   unfold fixedB mayB at f1
   rw [if_neg g1.2.1, Bool.and_eq_true] at f1
   simp only [f1.1, f1.2, Bool.true_and, Bool.and_eq_true, Bool.or_eq_true, decide_eq_true_eq]
   refine ⟨g1.2.2.trans g2.2.2.symm, ?_⟩
   by_cases h0 : i = 0
   · exact .inl h0
   · exact .inr (List.pairwise_iff_getElem.1 h.rise (i - 1) i (by omega) hi (by omega))
 unfold fixedB mayB
 simp [hr, emptyS]
 rfl
theorem same_self (t : Tm) : sameB t t = true := by unfold sameB; rw [(cmpT_ord 3).self]; rfl
section
variable {A B : List Tm} (hA : OkL A) (hB : OkL B)
end
end Go.Proofs.YtiplipdigabidaaGreat
