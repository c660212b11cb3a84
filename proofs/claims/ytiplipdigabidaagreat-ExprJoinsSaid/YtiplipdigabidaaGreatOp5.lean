/- op.Binary's arms of sets. -/
import Derived.Test.YtiplipdigabidaaGreatJoin
import Derived.Test.YtiplipdigabidaaGreatOp3
import Derived.Test.YtiplipdigabidaaGreatFixP
set_option linter.unusedVariables false
set_option linter.unusedSimpArgs false
namespace Go.Proofs.YtiplipdigabidaaGreat
open Go.ChangeShapes Go.WideShapes Go.ChangeAt Go.RowKit
theorem fixed_set {x : Int} {s : ByteArray} {l : List Tm} (h : fixedB ⟨7, x, s, l⟩ = true) : l.length ≤ 16 ∧ ∀ x ∈ l, Leaf x := rising_parts (by
 have := fixed_parts h
 rw [if_pos rfl] at this
 exact this.2.2)
set_option maxRecDepth 100000 in
set_option maxHeartbeats 4000000 in
theorem bin_meet {x y : Int} {d B : Nat} {s s' : ByteArray} {l l' : List Tm} {vs ws : List Value} {w : World} (ha : RTm w B (d + 1) ⟨7, x, s, l⟩ vs) (hb : RTm w B (d + 1) ⟨7, y, s', l'⟩ ws) (hB : B ≤ w.heap.size) (fa : fixedB ⟨7, x, s, l⟩ = true) (fb : fixedB ⟨7, y, s', l'⟩ = true)  :
   Calls Tryz.prog 67 #[.int .i64 15, .agg vs.toArray, .agg ws.toArray] w fun z w' => TermE d w w' (meetT ⟨7, x, s, l⟩ ⟨7, y, s', l'⟩, 0) z := by
 obtain ⟨A, c, rfl, q1, q2, q3, q4, q5, _⟩ := ha.cells
 obtain ⟨A', c', rfl, r1, r2, r3, r4, r5, _⟩ := hb.cells
 have HA := Lib.hid ha
 have HB_ := Lib.hid hb
 have FA := Lib.hid fa
 have FB := Lib.hid fb
 simp only at q2 q3 q4 q5 r2 r3 r4 r5
 clear ha hb fa fb
 have HK : Hid (kindsB 15 7 7 = true) := Lib.hid (by decide)
 go_enter Tryz.func67, Tryz.ntmps67
 go_wp2_with fail
 generalize hW : World.alloc _ _ = w1
 obtain ⟨hb, hz⟩ := al3 hW
 have b_a_1 := n31 hW
 have b_b_1 := n32 hW
 have b_r_1 := n33 hW
 have HB1 := Lib.hid hb
 clear hW hz hb
 refine (fixed_any (t := ⟨7, x, s, l⟩) (vs := [_, _, _, _]) (HA.out.below HB1.out hB) (Nat.le_trans hB HB1.out.size)).mono ?_
 rintro x w2 ⟨rfl, hb⟩
 have b_a_2 := b_a_1.later hb
 have b_b_2 := b_b_1.later hb
 have b_r_2 := b_r_1.later hb
 have HB2 := Lib.hid (bthen HB1.out hb)
 clear b_a_1 b_b_1 b_r_1
 clear hb
 rw [FA.out]
 have k_a := b_a_2.cell
 have k_b := b_b_2.cell
 have k_r := b_r_2.cell
 go_wp2_with fail
 clear k_a k_b k_r
 refine (fixed_any (t := ⟨7, y, s', l'⟩) (vs := [_, _, _, _]) (HB_.out.below HB2.out hB) (Nat.le_trans hB HB2.out.size)).mono ?_
 rintro x w3 ⟨rfl, hb⟩
 have b_a_3 := b_a_2.later hb
 have b_b_3 := b_b_2.later hb
 have b_r_3 := b_r_2.later hb
 have HB3 := Lib.hid (bthen HB2.out hb)
 clear b_a_2 b_b_2 b_r_2
 clear hb
 rw [FB.out]
 have k_a := b_a_3.cell
 have k_b := b_b_3.cell
 have k_r := b_r_3.cell
 go_wp2_with fail
 clear k_a k_b k_r
 refine (kinds_any 15 7 7 _).mono ?_
 rintro x w4 ⟨rfl, hb⟩
 have b_a_4 := b_a_3.later hb
 have b_b_4 := b_b_3.later hb
 have b_r_4 := b_r_3.later hb
 have HB4 := Lib.hid (bthen HB3.out hb)
 clear b_a_3 b_b_3 b_r_3
 clear hb
 rw [HK.out]
 have k_a := b_a_4.cell
 have k_b := b_b_4.cell
 have k_r := b_r_4.cell
 go_wp2_with fail
 clear k_a k_b k_r
 have hlr := b_r_4.lt
 have hwl := HB4.out.size
 refine (meet_any (d := d) (d' := d) (a := ⟨7, x, s, l⟩) (b := ⟨7, y, s', l'⟩) (vs := [_, _, _, _]) (ws := [_, _, _, _]) (HA.out.below HB4.out hB) (HB_.out.below HB4.out hB) (Nat.le_trans hB HB4.out.size) (fixed_set FA.out).1 (fixed_set FA.out).2).mono ?_
 rintro x w5 ⟨⟨A4, c4, rfl, hrd⟩, hb⟩
 have b_a_5 := b_a_4.later hb
 have b_b_5 := b_b_4.later hb
 have b_r_5 := b_r_4.later hb
 have HB5 := Lib.hid (bthen HB4.out hb)
 clear b_a_4 b_b_4 b_r_4
 clear hb
 have HRD := Lib.hid hrd
 clear hrd
 have k_a := b_a_5.cell
 have k_b := b_b_5.cell
 have k_r := b_r_5.cell
 have f_r := b_r_5.free
 go_wp2_with fail
 have hbr := put4b b_r_5 (.int .i64 7) (.int .i64 0) (.string emptyS) (.slice A4 (meetT ⟨7, x, s, l⟩ ⟨7, y, s', l'⟩).l.length c4)
 refine bodyPost_ret (ret_tm2 rfl rfl hbr rfl) rfl ?_
 exact ⟨⟨A4, c4, rfl, (HRD.out.put4 (by omega) _ _ _ _).lower (by omega)⟩, put4u HB5.out (by omega) _ _ _ _⟩
set_option maxRecDepth 100000 in
set_option maxHeartbeats 4000000 in
theorem bin_join {x y : Int} {d B : Nat} {s s' : ByteArray} {l l' : List Tm} {vs ws : List Value} {w : World} (ha : RTm w B (d + 1) ⟨7, x, s, l⟩ vs) (hb : RTm w B (d + 1) ⟨7, y, s', l'⟩ ws) (hB : B ≤ w.heap.size) (fa : fixedB ⟨7, x, s, l⟩ = true) (fb : fixedB ⟨7, y, s', l'⟩ = true)  :
   Calls Tryz.prog 67 #[.int .i64 16, .agg vs.toArray, .agg ws.toArray] w fun z w' => TermE d w w' (joinR ⟨7, x, s, l⟩ ⟨7, y, s', l'⟩) z := by
 obtain ⟨A, c, rfl, q1, q2, q3, q4, q5, _⟩ := ha.cells
 obtain ⟨A', c', rfl, r1, r2, r3, r4, r5, _⟩ := hb.cells
 have HA := Lib.hid ha
 have HB_ := Lib.hid hb
 have FA := Lib.hid fa
 have FB := Lib.hid fb
 simp only at q2 q3 q4 q5 r2 r3 r4 r5
 clear ha hb fa fb
 have HK : Hid (kindsB 16 7 7 = true) := Lib.hid (by decide)
 go_enter Tryz.func67, Tryz.ntmps67
 go_wp2_with fail
 generalize hW : World.alloc _ _ = w1
 obtain ⟨hb, hz⟩ := al3 hW
 have b_a_1 := n31 hW
 have b_b_1 := n32 hW
 have b_r_1 := n33 hW
 have HB1 := Lib.hid hb
 clear hW hz hb
 refine (fixed_any (t := ⟨7, x, s, l⟩) (vs := [_, _, _, _]) (HA.out.below HB1.out hB) (Nat.le_trans hB HB1.out.size)).mono ?_
 rintro x w2 ⟨rfl, hb⟩
 have b_a_2 := b_a_1.later hb
 have b_b_2 := b_b_1.later hb
 have b_r_2 := b_r_1.later hb
 have HB2 := Lib.hid (bthen HB1.out hb)
 clear b_a_1 b_b_1 b_r_1
 clear hb
 rw [FA.out]
 have k_a := b_a_2.cell
 have k_b := b_b_2.cell
 have k_r := b_r_2.cell
 go_wp2_with fail
 clear k_a k_b k_r
 refine (fixed_any (t := ⟨7, y, s', l'⟩) (vs := [_, _, _, _]) (HB_.out.below HB2.out hB) (Nat.le_trans hB HB2.out.size)).mono ?_
 rintro x w3 ⟨rfl, hb⟩
 have b_a_3 := b_a_2.later hb
 have b_b_3 := b_b_2.later hb
 have b_r_3 := b_r_2.later hb
 have HB3 := Lib.hid (bthen HB2.out hb)
 clear b_a_2 b_b_2 b_r_2
 clear hb
 rw [FB.out]
 have k_a := b_a_3.cell
 have k_b := b_b_3.cell
 have k_r := b_r_3.cell
 go_wp2_with fail
 clear k_a k_b k_r
 refine (kinds_any 16 7 7 _).mono ?_
 rintro x w4 ⟨rfl, hb⟩
 have b_a_4 := b_a_3.later hb
 have b_b_4 := b_b_3.later hb
 have b_r_4 := b_r_3.later hb
 have HB4 := Lib.hid (bthen HB3.out hb)
 clear b_a_3 b_b_3 b_r_3
 clear hb
 rw [HK.out]
 have k_a := b_a_4.cell
 have k_b := b_b_4.cell
 have k_r := b_r_4.cell
 go_wp2_with fail
 clear k_a k_b k_r
 have hlr := b_r_4.lt
 have hwl := HB4.out.size
 refine (join_any (d := d) (d' := d) (a := ⟨7, x, s, l⟩) (b := ⟨7, y, s', l'⟩) (vs := [_, _, _, _]) (ws := [_, _, _, _]) (HA.out.below HB4.out hB) (HB_.out.below HB4.out hB) (Nat.le_trans hB HB4.out.size) (fixed_set FA.out).1 (fixed_set FB.out).1).mono ?_
 rintro x w5 ⟨⟨A4, c4, rfl, hrd⟩, hb⟩
 have b_a_5 := b_a_4.later hb
 have b_b_5 := b_b_4.later hb
 have b_r_5 := b_r_4.later hb
 have HB5 := Lib.hid (bthen HB4.out hb)
 clear b_a_4 b_b_4 b_r_4
 clear hb
 have HRD := Lib.hid hrd
 clear hrd
 have k_a := b_a_5.cell
 have k_b := b_b_5.cell
 have k_r := b_r_5.cell
 have f_r := b_r_5.free
 go_wp2_with fail
 have hbr := put4b b_r_5 (.int .i64 (joinR ⟨7, x, s, l⟩ ⟨7, y, s', l'⟩).1.kind) (.int .i64 (joinR ⟨7, x, s, l⟩ ⟨7, y, s', l'⟩).1.n) (.string (joinR ⟨7, x, s, l⟩ ⟨7, y, s', l'⟩).1.s) (.slice A4 (joinR ⟨7, x, s, l⟩ ⟨7, y, s', l'⟩).1.l.length c4)
 refine bodyPost_ret (ret_tm2 rfl rfl hbr rfl) rfl ?_
 exact ⟨⟨A4, c4, rfl, (HRD.out.put4 (by omega) _ _ _ _).lower (by omega)⟩, put4u HB5.out (by omega) _ _ _ _⟩
set_option maxRecDepth 100000 in
set_option maxHeartbeats 4000000 in
theorem bin_contset {x y kb : Int} {d B : Nat} {s s' : ByteArray} {l l' : List Tm} {vs ws : List Value} {w : World} (ha : RTm w B (d + 1) ⟨7, x, s, l⟩ vs) (hb : RTm w B (d + 1) ⟨kb, y, s', l'⟩ ws) (hB : B ≤ w.heap.size) (fa : fixedB ⟨7, x, s, l⟩ = true) (fb : fixedB ⟨kb, y, s', l'⟩ = true) (hk : kindsB 11 7 kb = true) :
   Calls Tryz.prog 67 #[.int .i64 11, .agg vs.toArray, .agg ws.toArray] w fun z w' => z = flatR 6 (bit (containsS ⟨7, x, s, l⟩ ⟨kb, y, s', l'⟩)) emp 0 ∧ Below w.heap.size w w' := by
 obtain ⟨A, c, rfl, q1, q2, q3, q4, q5, _⟩ := ha.cells
 obtain ⟨A', c', rfl, r1, r2, r3, r4, r5, _⟩ := hb.cells
 have HA := Lib.hid ha
 have HB_ := Lib.hid hb
 have FA := Lib.hid fa
 have FB := Lib.hid fb
 simp only at q2 q3 q4 q5 r2 r3 r4 r5
 clear ha hb fa fb
 have HK := Lib.hid hk
 clear hk
 go_enter Tryz.func67, Tryz.ntmps67
 go_wp2_with fail
 generalize hW : World.alloc _ _ = w1
 obtain ⟨hb, hz⟩ := al3 hW
 have b_a_1 := n31 hW
 have b_b_1 := n32 hW
 have b_r_1 := n33 hW
 have HB1 := Lib.hid hb
 clear hW hz hb
 refine (fixed_any (t := ⟨7, x, s, l⟩) (vs := [_, _, _, _]) (HA.out.below HB1.out hB) (Nat.le_trans hB HB1.out.size)).mono ?_
 rintro x w2 ⟨rfl, hb⟩
 have b_a_2 := b_a_1.later hb
 have b_b_2 := b_b_1.later hb
 have b_r_2 := b_r_1.later hb
 have HB2 := Lib.hid (bthen HB1.out hb)
 clear b_a_1 b_b_1 b_r_1
 clear hb
 rw [FA.out]
 have k_a := b_a_2.cell
 have k_b := b_b_2.cell
 have k_r := b_r_2.cell
 go_wp2_with fail
 clear k_a k_b k_r
 refine (fixed_any (t := ⟨kb, y, s', l'⟩) (vs := [_, _, _, _]) (HB_.out.below HB2.out hB) (Nat.le_trans hB HB2.out.size)).mono ?_
 rintro x w3 ⟨rfl, hb⟩
 have b_a_3 := b_a_2.later hb
 have b_b_3 := b_b_2.later hb
 have b_r_3 := b_r_2.later hb
 have HB3 := Lib.hid (bthen HB2.out hb)
 clear b_a_2 b_b_2 b_r_2
 clear hb
 rw [FB.out]
 have k_a := b_a_3.cell
 have k_b := b_b_3.cell
 have k_r := b_r_3.cell
 go_wp2_with fail
 clear k_a k_b k_r
 refine (kinds_any 11 7 kb _).mono ?_
 rintro x w4 ⟨rfl, hb⟩
 have b_a_4 := b_a_3.later hb
 have b_b_4 := b_b_3.later hb
 have b_r_4 := b_r_3.later hb
 have HB4 := Lib.hid (bthen HB3.out hb)
 clear b_a_3 b_b_3 b_r_3
 clear hb
 rw [HK.out]
 have k_a := b_a_4.cell
 have k_b := b_b_4.cell
 have k_r := b_r_4.cell
 go_wp2_with fail
 clear k_a k_b k_r
 refine (containsSet_any (d := d) (d' := d) (s := ⟨7, x, s, l⟩) (t := ⟨kb, y, s', l'⟩) (vs := [_, _, _, _]) (ws := [_, _, _, _]) (HA.out.below HB4.out hB) (HB_.out.below HB4.out hB) (Nat.le_trans hB HB4.out.size) (by simp)).mono ?_
 rintro x w5 ⟨rfl, hb⟩
 have b_a_5 := b_a_4.later hb
 have b_b_5 := b_b_4.later hb
 have b_r_5 := b_r_4.later hb
 have HB5 := Lib.hid (bthen HB4.out hb)
 clear b_a_4 b_b_4 b_r_4
 clear hb
 have k_a := b_a_5.cell
 have k_b := b_b_5.cell
 have k_r := b_r_5.cell
 go_wp2_with fail
 clear k_a k_b k_r
 refine (truth_any _ _).mono ?_
 rintro x w6 ⟨rfl, hb⟩
 have b_a_6 := b_a_5.later hb
 have b_b_6 := b_b_5.later hb
 have b_r_6 := b_r_5.later hb
 have HB6 := Lib.hid (bthen HB5.out hb)
 clear b_a_5 b_b_5 b_r_5
 clear hb
 have k_a := b_a_6.cell
 have k_b := b_b_6.cell
 have k_r := b_r_6.cell
 have f_r := b_r_6.free
 go_wp2_with fail
 refine bodyPost_ret (ret_tm2 rfl rfl (put4 b_r_6 HB6.out (by omega)).1 rfl) rfl ?_
 exact ⟨rfl, (put4 b_r_6 HB6.out (by omega)).2⟩
end Go.Proofs.YtiplipdigabidaaGreat
