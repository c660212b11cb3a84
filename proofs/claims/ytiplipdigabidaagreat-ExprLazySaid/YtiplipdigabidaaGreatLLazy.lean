/- viaticumlaw12.ExprLazy. -/
import Derived.Test.YtiplipdigabidaaGreatAwake12
import Derived.Test.YtiplipdigabidaaGreatLight12
import Derived.Test.YtiplipdigabidaaGreatEvLaw2
import Derived.Test.YtiplipdigabidaaGreatRefHas
set_option linter.unusedVariables false
set_option linter.unusedSimpArgs false
namespace Go.Proofs.YtiplipdigabidaaGreat
open Go.ChangeShapes Go.WideShapes Go.ChangeAt Go.RowKit

theorem sameB_self (a : Tm) : sameB a a = true := by unfold sameB; rw [(cmpT_ord 3).self a]; rfl
theorem infoOp : (Tryz.prog.info? 35).map (fun i => (i.zero, i.size, i.bytes)) = some (some (.agg #[.int .i64 0, .int .i64 0, .int .i64 0, .string ⟨#[]⟩, .slice none 0 0, .int .i64 0, .int .i64 0]), 7, 80) := by kernel_rfl
theorem flat_bool {w : World} {B : Nat} (q : Bool) : RTm w B 1 (boolT q) [.int .i64 6, .int .i64 (bit q), .string ⟨#[]⟩, .slice none 0 0] :=
  ⟨none, 0, rfl, Nat.le_refl _, ⟨by simp [boolT], by omega⟩, (show (0 : Nat) ≤ 140737488351232 by omega), i64_lit (by simp [boolT]) (by simp [boolT]), i64_lit (by cases q <;> simp [boolT, bit]) (by cases q <;> simp [boolT, bit]), fun h => absurd h (by simp [boolT])⟩
theorem lazy_flat {w : World} {B d : Nat} (first : Bool) {k n : Int} (hk : I64 k) (hn : I64 n) : Flat (OpR (d + 1)) w B [⟨1, boolT first, 0, 0⟩, ⟨k, ⟨0, 0, ⟨#[]⟩, []⟩, 0, n⟩]
    (opV 1 (boolT first) 0 0 ++ opV k ⟨0, 0, ⟨#[]⟩, []⟩ 0 n) :=
  (Flat.one (op_rd (o := ⟨1, boolT first, 0, 0⟩) d (i64_lit (by simp) (by simp)) (i64_lit (by simp) (by simp)) (i64_lit (by simp) (by simp)) (i64_lit (by simp [boolT]) (by simp [boolT])) (i64_lit (by cases first <;> simp [boolT, bit]) (by cases first <;> simp [boolT, bit])) (show (0 : Nat) ≤ 140737488351232 by omega) rfl)).append
    (Flat.one (op_rd (o := ⟨k, ⟨0, 0, ⟨#[]⟩, []⟩, 0, n⟩) d hk (i64_lit (by simp) (by simp)) hn (i64_lit (by simp) (by simp)) (i64_lit (by simp) (by simp)) (show (0 : Nat) ≤ 140737488351232 by omega) rfl))
theorem lazy_ev {b : Bd} {or first : Bool} {right : List OpD} (hb : bindB b = true) (h : mayExprB right = true) (h30 : right.length ≤ 30) :
    (if (mayExprB (lazyE or first right) && bindB b) = true then evalT b (lazyE or first right) else (noT, 1)) = (if (first == or) = true then (boolT first, 0) else evalT b right) := by
  rw [(lazy_law (b := b) (or := or) (first := first) h h30).1, hb]
  exact (lazy_law (b := b) (or := or) (first := first) h h30).2

set_option maxRecDepth 100000 in
set_option maxHeartbeats 16000000 in
theorem exprLazy_any {D B cn ct : Nat} (or first : Bool) {ops : List OpD} {evs : List Value} {b : Bd} {An At : Option Addr} {w : World} {m : Int} (he : (ExR (D + 1)).rd w B ops evs) (hn : RL StrR w B (b.names.map mkS) An) (ht : RL (TmR (D + 1)) w B b.terms At) (hn1 : b.names.length * 8 ≤ 140737488351232) (ht1 : b.terms.length * 32 ≤ 140737488351232) (hB : B ≤ w.heap.size) (hm : w.cell? ⟨0, 0, none⟩ = some (.int .i64 m)) (h0 : 0 < w.heap.size) :
    Calls Tryz.prog 3 #[.bool or, .bool first, .agg evs.toArray, .agg (bdV An b.names.length cn At b.terms.length ct)] w fun z w' => z = .returned (.bool true) ∧ Below w.heap.size w w' := by
  have HE := Lib.hid he
  have HN := Lib.hid hn
  have HT := Lib.hid ht
  have HM := Lib.hid hm
  have HN1 := Lib.hid hn1
  have HT1 := Lib.hid ht1
  obtain ⟨_, rfl, Ao, co, rfl, hc1, hc2, hl⟩ := he
  have HL := Lib.hid hl
  simp only [OpR] at hc2
  clear hl hn ht hm hn1 ht1
  unfold bdV
  go_enter Tryz.func3, Tryz.ntmps3
  go_wp2_with fail
  generalize hW : World.alloc _ _ = w1
  obtain ⟨hb, hz⟩ := al2 hW
  have b_e_1 := n21 hW
  have b_b_1 := n22 hW
  have HB1 := Lib.hid hb
  clear hW hz hb
  refine (light12_any (vs := [_]) ((ExR (D + 1)).keep HB1.out hB HE.out) (Nat.le_trans hB HB1.out.size)).mono ?_
  rintro x w2 ⟨⟨q1, rfl⟩, hb⟩
  have b_e_2 := b_e_1.later hb
  have b_b_2 := b_b_1.later hb
  have HB2 := Lib.hid (bthen HB1.out hb)
  clear b_e_1 b_b_1
  clear hb
  cases q1
  · have k_e := b_e_2.cell
    have l_e := b_e_2.lt
    have k_b := b_b_2.cell
    have l_b := b_b_2.lt
    go_wp2_with fail
    clear k_e l_e k_b l_b
    refine (awake12_any ((HB2.out.cell (p := ⟨0, 0, none⟩) h0).trans HM.out) (Nat.lt_of_lt_of_le h0 HB2.out.size)).mono ?_
    rintro x w3 ⟨rfl, hb⟩
    have b_e_3 := b_e_2.later hb
    have b_b_3 := b_b_2.later hb
    have HB3 := Lib.hid (bthen HB2.out hb)
    clear b_e_2 b_b_2
    clear hb
    have k_e := b_e_3.cell
    have l_e := b_e_3.lt
    have k_b := b_b_3.cell
    have l_b := b_b_3.lt
    go_wp2_with fail
    clear k_e l_e k_b l_b
    go_ret
    exact ⟨rfl, HB3.out⟩
  · have k_e := b_e_2.cell
    have l_e := b_e_2.lt
    have k_b := b_b_2.cell
    have l_b := b_b_2.lt
    go_wp2_with fail
    clear k_e l_e k_b l_b
    refine (lightBind_any (cn := cn) (ct := ct) (d := D + 1) HN1.out (HT.out.keep HB2.out hB) HT1.out (Nat.le_trans hB HB2.out.size)).mono ?_
    rintro x w3 ⟨⟨q2, rfl⟩, hb⟩
    have b_e_3 := b_e_2.later hb
    have b_b_3 := b_b_2.later hb
    have HB3 := Lib.hid (bthen HB2.out hb)
    clear b_e_2 b_b_2
    clear hb
    cases q2
    · have k_e := b_e_3.cell
      have l_e := b_e_3.lt
      have k_b := b_b_3.cell
      have l_b := b_b_3.lt
      go_wp2_with fail
      clear k_e l_e k_b l_b
      refine (awake12_any ((HB3.out.cell (p := ⟨0, 0, none⟩) h0).trans HM.out) (Nat.lt_of_lt_of_le h0 HB3.out.size)).mono ?_
      rintro x w4 ⟨rfl, hb⟩
      have b_e_4 := b_e_3.later hb
      have b_b_4 := b_b_3.later hb
      have HB4 := Lib.hid (bthen HB3.out hb)
      clear b_e_3 b_b_3
      clear hb
      have k_e := b_e_4.cell
      have l_e := b_e_4.lt
      have k_b := b_b_4.cell
      have l_b := b_b_4.lt
      go_wp2_with fail
      clear k_e l_e k_b l_b
      go_ret
      exact ⟨rfl, HB4.out⟩
    · have k_e := b_e_3.cell
      have l_e := b_e_3.lt
      have k_b := b_b_3.cell
      have l_b := b_b_3.lt
      go_wp2_with fail
      clear k_e l_e k_b l_b
      refine (mayExpr_any (vs := [_]) ((ExR (D + 1)).keep HB3.out hB HE.out) (Nat.le_trans hB HB3.out.size)).mono ?_
      rintro x w4 ⟨rfl, hb⟩
      have b_e_4 := b_e_3.later hb
      have b_b_4 := b_b_3.later hb
      have HB4 := Lib.hid (bthen HB3.out hb)
      clear b_e_3 b_b_3
      clear hb
      by_cases hm1 : mayExprB ops = true
      · have HM1 := Lib.hid hm1
        rw [hm1]
        clear hm1
        by_cases h30 : ops.length ≤ 30
        · have HL30 := Lib.hid h30
          have g30 : decide ((ops.length : Int) > 30) = false := by simp; omega
          have k_e := b_e_4.cell
          have l_e := b_e_4.lt
          have k_b := b_b_4.cell
          have l_b := b_b_4.lt
          go_wp2_with fail
          clear k_e l_e k_b l_b
          refine (maybind_any (cn := cn) (ct := ct) (d := D) (HN.out.keep HB4.out hB) (HT.out.keep HB4.out hB) (Nat.le_trans hB HB4.out.size)).mono ?_
          rintro x w5 ⟨rfl, hb⟩
          have b_e_5 := b_e_4.later hb
          have b_b_5 := b_b_4.later hb
          have HB5 := Lib.hid (bthen HB4.out hb)
          clear b_e_4 b_b_4
          clear hb
          by_cases hb1 : bindB b = true
          · have HB_ := Lib.hid hb1
            rw [hb1]
            clear hb1
            cases or
            · cases first
              · have k_e := b_e_5.cell
                have l_e := b_e_5.lt
                have k_b := b_b_5.cell
                have l_b := b_b_5.lt
                go_upto_region 9 with fail
                clear k_e l_e k_b l_b
                generalize hW : World.alloc _ _ = w6
                obtain ⟨hb, hz⟩ := al2 hW
                have b_t_6 := n21 hW
                have b_o_6 := n22 hW
                have b_e_6 := b_e_5.later hb
                have b_b_6 := b_b_5.later hb
                have HB6 := Lib.hid (bthen HB5.out hb)
                clear b_e_5 b_b_5
                clear hW hz hb
                obtain ⟨i0, hi0, hz0, hz1, hz2⟩ := info_parts infoOp
                have HCn := Lib.hid (show B ≤ w6.heap.size from Nat.le_trans hB HB6.out.size)
                have HLk := Lib.hid (HL.out.keep HB6.out hB)
                have hle30 := HL30.out
                have hFL := @lazy_flat ((w6.alloc (.cells (opV 1 (boolT false) 0 0 ++ opV 4 ⟨0, 0, ⟨#[]⟩, []⟩ 0 ops.length).toArray 35))) B D false 4 ops.length (i64_lit (by omega) (by omega)) (i64_lit (by omega) (by omega))
                have HOW := Lib.hid (BlkT.own (base := w6.heap.size) (n := 2) (T := 35) (show BlkT _ _ _ _ from hp11) hFL (Nat.le_refl _) rfl (by unfold maxLen; omega))
                clear hFL
                have k_e := b_e_6.cell
                have l_e := b_e_6.lt
                have k_b := b_b_6.cell
                have l_b := b_b_6.lt
                have k_t := b_t_6.cell
                have l_t := b_t_6.lt
                have k_o := b_o_6.cell
                have l_o := b_o_6.lt
                go_wp2_with ((
                  at_builtin
                  refine wpList_append_R (R := OpR (D + 1)) (e := 35) (base := w6.heap.size) (B := B) (xs := [⟨1, boolT false, 0, 0⟩, ⟨4, ⟨0, 0, ⟨#[]⟩, []⟩, 0, ops.length⟩]) (ys := ops) rfl (.tmp 53) (.tmp 55) 22 rfl (bytes := 80) Tryz.underlying22 hi0 hz0 hz1 hz2 rfl (show 0 < 7 by omega) (single_op (D + 1)) rfl HOW.out rfl ((HLk.out.keep ((Below.refl _ _).alloc (Nat.le_refl _) _) HCn.out).src) rfl HCn.out (by simp only [List.length_cons, List.length_nil]; omega) (by omega) (by simp) ?_
                  intro v1 w9_ hown1 hb1
                  obtain ⟨A1, c1, rfl⟩ := hown1.form
                  have HS9 : Hid (Below w6.heap.size w6 w9_) := Lib.hid (((Below.refl _ _).alloc (Nat.le_refl _) _).trans hb1)
                  have HO1 := Lib.hid hown1
                  clear hown1 hb1
                  have k_e := (b_e_6.later HS9.out).cell
                  have l_e := (b_e_6.later HS9.out).lt
                  have k_b := (b_b_6.later HS9.out).cell
                  have l_b := (b_b_6.later HS9.out).lt
                  have k_t := (b_t_6.later HS9.out).cell
                  have l_t := (b_t_6.later HS9.out).lt
                  have k_o := (b_o_6.later HS9.out).cell
                  have l_o := (b_o_6.later HS9.out).lt))
                clear k_e l_e k_b l_b k_t l_t k_o l_o
                have b_e_7 := b_e_6.later HS9.out
                have b_b_7 := b_b_6.later HS9.out
                have b_t_7 := b_t_6.later HS9.out
                have b_o_7 := b_o_6.later HS9.out
                have HB7 := Lib.hid (bthen HB6.out HS9.out)
                clear b_e_6 b_b_6 b_t_6 b_o_6
                generalize w9_ = w7 at *
                have hrs := HO1.out.reads (Nat.le_trans HCn.out HS9.out.size) (by simp only [List.length_append, List.length_cons, List.length_nil, OpR]; omega)
                have HXX : Hid ((ExR (D + 1)).rd w7 w7.heap.size (lazyE false false ops) [.slice A1 ([(⟨1, boolT false, 0, 0⟩ : OpD), ⟨4, ⟨0, 0, ⟨#[]⟩, []⟩, 0, ops.length⟩] ++ ops).length c1]) := Lib.hid ⟨_, rfl, hrs⟩
                have HEV := Lib.hid (lazy_ev (or := false) (first := false) HB_.out HM1.out HL30.out)
                have HMY := Lib.hid (lazy_law (b := b) (or := false) (first := false) HM1.out HL30.out).1
                clear hrs HO1 HS9 HOW
                have HY7 := Lib.hid (Below.refl w7.heap.size w7)
                generalize hW : World.alloc _ _ = w8
                obtain ⟨hb, hz⟩ := al1 hW
                have b_x_8 := n11 hW
                have b_e_8 := b_e_7.later hb
                have b_b_8 := b_b_7.later hb
                have b_t_8 := b_t_7.later hb
                have b_o_8 := b_o_7.later hb
                have HB8 := Lib.hid (bthen HB7.out hb)
                have HY8 := Lib.hid (bthen HY7.out hb)
                clear b_e_7 b_b_7 b_t_7 b_o_7
                clear hW hz hb
                refine (eval_any (evs := [_]) (D := D) (cn := cn) (ct := ct) ((ExR (D + 1)).keep HY8.out (Nat.le_refl _) HXX.out) ((HN.out.keep HB8.out hB).wide (Nat.le_trans hB HB7.out.size)) ((HT.out.keep HB8.out hB).wide (Nat.le_trans hB HB7.out.size)) HY8.out.size ((HB8.out.cell (p := ⟨0, 0, none⟩) h0).trans HM.out) (Nat.lt_of_lt_of_le h0 HB8.out.size)).mono ?_
                rintro x w9 ⟨⟨Ax, cx, rfl, hrd⟩, hb⟩
                have b_e_9 := b_e_8.later hb
                have b_b_9 := b_b_8.later hb
                have b_t_9 := b_t_8.later hb
                have b_o_9 := b_o_8.later hb
                have b_x_9 := b_x_8.later hb
                have HB9 := Lib.hid (bthen HB8.out hb)
                have HY9 := Lib.hid (bthen HY8.out hb)
                clear b_e_8 b_b_8 b_t_8 b_o_8 b_x_8
                clear hb
                have hev : (if (mayExprB (lazyE false false ops) && bindB b) = true then evalT b (lazyE false false ops) else (noT, 1)) = (boolT false, 0) := HEV.out
                rw [hev] at hrd ⊢
                clear hev
                have HX9 := Lib.hid hrd
                clear hrd
                have HZ9 := Lib.hid (Below.refl w9.heap.size w9)
                have k_e := b_e_9.cell
                have l_e := b_e_9.lt
                have k_b := b_b_9.cell
                have l_b := b_b_9.lt
                have k_t := b_t_9.cell
                have l_t := b_t_9.lt
                have k_o := b_o_9.cell
                have l_o := b_o_9.lt
                have k_x := b_x_9.cell
                have l_x := b_x_9.lt
                go_upto_region 11 with fail
                clear k_e l_e k_b l_b k_t l_t k_o l_o k_x l_x
                generalize hW : World.alloc _ _ = w10
                obtain ⟨hb, hz⟩ := al1 hW
                have b_r_10 := n11 hW
                have b_e_10 := b_e_9.later hb
                have b_b_10 := b_b_9.later hb
                have b_t_10 := b_t_9.later hb
                have b_o_10 := b_o_9.later hb
                have b_x_10 := b_x_9.later hb
                have HB10 := Lib.hid (bthen HB9.out hb)
                have HY10 := Lib.hid (bthen HY9.out hb)
                have HZ10 := Lib.hid (bthen HZ9.out hb)
                clear b_e_9 b_b_9 b_t_9 b_o_9 b_x_9
                clear hW hz hb
                have k_e := b_e_10.cell
                have l_e := b_e_10.lt
                have k_b := b_b_10.cell
                have l_b := b_b_10.lt
                have k_t := b_t_10.cell
                have l_t := b_t_10.lt
                have k_o := b_o_10.cell
                have l_o := b_o_10.lt
                have k_x := b_x_10.cell
                have l_x := b_x_10.lt
                have k_r := b_r_10.cell
                have l_r := b_r_10.lt
                go_wp2_with fail
                clear k_e l_e k_b l_b k_t l_t k_o l_o k_x l_x k_r l_r
                refine (mayExpr_any (vs := [_]) ((ExR (D + 1)).keep HY10.out (Nat.le_refl _) HXX.out) HY10.out.size).mono ?_
                rintro x w11 ⟨rfl, hb⟩
                have b_e_11 := b_e_10.later hb
                have b_b_11 := b_b_10.later hb
                have b_t_11 := b_t_10.later hb
                have b_o_11 := b_o_10.later hb
                have b_x_11 := b_x_10.later hb
                have b_r_11 := b_r_10.later hb
                have HB11 := Lib.hid (bthen HB10.out hb)
                have HY11 := Lib.hid (bthen HY10.out hb)
                have HZ11 := Lib.hid (bthen HZ10.out hb)
                clear b_e_10 b_b_10 b_t_10 b_o_10 b_x_10 b_r_10
                clear hb
                rw [HMY.out]
                have k_e := b_e_11.cell
                have l_e := b_e_11.lt
                have k_b := b_b_11.cell
                have l_b := b_b_11.lt
                have k_t := b_t_11.cell
                have l_t := b_t_11.lt
                have k_o := b_o_11.cell
                have l_o := b_o_11.lt
                have k_x := b_x_11.cell
                have l_x := b_x_11.lt
                have k_r := b_r_11.cell
                have l_r := b_r_11.lt
                go_wp2_with fail
                clear k_e l_e k_b l_b k_t l_t k_o l_o k_x l_x k_r l_r
                refine (refSame_any (d := D + 1) (d' := D + 1) (a := boolT false) (b := boolT false) (vs := [_, _, _, _]) (ws := [_, _, _, _]) ((TmR (D + 1)).keep HZ11.out (Nat.le_refl _) HX9.out) (RTm.deeper (show 1 ≤ D + 1 by omega) (flat_bool false)) HZ11.out.size).mono ?_
                rintro x w12 ⟨rfl, hb⟩
                have b_e_12 := b_e_11.later hb
                have b_b_12 := b_b_11.later hb
                have b_t_12 := b_t_11.later hb
                have b_o_12 := b_o_11.later hb
                have b_x_12 := b_x_11.later hb
                have b_r_12 := b_r_11.later hb
                have HB12 := Lib.hid (bthen HB11.out hb)
                have HY12 := Lib.hid (bthen HY11.out hb)
                have HZ12 := Lib.hid (bthen HZ11.out hb)
                clear b_e_11 b_b_11 b_t_11 b_o_11 b_x_11 b_r_11
                clear hb
                rw [sameB_self]
                have k_e := b_e_12.cell
                have l_e := b_e_12.lt
                have k_b := b_b_12.cell
                have l_b := b_b_12.lt
                have k_t := b_t_12.cell
                have l_t := b_t_12.lt
                have k_o := b_o_12.cell
                have l_o := b_o_12.lt
                have k_x := b_x_12.cell
                have l_x := b_x_12.lt
                have k_r := b_r_12.cell
                have l_r := b_r_12.lt
                go_wp2_with fail
                clear k_e l_e k_b l_b k_t l_t k_o l_o k_x l_x k_r l_r
                refine (awake12_any ((HB12.out.cell (p := ⟨0, 0, none⟩) h0).trans HM.out) (Nat.lt_of_lt_of_le h0 HB12.out.size)).mono ?_
                rintro x w13 ⟨rfl, hb⟩
                have b_e_13 := b_e_12.later hb
                have b_b_13 := b_b_12.later hb
                have b_t_13 := b_t_12.later hb
                have b_o_13 := b_o_12.later hb
                have b_x_13 := b_x_12.later hb
                have b_r_13 := b_r_12.later hb
                have HB13 := Lib.hid (bthen HB12.out hb)
                have HY13 := Lib.hid (bthen HY12.out hb)
                have HZ13 := Lib.hid (bthen HZ12.out hb)
                clear b_e_12 b_b_12 b_t_12 b_o_12 b_x_12 b_r_12
                clear hb
                have k_e := b_e_13.cell
                have l_e := b_e_13.lt
                have k_b := b_b_13.cell
                have l_b := b_b_13.lt
                have k_t := b_t_13.cell
                have l_t := b_t_13.lt
                have k_o := b_o_13.cell
                have l_o := b_o_13.lt
                have k_x := b_x_13.cell
                have l_x := b_x_13.lt
                have k_r := b_r_13.cell
                have l_r := b_r_13.lt
                go_wp2_with fail
                clear k_e l_e k_b l_b k_t l_t k_o l_o k_x l_x k_r l_r
                go_ret
                exact ⟨rfl, HB13.out⟩
              · have k_e := b_e_5.cell
                have l_e := b_e_5.lt
                have k_b := b_b_5.cell
                have l_b := b_b_5.lt
                go_upto_region 9 with fail
                clear k_e l_e k_b l_b
                generalize hW : World.alloc _ _ = w6
                obtain ⟨hb, hz⟩ := al2 hW
                have b_t_6 := n21 hW
                have b_o_6 := n22 hW
                have b_e_6 := b_e_5.later hb
                have b_b_6 := b_b_5.later hb
                have HB6 := Lib.hid (bthen HB5.out hb)
                clear b_e_5 b_b_5
                clear hW hz hb
                obtain ⟨i0, hi0, hz0, hz1, hz2⟩ := info_parts infoOp
                have HCn := Lib.hid (show B ≤ w6.heap.size from Nat.le_trans hB HB6.out.size)
                have HLk := Lib.hid (HL.out.keep HB6.out hB)
                have hle30 := HL30.out
                have hFL := @lazy_flat ((w6.alloc (.cells (opV 1 (boolT true) 0 0 ++ opV 4 ⟨0, 0, ⟨#[]⟩, []⟩ 0 ops.length).toArray 35))) B D true 4 ops.length (i64_lit (by omega) (by omega)) (i64_lit (by omega) (by omega))
                have HOW := Lib.hid (BlkT.own (base := w6.heap.size) (n := 2) (T := 35) (show BlkT _ _ _ _ from hp11) hFL (Nat.le_refl _) rfl (by unfold maxLen; omega))
                clear hFL
                have k_e := b_e_6.cell
                have l_e := b_e_6.lt
                have k_b := b_b_6.cell
                have l_b := b_b_6.lt
                have k_t := b_t_6.cell
                have l_t := b_t_6.lt
                have k_o := b_o_6.cell
                have l_o := b_o_6.lt
                go_wp2_with ((
                  at_builtin
                  refine wpList_append_R (R := OpR (D + 1)) (e := 35) (base := w6.heap.size) (B := B) (xs := [⟨1, boolT true, 0, 0⟩, ⟨4, ⟨0, 0, ⟨#[]⟩, []⟩, 0, ops.length⟩]) (ys := ops) rfl (.tmp 53) (.tmp 55) 22 rfl (bytes := 80) Tryz.underlying22 hi0 hz0 hz1 hz2 rfl (show 0 < 7 by omega) (single_op (D + 1)) rfl HOW.out rfl ((HLk.out.keep ((Below.refl _ _).alloc (Nat.le_refl _) _) HCn.out).src) rfl HCn.out (by simp only [List.length_cons, List.length_nil]; omega) (by omega) (by simp) ?_
                  intro v1 w9_ hown1 hb1
                  obtain ⟨A1, c1, rfl⟩ := hown1.form
                  have HS9 : Hid (Below w6.heap.size w6 w9_) := Lib.hid (((Below.refl _ _).alloc (Nat.le_refl _) _).trans hb1)
                  have HO1 := Lib.hid hown1
                  clear hown1 hb1
                  have k_e := (b_e_6.later HS9.out).cell
                  have l_e := (b_e_6.later HS9.out).lt
                  have k_b := (b_b_6.later HS9.out).cell
                  have l_b := (b_b_6.later HS9.out).lt
                  have k_t := (b_t_6.later HS9.out).cell
                  have l_t := (b_t_6.later HS9.out).lt
                  have k_o := (b_o_6.later HS9.out).cell
                  have l_o := (b_o_6.later HS9.out).lt))
                clear k_e l_e k_b l_b k_t l_t k_o l_o
                have b_e_7 := b_e_6.later HS9.out
                have b_b_7 := b_b_6.later HS9.out
                have b_t_7 := b_t_6.later HS9.out
                have b_o_7 := b_o_6.later HS9.out
                have HB7 := Lib.hid (bthen HB6.out HS9.out)
                clear b_e_6 b_b_6 b_t_6 b_o_6
                generalize w9_ = w7 at *
                have hrs := HO1.out.reads (Nat.le_trans HCn.out HS9.out.size) (by simp only [List.length_append, List.length_cons, List.length_nil, OpR]; omega)
                have HXX : Hid ((ExR (D + 1)).rd w7 w7.heap.size (lazyE false true ops) [.slice A1 ([(⟨1, boolT true, 0, 0⟩ : OpD), ⟨4, ⟨0, 0, ⟨#[]⟩, []⟩, 0, ops.length⟩] ++ ops).length c1]) := Lib.hid ⟨_, rfl, hrs⟩
                have HEV := Lib.hid (lazy_ev (or := false) (first := true) HB_.out HM1.out HL30.out)
                have HMY := Lib.hid (lazy_law (b := b) (or := false) (first := true) HM1.out HL30.out).1
                clear hrs HO1 HS9 HOW
                have HY7 := Lib.hid (Below.refl w7.heap.size w7)
                generalize hW : World.alloc _ _ = w8
                obtain ⟨hb, hz⟩ := al1 hW
                have b_x_8 := n11 hW
                have b_e_8 := b_e_7.later hb
                have b_b_8 := b_b_7.later hb
                have b_t_8 := b_t_7.later hb
                have b_o_8 := b_o_7.later hb
                have HB8 := Lib.hid (bthen HB7.out hb)
                have HY8 := Lib.hid (bthen HY7.out hb)
                clear b_e_7 b_b_7 b_t_7 b_o_7
                clear hW hz hb
                refine (eval_any (evs := [_]) (D := D) (cn := cn) (ct := ct) ((ExR (D + 1)).keep HY8.out (Nat.le_refl _) HXX.out) ((HN.out.keep HB8.out hB).wide (Nat.le_trans hB HB7.out.size)) ((HT.out.keep HB8.out hB).wide (Nat.le_trans hB HB7.out.size)) HY8.out.size ((HB8.out.cell (p := ⟨0, 0, none⟩) h0).trans HM.out) (Nat.lt_of_lt_of_le h0 HB8.out.size)).mono ?_
                rintro x w9 ⟨⟨Ax, cx, rfl, hrd⟩, hb⟩
                have b_e_9 := b_e_8.later hb
                have b_b_9 := b_b_8.later hb
                have b_t_9 := b_t_8.later hb
                have b_o_9 := b_o_8.later hb
                have b_x_9 := b_x_8.later hb
                have HB9 := Lib.hid (bthen HB8.out hb)
                have HY9 := Lib.hid (bthen HY8.out hb)
                clear b_e_8 b_b_8 b_t_8 b_o_8 b_x_8
                clear hb
                have hev : (if (mayExprB (lazyE false true ops) && bindB b) = true then evalT b (lazyE false true ops) else (noT, 1)) = evalT b ops := HEV.out
                rw [hev] at hrd ⊢
                clear hev
                generalize hr : evalT b ops = r at hrd ⊢
                have HRR := Lib.hid hr
                clear hr
                have HX9 := Lib.hid hrd
                clear hrd
                have HZ9 := Lib.hid (Below.refl w9.heap.size w9)
                have k_e := b_e_9.cell
                have l_e := b_e_9.lt
                have k_b := b_b_9.cell
                have l_b := b_b_9.lt
                have k_t := b_t_9.cell
                have l_t := b_t_9.lt
                have k_o := b_o_9.cell
                have l_o := b_o_9.lt
                have k_x := b_x_9.cell
                have l_x := b_x_9.lt
                go_upto_region 11 with fail
                clear k_e l_e k_b l_b k_t l_t k_o l_o k_x l_x
                generalize hW : World.alloc _ _ = w10
                obtain ⟨hb, hz⟩ := al1 hW
                have b_r_10 := n11 hW
                have b_e_10 := b_e_9.later hb
                have b_b_10 := b_b_9.later hb
                have b_t_10 := b_t_9.later hb
                have b_o_10 := b_o_9.later hb
                have b_x_10 := b_x_9.later hb
                have HB10 := Lib.hid (bthen HB9.out hb)
                have HY10 := Lib.hid (bthen HY9.out hb)
                have HZ10 := Lib.hid (bthen HZ9.out hb)
                clear b_e_9 b_b_9 b_t_9 b_o_9 b_x_9
                clear hW hz hb
                have k_e := b_e_10.cell
                have l_e := b_e_10.lt
                have k_b := b_b_10.cell
                have l_b := b_b_10.lt
                have k_t := b_t_10.cell
                have l_t := b_t_10.lt
                have k_o := b_o_10.cell
                have l_o := b_o_10.lt
                have k_x := b_x_10.cell
                have l_x := b_x_10.lt
                have k_r := b_r_10.cell
                have l_r := b_r_10.lt
                go_wp2_with fail
                clear k_e l_e k_b l_b k_t l_t k_o l_o k_x l_x k_r l_r
                refine (mayExpr_any (vs := [_]) ((ExR (D + 1)).keep HY10.out (Nat.le_refl _) HXX.out) HY10.out.size).mono ?_
                rintro x w11 ⟨rfl, hb⟩
                have b_e_11 := b_e_10.later hb
                have b_b_11 := b_b_10.later hb
                have b_t_11 := b_t_10.later hb
                have b_o_11 := b_o_10.later hb
                have b_x_11 := b_x_10.later hb
                have b_r_11 := b_r_10.later hb
                have HB11 := Lib.hid (bthen HB10.out hb)
                have HY11 := Lib.hid (bthen HY10.out hb)
                have HZ11 := Lib.hid (bthen HZ10.out hb)
                clear b_e_10 b_b_10 b_t_10 b_o_10 b_x_10 b_r_10
                clear hb
                rw [HMY.out]
                have k_e := b_e_11.cell
                have l_e := b_e_11.lt
                have k_b := b_b_11.cell
                have l_b := b_b_11.lt
                have k_t := b_t_11.cell
                have l_t := b_t_11.lt
                have k_o := b_o_11.cell
                have l_o := b_o_11.lt
                have k_x := b_x_11.cell
                have l_x := b_x_11.lt
                have k_r := b_r_11.cell
                have l_r := b_r_11.lt
                go_wp2_with fail
                clear k_e l_e k_b l_b k_t l_t k_o l_o k_x l_x k_r l_r
                refine (eval_any (evs := [_]) (D := D) (cn := cn) (ct := ct) ((ExR (D + 1)).keep HB11.out hB HE.out) (HN.out.keep HB11.out hB) (HT.out.keep HB11.out hB) (Nat.le_trans hB HB11.out.size) ((HB11.out.cell (p := ⟨0, 0, none⟩) h0).trans HM.out) (Nat.lt_of_lt_of_le h0 HB11.out.size)).mono ?_
                rintro x w12 ⟨⟨Ay, cy, rfl, hrd⟩, hb⟩
                have b_e_12 := b_e_11.later hb
                have b_b_12 := b_b_11.later hb
                have b_t_12 := b_t_11.later hb
                have b_o_12 := b_o_11.later hb
                have b_x_12 := b_x_11.later hb
                have b_r_12 := b_r_11.later hb
                have HB12 := Lib.hid (bthen HB11.out hb)
                have HY12 := Lib.hid (bthen HY11.out hb)
                have HZ12 := Lib.hid (bthen HZ11.out hb)
                clear b_e_11 b_b_11 b_t_11 b_o_11 b_x_11 b_r_11
                clear hb
                have hev : (if (mayExprB ops && bindB b) = true then evalT b ops else (noT, 1)) = r := by rw [HM1.out, HB_.out]; exact HRR.out
                rw [hev] at hrd ⊢
                clear hev
                have HU12 := Lib.hid hrd
                have g5 : (r.2 == r.2) = true := by simp
                clear hrd
                have HV12 := Lib.hid (Below.refl w12.heap.size w12)
                have k_e := b_e_12.cell
                have l_e := b_e_12.lt
                have k_b := b_b_12.cell
                have l_b := b_b_12.lt
                have k_t := b_t_12.cell
                have l_t := b_t_12.lt
                have k_o := b_o_12.cell
                have l_o := b_o_12.lt
                have k_x := b_x_12.cell
                have l_x := b_x_12.lt
                have k_r := b_r_12.cell
                have l_r := b_r_12.lt
                go_upto_region 16 with fail
                clear k_e l_e k_b l_b k_t l_t k_o l_o k_x l_x k_r l_r
                generalize hW : World.alloc _ _ = w13
                obtain ⟨hb, hz⟩ := al1 hW
                have b_y_13 := n11 hW
                have b_e_13 := b_e_12.later hb
                have b_b_13 := b_b_12.later hb
                have b_t_13 := b_t_12.later hb
                have b_o_13 := b_o_12.later hb
                have b_x_13 := b_x_12.later hb
                have b_r_13 := b_r_12.later hb
                have HB13 := Lib.hid (bthen HB12.out hb)
                have HY13 := Lib.hid (bthen HY12.out hb)
                have HZ13 := Lib.hid (bthen HZ12.out hb)
                have HV13 := Lib.hid (bthen HV12.out hb)
                clear b_e_12 b_b_12 b_t_12 b_o_12 b_x_12 b_r_12
                clear hW hz hb
                have k_e := b_e_13.cell
                have l_e := b_e_13.lt
                have k_b := b_b_13.cell
                have l_b := b_b_13.lt
                have k_t := b_t_13.cell
                have l_t := b_t_13.lt
                have k_o := b_o_13.cell
                have l_o := b_o_13.lt
                have k_x := b_x_13.cell
                have l_x := b_x_13.lt
                have k_r := b_r_13.cell
                have l_r := b_r_13.lt
                have k_y := b_y_13.cell
                have l_y := b_y_13.lt
                go_wp2_with fail
                clear k_e l_e k_b l_b k_t l_t k_o l_o k_x l_x k_r l_r k_y l_y
                refine (refSame_any (d := D + 1) (d' := D + 1) (a := r.1) (b := r.1) (vs := [_, _, _, _]) (ws := [_, _, _, _]) ((TmR (D + 1)).wide HZ13.out.size ((TmR (D + 1)).keep HZ13.out (Nat.le_refl _) HX9.out)) ((TmR (D + 1)).wide HV13.out.size ((TmR (D + 1)).keep HV13.out (Nat.le_refl _) HU12.out)) (Nat.le_refl _)).mono ?_
                rintro x w14 ⟨rfl, hb⟩
                have b_e_14 := b_e_13.later hb
                have b_b_14 := b_b_13.later hb
                have b_t_14 := b_t_13.later hb
                have b_o_14 := b_o_13.later hb
                have b_x_14 := b_x_13.later hb
                have b_r_14 := b_r_13.later hb
                have b_y_14 := b_y_13.later hb
                have HB14 := Lib.hid (bthen HB13.out hb)
                have HY14 := Lib.hid (bthen HY13.out hb)
                have HZ14 := Lib.hid (bthen HZ13.out hb)
                have HV14 := Lib.hid (bthen HV13.out hb)
                clear b_e_13 b_b_13 b_t_13 b_o_13 b_x_13 b_r_13 b_y_13
                clear hb
                rw [sameB_self]
                have k_e := b_e_14.cell
                have l_e := b_e_14.lt
                have k_b := b_b_14.cell
                have l_b := b_b_14.lt
                have k_t := b_t_14.cell
                have l_t := b_t_14.lt
                have k_o := b_o_14.cell
                have l_o := b_o_14.lt
                have k_x := b_x_14.cell
                have l_x := b_x_14.lt
                have k_r := b_r_14.cell
                have l_r := b_r_14.lt
                have k_y := b_y_14.cell
                have l_y := b_y_14.lt
                go_wp2_with fail
                clear k_e l_e k_b l_b k_t l_t k_o l_o k_x l_x k_r l_r k_y l_y
                refine (awake12_any ((HB14.out.cell (p := ⟨0, 0, none⟩) h0).trans HM.out) (Nat.lt_of_lt_of_le h0 HB14.out.size)).mono ?_
                rintro x w15 ⟨rfl, hb⟩
                have b_e_15 := b_e_14.later hb
                have b_b_15 := b_b_14.later hb
                have b_t_15 := b_t_14.later hb
                have b_o_15 := b_o_14.later hb
                have b_x_15 := b_x_14.later hb
                have b_r_15 := b_r_14.later hb
                have b_y_15 := b_y_14.later hb
                have HB15 := Lib.hid (bthen HB14.out hb)
                have HY15 := Lib.hid (bthen HY14.out hb)
                have HZ15 := Lib.hid (bthen HZ14.out hb)
                have HV15 := Lib.hid (bthen HV14.out hb)
                clear b_e_14 b_b_14 b_t_14 b_o_14 b_x_14 b_r_14 b_y_14
                clear hb
                have k_e := b_e_15.cell
                have l_e := b_e_15.lt
                have k_b := b_b_15.cell
                have l_b := b_b_15.lt
                have k_t := b_t_15.cell
                have l_t := b_t_15.lt
                have k_o := b_o_15.cell
                have l_o := b_o_15.lt
                have k_x := b_x_15.cell
                have l_x := b_x_15.lt
                have k_r := b_r_15.cell
                have l_r := b_r_15.lt
                have k_y := b_y_15.cell
                have l_y := b_y_15.lt
                go_wp2_with fail
                clear k_e l_e k_b l_b k_t l_t k_o l_o k_x l_x k_r l_r k_y l_y
                go_ret
                exact ⟨rfl, HB15.out⟩
            · cases first
              · have k_e := b_e_5.cell
                have l_e := b_e_5.lt
                have k_b := b_b_5.cell
                have l_b := b_b_5.lt
                go_upto_region 9 with fail
                clear k_e l_e k_b l_b
                generalize hW : World.alloc _ _ = w6
                obtain ⟨hb, hz⟩ := al2 hW
                have b_t_6 := n21 hW
                have b_o_6 := n22 hW
                have b_e_6 := b_e_5.later hb
                have b_b_6 := b_b_5.later hb
                have HB6 := Lib.hid (bthen HB5.out hb)
                clear b_e_5 b_b_5
                clear hW hz hb
                obtain ⟨i0, hi0, hz0, hz1, hz2⟩ := info_parts infoOp
                have HCn := Lib.hid (show B ≤ w6.heap.size from Nat.le_trans hB HB6.out.size)
                have HLk := Lib.hid (HL.out.keep HB6.out hB)
                have hle30 := HL30.out
                have hFL := @lazy_flat ((w6.alloc (.cells (opV 1 (boolT false) 0 0 ++ opV 5 ⟨0, 0, ⟨#[]⟩, []⟩ 0 ops.length).toArray 35))) B D false 5 ops.length (i64_lit (by omega) (by omega)) (i64_lit (by omega) (by omega))
                have HOW := Lib.hid (BlkT.own (base := w6.heap.size) (n := 2) (T := 35) (show BlkT _ _ _ _ from hp11) hFL (Nat.le_refl _) rfl (by unfold maxLen; omega))
                clear hFL
                have k_e := b_e_6.cell
                have l_e := b_e_6.lt
                have k_b := b_b_6.cell
                have l_b := b_b_6.lt
                have k_t := b_t_6.cell
                have l_t := b_t_6.lt
                have k_o := b_o_6.cell
                have l_o := b_o_6.lt
                go_wp2_with ((
                  at_builtin
                  refine wpList_append_R (R := OpR (D + 1)) (e := 35) (base := w6.heap.size) (B := B) (xs := [⟨1, boolT false, 0, 0⟩, ⟨5, ⟨0, 0, ⟨#[]⟩, []⟩, 0, ops.length⟩]) (ys := ops) rfl (.tmp 53) (.tmp 55) 22 rfl (bytes := 80) Tryz.underlying22 hi0 hz0 hz1 hz2 rfl (show 0 < 7 by omega) (single_op (D + 1)) rfl HOW.out rfl ((HLk.out.keep ((Below.refl _ _).alloc (Nat.le_refl _) _) HCn.out).src) rfl HCn.out (by simp only [List.length_cons, List.length_nil]; omega) (by omega) (by simp) ?_
                  intro v1 w9_ hown1 hb1
                  obtain ⟨A1, c1, rfl⟩ := hown1.form
                  have HS9 : Hid (Below w6.heap.size w6 w9_) := Lib.hid (((Below.refl _ _).alloc (Nat.le_refl _) _).trans hb1)
                  have HO1 := Lib.hid hown1
                  clear hown1 hb1
                  have k_e := (b_e_6.later HS9.out).cell
                  have l_e := (b_e_6.later HS9.out).lt
                  have k_b := (b_b_6.later HS9.out).cell
                  have l_b := (b_b_6.later HS9.out).lt
                  have k_t := (b_t_6.later HS9.out).cell
                  have l_t := (b_t_6.later HS9.out).lt
                  have k_o := (b_o_6.later HS9.out).cell
                  have l_o := (b_o_6.later HS9.out).lt))
                clear k_e l_e k_b l_b k_t l_t k_o l_o
                have b_e_7 := b_e_6.later HS9.out
                have b_b_7 := b_b_6.later HS9.out
                have b_t_7 := b_t_6.later HS9.out
                have b_o_7 := b_o_6.later HS9.out
                have HB7 := Lib.hid (bthen HB6.out HS9.out)
                clear b_e_6 b_b_6 b_t_6 b_o_6
                generalize w9_ = w7 at *
                have hrs := HO1.out.reads (Nat.le_trans HCn.out HS9.out.size) (by simp only [List.length_append, List.length_cons, List.length_nil, OpR]; omega)
                have HXX : Hid ((ExR (D + 1)).rd w7 w7.heap.size (lazyE true false ops) [.slice A1 ([(⟨1, boolT false, 0, 0⟩ : OpD), ⟨5, ⟨0, 0, ⟨#[]⟩, []⟩, 0, ops.length⟩] ++ ops).length c1]) := Lib.hid ⟨_, rfl, hrs⟩
                have HEV := Lib.hid (lazy_ev (or := true) (first := false) HB_.out HM1.out HL30.out)
                have HMY := Lib.hid (lazy_law (b := b) (or := true) (first := false) HM1.out HL30.out).1
                clear hrs HO1 HS9 HOW
                have HY7 := Lib.hid (Below.refl w7.heap.size w7)
                generalize hW : World.alloc _ _ = w8
                obtain ⟨hb, hz⟩ := al1 hW
                have b_x_8 := n11 hW
                have b_e_8 := b_e_7.later hb
                have b_b_8 := b_b_7.later hb
                have b_t_8 := b_t_7.later hb
                have b_o_8 := b_o_7.later hb
                have HB8 := Lib.hid (bthen HB7.out hb)
                have HY8 := Lib.hid (bthen HY7.out hb)
                clear b_e_7 b_b_7 b_t_7 b_o_7
                clear hW hz hb
                refine (eval_any (evs := [_]) (D := D) (cn := cn) (ct := ct) ((ExR (D + 1)).keep HY8.out (Nat.le_refl _) HXX.out) ((HN.out.keep HB8.out hB).wide (Nat.le_trans hB HB7.out.size)) ((HT.out.keep HB8.out hB).wide (Nat.le_trans hB HB7.out.size)) HY8.out.size ((HB8.out.cell (p := ⟨0, 0, none⟩) h0).trans HM.out) (Nat.lt_of_lt_of_le h0 HB8.out.size)).mono ?_
                rintro x w9 ⟨⟨Ax, cx, rfl, hrd⟩, hb⟩
                have b_e_9 := b_e_8.later hb
                have b_b_9 := b_b_8.later hb
                have b_t_9 := b_t_8.later hb
                have b_o_9 := b_o_8.later hb
                have b_x_9 := b_x_8.later hb
                have HB9 := Lib.hid (bthen HB8.out hb)
                have HY9 := Lib.hid (bthen HY8.out hb)
                clear b_e_8 b_b_8 b_t_8 b_o_8 b_x_8
                clear hb
                have hev : (if (mayExprB (lazyE true false ops) && bindB b) = true then evalT b (lazyE true false ops) else (noT, 1)) = evalT b ops := HEV.out
                rw [hev] at hrd ⊢
                clear hev
                generalize hr : evalT b ops = r at hrd ⊢
                have HRR := Lib.hid hr
                clear hr
                have HX9 := Lib.hid hrd
                clear hrd
                have HZ9 := Lib.hid (Below.refl w9.heap.size w9)
                have k_e := b_e_9.cell
                have l_e := b_e_9.lt
                have k_b := b_b_9.cell
                have l_b := b_b_9.lt
                have k_t := b_t_9.cell
                have l_t := b_t_9.lt
                have k_o := b_o_9.cell
                have l_o := b_o_9.lt
                have k_x := b_x_9.cell
                have l_x := b_x_9.lt
                go_upto_region 11 with fail
                clear k_e l_e k_b l_b k_t l_t k_o l_o k_x l_x
                generalize hW : World.alloc _ _ = w10
                obtain ⟨hb, hz⟩ := al1 hW
                have b_r_10 := n11 hW
                have b_e_10 := b_e_9.later hb
                have b_b_10 := b_b_9.later hb
                have b_t_10 := b_t_9.later hb
                have b_o_10 := b_o_9.later hb
                have b_x_10 := b_x_9.later hb
                have HB10 := Lib.hid (bthen HB9.out hb)
                have HY10 := Lib.hid (bthen HY9.out hb)
                have HZ10 := Lib.hid (bthen HZ9.out hb)
                clear b_e_9 b_b_9 b_t_9 b_o_9 b_x_9
                clear hW hz hb
                have k_e := b_e_10.cell
                have l_e := b_e_10.lt
                have k_b := b_b_10.cell
                have l_b := b_b_10.lt
                have k_t := b_t_10.cell
                have l_t := b_t_10.lt
                have k_o := b_o_10.cell
                have l_o := b_o_10.lt
                have k_x := b_x_10.cell
                have l_x := b_x_10.lt
                have k_r := b_r_10.cell
                have l_r := b_r_10.lt
                go_wp2_with fail
                clear k_e l_e k_b l_b k_t l_t k_o l_o k_x l_x k_r l_r
                refine (mayExpr_any (vs := [_]) ((ExR (D + 1)).keep HY10.out (Nat.le_refl _) HXX.out) HY10.out.size).mono ?_
                rintro x w11 ⟨rfl, hb⟩
                have b_e_11 := b_e_10.later hb
                have b_b_11 := b_b_10.later hb
                have b_t_11 := b_t_10.later hb
                have b_o_11 := b_o_10.later hb
                have b_x_11 := b_x_10.later hb
                have b_r_11 := b_r_10.later hb
                have HB11 := Lib.hid (bthen HB10.out hb)
                have HY11 := Lib.hid (bthen HY10.out hb)
                have HZ11 := Lib.hid (bthen HZ10.out hb)
                clear b_e_10 b_b_10 b_t_10 b_o_10 b_x_10 b_r_10
                clear hb
                rw [HMY.out]
                have k_e := b_e_11.cell
                have l_e := b_e_11.lt
                have k_b := b_b_11.cell
                have l_b := b_b_11.lt
                have k_t := b_t_11.cell
                have l_t := b_t_11.lt
                have k_o := b_o_11.cell
                have l_o := b_o_11.lt
                have k_x := b_x_11.cell
                have l_x := b_x_11.lt
                have k_r := b_r_11.cell
                have l_r := b_r_11.lt
                go_wp2_with fail
                clear k_e l_e k_b l_b k_t l_t k_o l_o k_x l_x k_r l_r
                refine (eval_any (evs := [_]) (D := D) (cn := cn) (ct := ct) ((ExR (D + 1)).keep HB11.out hB HE.out) (HN.out.keep HB11.out hB) (HT.out.keep HB11.out hB) (Nat.le_trans hB HB11.out.size) ((HB11.out.cell (p := ⟨0, 0, none⟩) h0).trans HM.out) (Nat.lt_of_lt_of_le h0 HB11.out.size)).mono ?_
                rintro x w12 ⟨⟨Ay, cy, rfl, hrd⟩, hb⟩
                have b_e_12 := b_e_11.later hb
                have b_b_12 := b_b_11.later hb
                have b_t_12 := b_t_11.later hb
                have b_o_12 := b_o_11.later hb
                have b_x_12 := b_x_11.later hb
                have b_r_12 := b_r_11.later hb
                have HB12 := Lib.hid (bthen HB11.out hb)
                have HY12 := Lib.hid (bthen HY11.out hb)
                have HZ12 := Lib.hid (bthen HZ11.out hb)
                clear b_e_11 b_b_11 b_t_11 b_o_11 b_x_11 b_r_11
                clear hb
                have hev : (if (mayExprB ops && bindB b) = true then evalT b ops else (noT, 1)) = r := by rw [HM1.out, HB_.out]; exact HRR.out
                rw [hev] at hrd ⊢
                clear hev
                have HU12 := Lib.hid hrd
                have g5 : (r.2 == r.2) = true := by simp
                clear hrd
                have HV12 := Lib.hid (Below.refl w12.heap.size w12)
                have k_e := b_e_12.cell
                have l_e := b_e_12.lt
                have k_b := b_b_12.cell
                have l_b := b_b_12.lt
                have k_t := b_t_12.cell
                have l_t := b_t_12.lt
                have k_o := b_o_12.cell
                have l_o := b_o_12.lt
                have k_x := b_x_12.cell
                have l_x := b_x_12.lt
                have k_r := b_r_12.cell
                have l_r := b_r_12.lt
                go_upto_region 16 with fail
                clear k_e l_e k_b l_b k_t l_t k_o l_o k_x l_x k_r l_r
                generalize hW : World.alloc _ _ = w13
                obtain ⟨hb, hz⟩ := al1 hW
                have b_y_13 := n11 hW
                have b_e_13 := b_e_12.later hb
                have b_b_13 := b_b_12.later hb
                have b_t_13 := b_t_12.later hb
                have b_o_13 := b_o_12.later hb
                have b_x_13 := b_x_12.later hb
                have b_r_13 := b_r_12.later hb
                have HB13 := Lib.hid (bthen HB12.out hb)
                have HY13 := Lib.hid (bthen HY12.out hb)
                have HZ13 := Lib.hid (bthen HZ12.out hb)
                have HV13 := Lib.hid (bthen HV12.out hb)
                clear b_e_12 b_b_12 b_t_12 b_o_12 b_x_12 b_r_12
                clear hW hz hb
                have k_e := b_e_13.cell
                have l_e := b_e_13.lt
                have k_b := b_b_13.cell
                have l_b := b_b_13.lt
                have k_t := b_t_13.cell
                have l_t := b_t_13.lt
                have k_o := b_o_13.cell
                have l_o := b_o_13.lt
                have k_x := b_x_13.cell
                have l_x := b_x_13.lt
                have k_r := b_r_13.cell
                have l_r := b_r_13.lt
                have k_y := b_y_13.cell
                have l_y := b_y_13.lt
                go_wp2_with fail
                clear k_e l_e k_b l_b k_t l_t k_o l_o k_x l_x k_r l_r k_y l_y
                refine (refSame_any (d := D + 1) (d' := D + 1) (a := r.1) (b := r.1) (vs := [_, _, _, _]) (ws := [_, _, _, _]) ((TmR (D + 1)).wide HZ13.out.size ((TmR (D + 1)).keep HZ13.out (Nat.le_refl _) HX9.out)) ((TmR (D + 1)).wide HV13.out.size ((TmR (D + 1)).keep HV13.out (Nat.le_refl _) HU12.out)) (Nat.le_refl _)).mono ?_
                rintro x w14 ⟨rfl, hb⟩
                have b_e_14 := b_e_13.later hb
                have b_b_14 := b_b_13.later hb
                have b_t_14 := b_t_13.later hb
                have b_o_14 := b_o_13.later hb
                have b_x_14 := b_x_13.later hb
                have b_r_14 := b_r_13.later hb
                have b_y_14 := b_y_13.later hb
                have HB14 := Lib.hid (bthen HB13.out hb)
                have HY14 := Lib.hid (bthen HY13.out hb)
                have HZ14 := Lib.hid (bthen HZ13.out hb)
                have HV14 := Lib.hid (bthen HV13.out hb)
                clear b_e_13 b_b_13 b_t_13 b_o_13 b_x_13 b_r_13 b_y_13
                clear hb
                rw [sameB_self]
                have k_e := b_e_14.cell
                have l_e := b_e_14.lt
                have k_b := b_b_14.cell
                have l_b := b_b_14.lt
                have k_t := b_t_14.cell
                have l_t := b_t_14.lt
                have k_o := b_o_14.cell
                have l_o := b_o_14.lt
                have k_x := b_x_14.cell
                have l_x := b_x_14.lt
                have k_r := b_r_14.cell
                have l_r := b_r_14.lt
                have k_y := b_y_14.cell
                have l_y := b_y_14.lt
                go_wp2_with fail
                clear k_e l_e k_b l_b k_t l_t k_o l_o k_x l_x k_r l_r k_y l_y
                refine (awake12_any ((HB14.out.cell (p := ⟨0, 0, none⟩) h0).trans HM.out) (Nat.lt_of_lt_of_le h0 HB14.out.size)).mono ?_
                rintro x w15 ⟨rfl, hb⟩
                have b_e_15 := b_e_14.later hb
                have b_b_15 := b_b_14.later hb
                have b_t_15 := b_t_14.later hb
                have b_o_15 := b_o_14.later hb
                have b_x_15 := b_x_14.later hb
                have b_r_15 := b_r_14.later hb
                have b_y_15 := b_y_14.later hb
                have HB15 := Lib.hid (bthen HB14.out hb)
                have HY15 := Lib.hid (bthen HY14.out hb)
                have HZ15 := Lib.hid (bthen HZ14.out hb)
                have HV15 := Lib.hid (bthen HV14.out hb)
                clear b_e_14 b_b_14 b_t_14 b_o_14 b_x_14 b_r_14 b_y_14
                clear hb
                have k_e := b_e_15.cell
                have l_e := b_e_15.lt
                have k_b := b_b_15.cell
                have l_b := b_b_15.lt
                have k_t := b_t_15.cell
                have l_t := b_t_15.lt
                have k_o := b_o_15.cell
                have l_o := b_o_15.lt
                have k_x := b_x_15.cell
                have l_x := b_x_15.lt
                have k_r := b_r_15.cell
                have l_r := b_r_15.lt
                have k_y := b_y_15.cell
                have l_y := b_y_15.lt
                go_wp2_with fail
                clear k_e l_e k_b l_b k_t l_t k_o l_o k_x l_x k_r l_r k_y l_y
                go_ret
                exact ⟨rfl, HB15.out⟩
              · have k_e := b_e_5.cell
                have l_e := b_e_5.lt
                have k_b := b_b_5.cell
                have l_b := b_b_5.lt
                go_upto_region 9 with fail
                clear k_e l_e k_b l_b
                generalize hW : World.alloc _ _ = w6
                obtain ⟨hb, hz⟩ := al2 hW
                have b_t_6 := n21 hW
                have b_o_6 := n22 hW
                have b_e_6 := b_e_5.later hb
                have b_b_6 := b_b_5.later hb
                have HB6 := Lib.hid (bthen HB5.out hb)
                clear b_e_5 b_b_5
                clear hW hz hb
                obtain ⟨i0, hi0, hz0, hz1, hz2⟩ := info_parts infoOp
                have HCn := Lib.hid (show B ≤ w6.heap.size from Nat.le_trans hB HB6.out.size)
                have HLk := Lib.hid (HL.out.keep HB6.out hB)
                have hle30 := HL30.out
                have hFL := @lazy_flat ((w6.alloc (.cells (opV 1 (boolT true) 0 0 ++ opV 5 ⟨0, 0, ⟨#[]⟩, []⟩ 0 ops.length).toArray 35))) B D true 5 ops.length (i64_lit (by omega) (by omega)) (i64_lit (by omega) (by omega))
                have HOW := Lib.hid (BlkT.own (base := w6.heap.size) (n := 2) (T := 35) (show BlkT _ _ _ _ from hp11) hFL (Nat.le_refl _) rfl (by unfold maxLen; omega))
                clear hFL
                have k_e := b_e_6.cell
                have l_e := b_e_6.lt
                have k_b := b_b_6.cell
                have l_b := b_b_6.lt
                have k_t := b_t_6.cell
                have l_t := b_t_6.lt
                have k_o := b_o_6.cell
                have l_o := b_o_6.lt
                go_wp2_with ((
                  at_builtin
                  refine wpList_append_R (R := OpR (D + 1)) (e := 35) (base := w6.heap.size) (B := B) (xs := [⟨1, boolT true, 0, 0⟩, ⟨5, ⟨0, 0, ⟨#[]⟩, []⟩, 0, ops.length⟩]) (ys := ops) rfl (.tmp 53) (.tmp 55) 22 rfl (bytes := 80) Tryz.underlying22 hi0 hz0 hz1 hz2 rfl (show 0 < 7 by omega) (single_op (D + 1)) rfl HOW.out rfl ((HLk.out.keep ((Below.refl _ _).alloc (Nat.le_refl _) _) HCn.out).src) rfl HCn.out (by simp only [List.length_cons, List.length_nil]; omega) (by omega) (by simp) ?_
                  intro v1 w9_ hown1 hb1
                  obtain ⟨A1, c1, rfl⟩ := hown1.form
                  have HS9 : Hid (Below w6.heap.size w6 w9_) := Lib.hid (((Below.refl _ _).alloc (Nat.le_refl _) _).trans hb1)
                  have HO1 := Lib.hid hown1
                  clear hown1 hb1
                  have k_e := (b_e_6.later HS9.out).cell
                  have l_e := (b_e_6.later HS9.out).lt
                  have k_b := (b_b_6.later HS9.out).cell
                  have l_b := (b_b_6.later HS9.out).lt
                  have k_t := (b_t_6.later HS9.out).cell
                  have l_t := (b_t_6.later HS9.out).lt
                  have k_o := (b_o_6.later HS9.out).cell
                  have l_o := (b_o_6.later HS9.out).lt))
                clear k_e l_e k_b l_b k_t l_t k_o l_o
                have b_e_7 := b_e_6.later HS9.out
                have b_b_7 := b_b_6.later HS9.out
                have b_t_7 := b_t_6.later HS9.out
                have b_o_7 := b_o_6.later HS9.out
                have HB7 := Lib.hid (bthen HB6.out HS9.out)
                clear b_e_6 b_b_6 b_t_6 b_o_6
                generalize w9_ = w7 at *
                have hrs := HO1.out.reads (Nat.le_trans HCn.out HS9.out.size) (by simp only [List.length_append, List.length_cons, List.length_nil, OpR]; omega)
                have HXX : Hid ((ExR (D + 1)).rd w7 w7.heap.size (lazyE true true ops) [.slice A1 ([(⟨1, boolT true, 0, 0⟩ : OpD), ⟨5, ⟨0, 0, ⟨#[]⟩, []⟩, 0, ops.length⟩] ++ ops).length c1]) := Lib.hid ⟨_, rfl, hrs⟩
                have HEV := Lib.hid (lazy_ev (or := true) (first := true) HB_.out HM1.out HL30.out)
                have HMY := Lib.hid (lazy_law (b := b) (or := true) (first := true) HM1.out HL30.out).1
                clear hrs HO1 HS9 HOW
                have HY7 := Lib.hid (Below.refl w7.heap.size w7)
                generalize hW : World.alloc _ _ = w8
                obtain ⟨hb, hz⟩ := al1 hW
                have b_x_8 := n11 hW
                have b_e_8 := b_e_7.later hb
                have b_b_8 := b_b_7.later hb
                have b_t_8 := b_t_7.later hb
                have b_o_8 := b_o_7.later hb
                have HB8 := Lib.hid (bthen HB7.out hb)
                have HY8 := Lib.hid (bthen HY7.out hb)
                clear b_e_7 b_b_7 b_t_7 b_o_7
                clear hW hz hb
                refine (eval_any (evs := [_]) (D := D) (cn := cn) (ct := ct) ((ExR (D + 1)).keep HY8.out (Nat.le_refl _) HXX.out) ((HN.out.keep HB8.out hB).wide (Nat.le_trans hB HB7.out.size)) ((HT.out.keep HB8.out hB).wide (Nat.le_trans hB HB7.out.size)) HY8.out.size ((HB8.out.cell (p := ⟨0, 0, none⟩) h0).trans HM.out) (Nat.lt_of_lt_of_le h0 HB8.out.size)).mono ?_
                rintro x w9 ⟨⟨Ax, cx, rfl, hrd⟩, hb⟩
                have b_e_9 := b_e_8.later hb
                have b_b_9 := b_b_8.later hb
                have b_t_9 := b_t_8.later hb
                have b_o_9 := b_o_8.later hb
                have b_x_9 := b_x_8.later hb
                have HB9 := Lib.hid (bthen HB8.out hb)
                have HY9 := Lib.hid (bthen HY8.out hb)
                clear b_e_8 b_b_8 b_t_8 b_o_8 b_x_8
                clear hb
                have hev : (if (mayExprB (lazyE true true ops) && bindB b) = true then evalT b (lazyE true true ops) else (noT, 1)) = (boolT true, 0) := HEV.out
                rw [hev] at hrd ⊢
                clear hev
                have HX9 := Lib.hid hrd
                clear hrd
                have HZ9 := Lib.hid (Below.refl w9.heap.size w9)
                have k_e := b_e_9.cell
                have l_e := b_e_9.lt
                have k_b := b_b_9.cell
                have l_b := b_b_9.lt
                have k_t := b_t_9.cell
                have l_t := b_t_9.lt
                have k_o := b_o_9.cell
                have l_o := b_o_9.lt
                have k_x := b_x_9.cell
                have l_x := b_x_9.lt
                go_upto_region 11 with fail
                clear k_e l_e k_b l_b k_t l_t k_o l_o k_x l_x
                generalize hW : World.alloc _ _ = w10
                obtain ⟨hb, hz⟩ := al1 hW
                have b_r_10 := n11 hW
                have b_e_10 := b_e_9.later hb
                have b_b_10 := b_b_9.later hb
                have b_t_10 := b_t_9.later hb
                have b_o_10 := b_o_9.later hb
                have b_x_10 := b_x_9.later hb
                have HB10 := Lib.hid (bthen HB9.out hb)
                have HY10 := Lib.hid (bthen HY9.out hb)
                have HZ10 := Lib.hid (bthen HZ9.out hb)
                clear b_e_9 b_b_9 b_t_9 b_o_9 b_x_9
                clear hW hz hb
                have k_e := b_e_10.cell
                have l_e := b_e_10.lt
                have k_b := b_b_10.cell
                have l_b := b_b_10.lt
                have k_t := b_t_10.cell
                have l_t := b_t_10.lt
                have k_o := b_o_10.cell
                have l_o := b_o_10.lt
                have k_x := b_x_10.cell
                have l_x := b_x_10.lt
                have k_r := b_r_10.cell
                have l_r := b_r_10.lt
                go_wp2_with fail
                clear k_e l_e k_b l_b k_t l_t k_o l_o k_x l_x k_r l_r
                refine (mayExpr_any (vs := [_]) ((ExR (D + 1)).keep HY10.out (Nat.le_refl _) HXX.out) HY10.out.size).mono ?_
                rintro x w11 ⟨rfl, hb⟩
                have b_e_11 := b_e_10.later hb
                have b_b_11 := b_b_10.later hb
                have b_t_11 := b_t_10.later hb
                have b_o_11 := b_o_10.later hb
                have b_x_11 := b_x_10.later hb
                have b_r_11 := b_r_10.later hb
                have HB11 := Lib.hid (bthen HB10.out hb)
                have HY11 := Lib.hid (bthen HY10.out hb)
                have HZ11 := Lib.hid (bthen HZ10.out hb)
                clear b_e_10 b_b_10 b_t_10 b_o_10 b_x_10 b_r_10
                clear hb
                rw [HMY.out]
                have k_e := b_e_11.cell
                have l_e := b_e_11.lt
                have k_b := b_b_11.cell
                have l_b := b_b_11.lt
                have k_t := b_t_11.cell
                have l_t := b_t_11.lt
                have k_o := b_o_11.cell
                have l_o := b_o_11.lt
                have k_x := b_x_11.cell
                have l_x := b_x_11.lt
                have k_r := b_r_11.cell
                have l_r := b_r_11.lt
                go_wp2_with fail
                clear k_e l_e k_b l_b k_t l_t k_o l_o k_x l_x k_r l_r
                refine (refSame_any (d := D + 1) (d' := D + 1) (a := boolT true) (b := boolT true) (vs := [_, _, _, _]) (ws := [_, _, _, _]) ((TmR (D + 1)).keep HZ11.out (Nat.le_refl _) HX9.out) (RTm.deeper (show 1 ≤ D + 1 by omega) (flat_bool true)) HZ11.out.size).mono ?_
                rintro x w12 ⟨rfl, hb⟩
                have b_e_12 := b_e_11.later hb
                have b_b_12 := b_b_11.later hb
                have b_t_12 := b_t_11.later hb
                have b_o_12 := b_o_11.later hb
                have b_x_12 := b_x_11.later hb
                have b_r_12 := b_r_11.later hb
                have HB12 := Lib.hid (bthen HB11.out hb)
                have HY12 := Lib.hid (bthen HY11.out hb)
                have HZ12 := Lib.hid (bthen HZ11.out hb)
                clear b_e_11 b_b_11 b_t_11 b_o_11 b_x_11 b_r_11
                clear hb
                rw [sameB_self]
                have k_e := b_e_12.cell
                have l_e := b_e_12.lt
                have k_b := b_b_12.cell
                have l_b := b_b_12.lt
                have k_t := b_t_12.cell
                have l_t := b_t_12.lt
                have k_o := b_o_12.cell
                have l_o := b_o_12.lt
                have k_x := b_x_12.cell
                have l_x := b_x_12.lt
                have k_r := b_r_12.cell
                have l_r := b_r_12.lt
                go_wp2_with fail
                clear k_e l_e k_b l_b k_t l_t k_o l_o k_x l_x k_r l_r
                refine (awake12_any ((HB12.out.cell (p := ⟨0, 0, none⟩) h0).trans HM.out) (Nat.lt_of_lt_of_le h0 HB12.out.size)).mono ?_
                rintro x w13 ⟨rfl, hb⟩
                have b_e_13 := b_e_12.later hb
                have b_b_13 := b_b_12.later hb
                have b_t_13 := b_t_12.later hb
                have b_o_13 := b_o_12.later hb
                have b_x_13 := b_x_12.later hb
                have b_r_13 := b_r_12.later hb
                have HB13 := Lib.hid (bthen HB12.out hb)
                have HY13 := Lib.hid (bthen HY12.out hb)
                have HZ13 := Lib.hid (bthen HZ12.out hb)
                clear b_e_12 b_b_12 b_t_12 b_o_12 b_x_12 b_r_12
                clear hb
                have k_e := b_e_13.cell
                have l_e := b_e_13.lt
                have k_b := b_b_13.cell
                have l_b := b_b_13.lt
                have k_t := b_t_13.cell
                have l_t := b_t_13.lt
                have k_o := b_o_13.cell
                have l_o := b_o_13.lt
                have k_x := b_x_13.cell
                have l_x := b_x_13.lt
                have k_r := b_r_13.cell
                have l_r := b_r_13.lt
                go_wp2_with fail
                clear k_e l_e k_b l_b k_t l_t k_o l_o k_x l_x k_r l_r
                go_ret
                exact ⟨rfl, HB13.out⟩
          · simp only [Bool.not_eq_true] at hb1
            rw [hb1]
            have k_e := b_e_5.cell
            have l_e := b_e_5.lt
            have k_b := b_b_5.cell
            have l_b := b_b_5.lt
            go_wp2_with fail
            clear k_e l_e k_b l_b
            refine (awake12_any ((HB5.out.cell (p := ⟨0, 0, none⟩) h0).trans HM.out) (Nat.lt_of_lt_of_le h0 HB5.out.size)).mono ?_
            rintro x w6 ⟨rfl, hb⟩
            have b_e_6 := b_e_5.later hb
            have b_b_6 := b_b_5.later hb
            have HB6 := Lib.hid (bthen HB5.out hb)
            clear b_e_5 b_b_5
            clear hb
            have k_e := b_e_6.cell
            have l_e := b_e_6.lt
            have k_b := b_b_6.cell
            have l_b := b_b_6.lt
            go_wp2_with fail
            clear k_e l_e k_b l_b
            go_ret
            exact ⟨rfl, HB6.out⟩
        · have g30 : decide ((ops.length : Int) > 30) = true := by simp; omega
          have k_e := b_e_4.cell
          have l_e := b_e_4.lt
          have k_b := b_b_4.cell
          have l_b := b_b_4.lt
          go_wp2_with fail
          clear k_e l_e k_b l_b
          refine (awake12_any ((HB4.out.cell (p := ⟨0, 0, none⟩) h0).trans HM.out) (Nat.lt_of_lt_of_le h0 HB4.out.size)).mono ?_
          rintro x w5 ⟨rfl, hb⟩
          have b_e_5 := b_e_4.later hb
          have b_b_5 := b_b_4.later hb
          have HB5 := Lib.hid (bthen HB4.out hb)
          clear b_e_4 b_b_4
          clear hb
          have k_e := b_e_5.cell
          have l_e := b_e_5.lt
          have k_b := b_b_5.cell
          have l_b := b_b_5.lt
          go_wp2_with fail
          clear k_e l_e k_b l_b
          go_ret
          exact ⟨rfl, HB5.out⟩
      · simp only [Bool.not_eq_true] at hm1
        rw [hm1]
        have k_e := b_e_4.cell
        have l_e := b_e_4.lt
        have k_b := b_b_4.cell
        have l_b := b_b_4.lt
        go_wp2_with fail
        clear k_e l_e k_b l_b
        refine (awake12_any ((HB4.out.cell (p := ⟨0, 0, none⟩) h0).trans HM.out) (Nat.lt_of_lt_of_le h0 HB4.out.size)).mono ?_
        rintro x w5 ⟨rfl, hb⟩
        have b_e_5 := b_e_4.later hb
        have b_b_5 := b_b_4.later hb
        have HB5 := Lib.hid (bthen HB4.out hb)
        clear b_e_4 b_b_4
        clear hb
        have k_e := b_e_5.cell
        have l_e := b_e_5.lt
        have k_b := b_b_5.cell
        have l_b := b_b_5.lt
        go_wp2_with fail
        clear k_e l_e k_b l_b
        go_ret
        exact ⟨rfl, HB5.out⟩
end Go.Proofs.YtiplipdigabidaaGreat
