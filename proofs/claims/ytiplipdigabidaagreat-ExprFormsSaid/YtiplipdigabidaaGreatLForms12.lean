/- viaticumlaw12.ExprForms. -/
import Derived.Test.YtiplipdigabidaaGreatLight12
import Derived.Test.YtiplipdigabidaaGreatRefENames
import Derived.Test.YtiplipdigabidaaGreatRefHas
import Derived.Deep.RegionHeld3
import Derived.Deep.RegionWith
set_option linter.unusedVariables false
set_option linter.unusedSimpArgs false
namespace Go.Proofs.YtiplipdigabidaaGreat
open Go.ChangeShapes Go.WideShapes Go.ChangeAt Go.RowKit
theorem same_self' (a : Tm) : sameB a a = true := by unfold sameB; rw [(cmpT_ord 3).self a]; rfl
set_option maxRecDepth 100000 in
set_option maxHeartbeats 8000000 in
theorem exprForms_any {D B cn ct : Nat} {ops : List OpD} {evs : List Value} {b : Bd} {name : ByteArray} {An At : Option Addr} {w : World} {m : Int} (he : (ExR (D + 1)).rd w B ops evs) (hn : RL StrR w B (b.names.map mkS) An) (ht : RL (TmR (D + 1)) w B b.terms At) (hn1 : b.names.length * 8 ≤ 140737488351232) (ht1 : b.terms.length * 32 ≤ 140737488351232) (hB : B ≤ w.heap.size) (hm : w.cell? ⟨0, 0, none⟩ = some (.int .i64 m)) (h0 : 0 < w.heap.size) :
   Calls Tryz.prog 8 #[.agg evs.toArray, .agg (bdV An b.names.length cn At b.terms.length ct), .string name] w fun z w' => z = .returned (.bool true) ∧ Below w.heap.size w w' := by
 have HE := Lib.hid he
 have HN := Lib.hid hn
 have HT := Lib.hid ht
 have HM := Lib.hid hm
 have HN1 := Lib.hid hn1
 have HT1 := Lib.hid ht1
 obtain ⟨_, rfl, Ao, co, rfl, hc1, hc2, hl⟩ := he
 simp only [OpR] at hc2
 clear hl hn ht hm hn1 ht1
 unfold bdV
 go_enter Tryz.func8, Tryz.ntmps8
 go_wp2_with fail
 generalize hW : World.alloc _ _ = w1
 obtain ⟨hb, hz⟩ := al2 hW
 have b_e_1 := n21 hW
 have b_b_1 := n22 hW
 have HB1 := Lib.hid hb
 clear hW hz hb
 refine (light12_any (vs := [_]) ((ExR (D + 1)).keep HB1.out hB HE.out) (Nat.le_trans hB HB1.out.size)).mono ?_
 rintro x w2 ⟨⟨q1, rfl⟩, hb⟩
 have b_e_2 := b_e_1.later hb
 have b_b_2 := b_b_1.later hb
 have HB2 := Lib.hid (bthen HB1.out hb)
 clear b_e_1 b_b_1
 clear hb
 cases q1
 · have k_e := b_e_2.cell
   have k_b := b_b_2.cell
   go_wp2_with fail
   clear k_e k_b
   refine (awake12_any ((HB2.out.cell (p := ⟨0, 0, none⟩) h0).trans HM.out) (Nat.lt_of_lt_of_le h0 HB2.out.size)).mono ?_
   rintro x w3 ⟨rfl, hb⟩
   have b_e_3 := b_e_2.later hb
   have b_b_3 := b_b_2.later hb
   have HB3 := Lib.hid (bthen HB2.out hb)
   clear b_e_2 b_b_2
   clear hb
   have k_e := b_e_3.cell
   have k_b := b_b_3.cell
   go_wp2_with fail
   clear k_e k_b
   go_ret
   exact ⟨rfl, HB3.out⟩
 · have k_e := b_e_2.cell
   have k_b := b_b_2.cell
   go_wp2_with fail
   clear k_e k_b
   refine (lightBind_any (cn := cn) (ct := ct) (d := D + 1) HN1.out (HT.out.keep HB2.out hB) HT1.out (Nat.le_trans hB HB2.out.size)).mono ?_
   rintro x w3 ⟨⟨q2, rfl⟩, hb⟩
   have b_e_3 := b_e_2.later hb
   have b_b_3 := b_b_2.later hb
   have HB3 := Lib.hid (bthen HB2.out hb)
   clear b_e_2 b_b_2
   clear hb
   cases q2
   · have k_e := b_e_3.cell
     have k_b := b_b_3.cell
     go_wp2_with fail
     clear k_e k_b
     refine (awake12_any ((HB3.out.cell (p := ⟨0, 0, none⟩) h0).trans HM.out) (Nat.lt_of_lt_of_le h0 HB3.out.size)).mono ?_
     rintro x w4 ⟨rfl, hb⟩
     have b_e_4 := b_e_3.later hb
     have b_b_4 := b_b_3.later hb
     have HB4 := Lib.hid (bthen HB3.out hb)
     clear b_e_3 b_b_3
     clear hb
     have k_e := b_e_4.cell
     have k_b := b_b_4.cell
     go_wp2_with fail
     clear k_e k_b
     go_ret
     exact ⟨rfl, HB4.out⟩
   · obtain ⟨q, hq⟩ : ∃ x, (if bindB b = true then lookR b (bs name) else none) = x := ⟨_, rfl⟩
     have HQ_ := Lib.hid hq
     clear hq
     have k_e := b_e_3.cell
     have k_b := b_b_3.cell
     go_wp2_with fail
     clear k_e k_b
     refine (eval_any (evs := [_]) (D := D) (cn := cn) (ct := ct) ((ExR (D + 1)).keep HB3.out hB HE.out) (HN.out.keep HB3.out hB) (HT.out.keep HB3.out hB) (Nat.le_trans hB HB3.out.size) ((HB3.out.cell (p := ⟨0, 0, none⟩) h0).trans HM.out) (Nat.lt_of_lt_of_le h0 HB3.out.size)).mono ?_
     intro z w4 hz
     have hz : ReadE D w3 w4 (evalE b ops) z := hz
     obtain ⟨⟨A9x, c9x, rfl, hrd⟩, hb⟩ := hz
     have b_e_4 := b_e_3.later hb
     have b_b_4 := b_b_3.later hb
     have HB4 := Lib.hid (bthen HB3.out hb)
     clear b_e_3 b_b_3
     have HRDx := Lib.hid hrd
     clear hrd hb
     have HQx4 := Lib.hid (Below.refl w4.heap.size w4)
     have k_e := b_e_4.cell
     have k_b := b_b_4.cell
     go_upto_region 4 with fail
     clear k_e k_b
     generalize hW : World.alloc _ _ = w5
     obtain ⟨hb, hz⟩ := al1 hW
     have b_x_5 := n11 hW
     have b_e_5 := b_e_4.later hb
     have b_b_5 := b_b_4.later hb
     have HB5 := Lib.hid (bthen HB4.out hb)
     have HQx5 := Lib.hid hb
     clear b_e_4 b_b_4
     clear hW hz hb
     have k_e := b_e_5.cell
     have k_b := b_b_5.cell
     have k_x := b_x_5.cell
     go_wp2_with fail
     clear k_e k_b k_x
     refine (refEval_any (evs := [_]) (D := D) (cn := cn) (ct := ct) ((ExR (D + 1)).keep HB5.out hB HE.out) (HN.out.keep HB5.out hB) (HT.out.keep HB5.out hB) HN1.out (Nat.le_trans hB HB5.out.size) ((HB5.out.cell (p := ⟨0, 0, none⟩) h0).trans HM.out) (Nat.lt_of_lt_of_le h0 HB5.out.size)).mono ?_
     intro z w6 hz
     have hz : ReadE D w5 w6 (evalE b ops) z := hz
     obtain ⟨⟨A9y, c9y, rfl, hrd⟩, hb⟩ := hz
     have b_e_6 := b_e_5.later hb
     have b_b_6 := b_b_5.later hb
     have b_x_6 := b_x_5.later hb
     have HB6 := Lib.hid (bthen HB5.out hb)
     have HQx6 := Lib.hid (bthen HQx5.out hb)
     clear b_e_5 b_b_5 b_x_5
     have HRDy := Lib.hid hrd
     clear hrd hb
     have HQy6 := Lib.hid (Below.refl w6.heap.size w6)
     have k_e := b_e_6.cell
     have k_b := b_b_6.cell
     have k_x := b_x_6.cell
     go_upto_region 5 with fail
     clear k_e k_b k_x
     generalize hW : World.alloc _ _ = w7
     obtain ⟨hb, hz⟩ := al1 hW
     have b_y_7 := n11 hW
     have b_e_7 := b_e_6.later hb
     have b_b_7 := b_b_6.later hb
     have b_x_7 := b_x_6.later hb
     have HB7 := Lib.hid (bthen HB6.out hb)
     have HQx7 := Lib.hid (bthen HQx6.out hb)
     have HQy7 := Lib.hid hb
     clear b_e_6 b_b_6 b_x_6
     clear hW hz hb
     have k_e := b_e_7.cell
     have k_b := b_b_7.cell
     have k_x := b_x_7.cell
     have k_y := b_y_7.cell
     go_wp2_with fail
     clear k_e k_b k_x k_y
     refine (true_any (evs := [_]) (D := D) (cn := cn) (ct := ct) ((ExR (D + 1)).keep HB7.out hB HE.out) (HN.out.keep HB7.out hB) (HT.out.keep HB7.out hB) (Nat.le_trans hB HB7.out.size) ((HB7.out.cell (p := ⟨0, 0, none⟩) h0).trans HM.out) (Nat.lt_of_lt_of_le h0 HB7.out.size)).mono ?_
     rintro x w8 ⟨rfl, hb⟩
     have b_e_8 := b_e_7.later hb
     have b_b_8 := b_b_7.later hb
     have b_x_8 := b_x_7.later hb
     have b_y_8 := b_y_7.later hb
     have HB8 := Lib.hid (bthen HB7.out hb)
     have HQx8 := Lib.hid (bthen HQx7.out hb)
     have HQy8 := Lib.hid (bthen HQy7.out hb)
     clear b_e_7 b_b_7 b_x_7 b_y_7
     clear hb
     have k_e := b_e_8.cell
     have k_b := b_b_8.cell
     have k_x := b_x_8.cell
     have k_y := b_y_8.cell
     go_wp2_with fail
     clear k_e k_b k_x k_y
     refine (refTrue_any (evs := [_]) (D := D) (cn := cn) (ct := ct) ((ExR (D + 1)).keep HB8.out hB HE.out) (HN.out.keep HB8.out hB) (HT.out.keep HB8.out hB) HN1.out (Nat.le_trans hB HB8.out.size) ((HB8.out.cell (p := ⟨0, 0, none⟩) h0).trans HM.out) (Nat.lt_of_lt_of_le h0 HB8.out.size)).mono ?_
     rintro x w9 ⟨rfl, hb⟩
     have b_e_9 := b_e_8.later hb
     have b_b_9 := b_b_8.later hb
     have b_x_9 := b_x_8.later hb
     have b_y_9 := b_y_8.later hb
     have HB9 := Lib.hid (bthen HB8.out hb)
     have HQx9 := Lib.hid (bthen HQx8.out hb)
     have HQy9 := Lib.hid (bthen HQy8.out hb)
     clear b_e_8 b_b_8 b_x_8 b_y_8
     clear hb
     have k_e := b_e_9.cell
     have k_b := b_b_9.cell
     have k_x := b_x_9.cell
     have k_y := b_y_9.cell
     go_wp2_with fail
     clear k_e k_b k_x k_y
     have hc_ := look_any (d := D) (cn := cn) (ct := ct) (name := name) (HN.out.keep HB9.out hB) (HT.out.keep HB9.out hB) (Nat.le_trans hB HB9.out.size)
     rw [HQ_.out] at hc_
     refine hc_.mono ?_
     clear hc_
     intro z w10 hz
     obtain ⟨⟨A9u, c9u, rfl, hrd⟩, hb⟩ := hz
     have b_e_10 := b_e_9.later hb
     have b_b_10 := b_b_9.later hb
     have b_x_10 := b_x_9.later hb
     have b_y_10 := b_y_9.later hb
     have HB10 := Lib.hid (bthen HB9.out hb)
     have HQx10 := Lib.hid (bthen HQx9.out hb)
     have HQy10 := Lib.hid (bthen HQy9.out hb)
     clear b_e_9 b_b_9 b_x_9 b_y_9
     have HRDu := Lib.hid hrd.rtm
     clear hrd hb
     have HQu10 := Lib.hid (Below.refl w10.heap.size w10)
     have k_e := b_e_10.cell
     have k_b := b_b_10.cell
     have k_x := b_x_10.cell
     have k_y := b_y_10.cell
     go_upto_region 8 with fail
     clear k_e k_b k_x k_y
     generalize hW : World.alloc _ _ = w11
     obtain ⟨hb, hz⟩ := al1 hW
     have b_u_11 := n11 hW
     have b_e_11 := b_e_10.later hb
     have b_b_11 := b_b_10.later hb
     have b_x_11 := b_x_10.later hb
     have b_y_11 := b_y_10.later hb
     have HB11 := Lib.hid (bthen HB10.out hb)
     have HQx11 := Lib.hid (bthen HQx10.out hb)
     have HQy11 := Lib.hid (bthen HQy10.out hb)
     have HQu11 := Lib.hid hb
     clear b_e_10 b_b_10 b_x_10 b_y_10
     clear hW hz hb
     have k_e := b_e_11.cell
     have k_b := b_b_11.cell
     have k_x := b_x_11.cell
     have k_y := b_y_11.cell
     have k_u := b_u_11.cell
     go_wp2_with fail
     clear k_e k_b k_x k_y k_u
     have hc_ := refLook_any (d := D) (cn := cn) (ct := ct) (name := name) (HN.out.keep HB11.out hB) (HT.out.keep HB11.out hB) (Nat.le_trans hB HB11.out.size) HN1.out
     rw [HQ_.out] at hc_
     refine hc_.mono ?_
     clear hc_
     intro z w12 hz
     obtain ⟨⟨A9v, c9v, rfl, hrd⟩, hb⟩ := hz
     have b_e_12 := b_e_11.later hb
     have b_b_12 := b_b_11.later hb
     have b_x_12 := b_x_11.later hb
     have b_y_12 := b_y_11.later hb
     have b_u_12 := b_u_11.later hb
     have HB12 := Lib.hid (bthen HB11.out hb)
     have HQx12 := Lib.hid (bthen HQx11.out hb)
     have HQy12 := Lib.hid (bthen HQy11.out hb)
     have HQu12 := Lib.hid (bthen HQu11.out hb)
     clear b_e_11 b_b_11 b_x_11 b_y_11 b_u_11
     have HRDv := Lib.hid hrd.rtm
     clear hrd hb
     have HQv12 := Lib.hid (Below.refl w12.heap.size w12)
     have k_e := b_e_12.cell
     have k_b := b_b_12.cell
     have k_x := b_x_12.cell
     have k_y := b_y_12.cell
     have k_u := b_u_12.cell
     go_upto_region 9 with fail
     clear k_e k_b k_x k_y k_u
     generalize hW : World.alloc _ _ = w13
     obtain ⟨hb, hz⟩ := al1 hW
     have b_v_13 := n11 hW
     have b_e_13 := b_e_12.later hb
     have b_b_13 := b_b_12.later hb
     have b_x_13 := b_x_12.later hb
     have b_y_13 := b_y_12.later hb
     have b_u_13 := b_u_12.later hb
     have HB13 := Lib.hid (bthen HB12.out hb)
     have HQx13 := Lib.hid (bthen HQx12.out hb)
     have HQy13 := Lib.hid (bthen HQy12.out hb)
     have HQu13 := Lib.hid (bthen HQu12.out hb)
     have HQv13 := Lib.hid hb
     clear b_e_12 b_b_12 b_x_12 b_y_12 b_u_12
     clear hW hz hb
     have HSZ := Lib.hid HB13.out.size
     have hbw := (Nat.le_trans hB HB13.out.size)
     have HR0 : Hid (∀ (mb bb : Bool), True) := Lib.hid (fun _ _ => trivial)
     clear HQ_
     have HCE : Hid (∀ wq, Below w13.heap.size w13 wq → (ExR (D + 1)).rd wq B ops [.slice Ao ops.length co]) := Lib.hid (fun wq hb => (ExR (D + 1)).keep hb hbw ((ExR (D + 1)).keep HB13.out hB HE.out))
     have HCN : Hid (∀ wq, Below w13.heap.size w13 wq → RL StrR wq B (b.names.map mkS) An) := Lib.hid (fun wq hb => (HN.out.keep HB13.out hB).keep hb hbw)
     have HCT : Hid (∀ wq, Below w13.heap.size w13 wq → RL (TmR (D + 1)) wq B b.terms At) := Lib.hid (fun wq hb => (HT.out.keep HB13.out hB).keep hb hbw)
     have HCM : Hid (∀ wq, Below w13.heap.size w13 wq → wq.cell? ⟨0, 0, none⟩ = some (.int .i64 m) ∧ 0 < wq.heap.size ∧ B ≤ wq.heap.size) := Lib.hid (fun wq hb => ⟨(hb.cell (p := ⟨0, 0, none⟩) (Nat.lt_of_lt_of_le h0 HB13.out.size)).trans ((HB13.out.cell (p := ⟨0, 0, none⟩) h0).trans HM.out), Nat.lt_of_lt_of_le (Nat.lt_of_lt_of_le h0 HB13.out.size) hb.size, Nat.le_trans hbw hb.size⟩)
     have HNS : Hid ((∀ l ∈ namesE ops, l.length ≤ 140737488351232) ∧ (namesE ops).length ≤ 1000000) := Lib.hid ⟨names_sizes HE.out, by
       have : (namesE ops).length ≤ 32 := by
         by_cases h32 : ops.length ≤ 32
         · exact namesE_len h32
         · unfold namesE mayExprB
           rw [decide_eq_false h32]
           simp
       omega⟩
     have C1 : Hid (∀ wq, Below w13.heap.size w13 wq → Calls Tryz.prog 11 #[.agg #[.slice Ao ops.length co]] wq fun e w' => e = .returned (.bool (mayExprB ops)) ∧ Below wq.heap.size wq w') := Lib.hid (fun wq hb => mayExpr_any (vs := [_]) (HCE.out wq hb) (HCM.out wq hb).2.2)
     have C2 : Hid (∀ wq, Below w13.heap.size w13 wq → Calls Tryz.prog 25 #[.agg #[.slice Ao ops.length co]] wq fun e w' => e = .returned (.bool (mayExprB ops)) ∧ Below wq.heap.size wq w') := Lib.hid (fun wq hb => refMayExpr_any (vs := [_]) (HCE.out wq hb) (HCM.out wq hb).2.2)
     have C3 : Hid (∀ wq, Below w13.heap.size w13 wq → Calls Tryz.prog 12 #[.agg #[.slice An b.names.length cn, .slice At b.terms.length ct]] wq fun e w' => e = .returned (.bool (bindB b)) ∧ Below wq.heap.size wq w') := Lib.hid (fun wq hb => maybind_any (d := D) (HCN.out wq hb) (HCT.out wq hb) (HCM.out wq hb).2.2)
     have C4 : Hid (∀ wq, Below w13.heap.size w13 wq → Calls Tryz.prog 26 #[.agg #[.slice An b.names.length cn, .slice At b.terms.length ct]] wq fun e w' => e = .returned (.bool (bindB b)) ∧ Below wq.heap.size wq w') := Lib.hid (fun wq hb => refMayBind_any (d := D) (HCN.out wq hb) (HCT.out wq hb) (HCM.out wq hb).2.2)
     have C7 : Hid (∀ wq, Below w13.heap.size w13 wq → Calls Tryz.prog 19 #[.agg #[.slice Ao ops.length co]] wq fun e w' => (∃ A c, e = .returned (.slice A (namesE ops).length c) ∧ RL StrR w' w'.heap.size ((namesE ops).map mkS) A) ∧ Below wq.heap.size wq w') := Lib.hid (fun wq hb => (exprNames_any (vs := [_]) (HCE.out wq hb) (HCM.out wq hb).2.2).mono fun e w' ⟨v, h1, h2, h3⟩ => by
       obtain ⟨A, c, rfl, _, h4⟩ := h2.reads HNS.out.1 HNS.out.2
       exact ⟨⟨A, c, h1, h4⟩, h3⟩)
     have C8 : Hid (∀ wq, Below w13.heap.size w13 wq → Calls Tryz.prog 28 #[.agg #[.slice Ao ops.length co]] wq fun e w' => (∃ A c, e = .returned (.slice A (namesE ops).length c) ∧ RL StrR w' w'.heap.size ((namesE ops).map mkS) A) ∧ Below wq.heap.size wq w') := Lib.hid (fun wq hb => (refExprNames_any (vs := [_]) (HCE.out wq hb) (HCM.out wq hb).2.2).mono fun e w' ⟨⟨v, h1, A, c, h2, _, _, h4⟩, h3⟩ => by
       subst h2
       exact ⟨⟨A, c, h1, h4⟩, h3⟩)
     have C0 : Hid (∀ wq, Below w13.heap.size w13 wq → Calls Tryz.prog 13 #[] wq fun e w' => e = .returned (.bool true) ∧ Below wq.heap.size wq w') := Lib.hid (fun wq hb => awake12_any (HCM.out wq hb).1 (HCM.out wq hb).2.1)
     have C5 : Hid (∀ wq, Below w13.heap.size w13 wq → Calls Tryz.prog 15 #[.agg #[.int .i64 (evalE b ops).1.kind, .int .i64 (evalE b ops).1.n, .string (evalE b ops).1.s, .slice A9x (evalE b ops).1.l.length c9x], .agg #[.int .i64 (evalE b ops).1.kind, .int .i64 (evalE b ops).1.n, .string (evalE b ops).1.s, .slice A9y (evalE b ops).1.l.length c9y]] wq fun e w' => e = .returned (.bool true) ∧ Below wq.heap.size wq w') := Lib.hid (fun wq hb => by
       have h1 := ((HRDx.out.below HQx13.out (Nat.le_refl _)).more HQx13.out.size)
       have h2 := ((HRDy.out.below HQy13.out (Nat.le_refl _)).more HQy13.out.size)
       have h3 := refSame_any (vs := [_, _, _, _]) (ws := [_, _, _, _]) (h1.below hb (Nat.le_refl _)) (h2.below hb (Nat.le_refl _)) hb.size
       rw [same_self'] at h3
       exact h3)
     have C6 : Hid (∀ wq, Below w13.heap.size w13 wq → Calls Tryz.prog 15 #[.agg #[.int .i64 (q.getD noT).kind, .int .i64 (q.getD noT).n, .string (q.getD noT).s, .slice A9u (q.getD noT).l.length c9u], .agg #[.int .i64 (q.getD noT).kind, .int .i64 (q.getD noT).n, .string (q.getD noT).s, .slice A9v (q.getD noT).l.length c9v]] wq fun e w' => e = .returned (.bool true) ∧ Below wq.heap.size wq w') := Lib.hid (fun wq hb => by
       have h1 := ((HRDu.out.below HQu13.out (Nat.le_refl _)).more HQu13.out.size)
       have h2 := ((HRDv.out.below HQv13.out (Nat.le_refl _)).more HQv13.out.size)
       have h3 := refSame_any (vs := [_, _, _, _]) (ws := [_, _, _, _]) (h1.below hb (Nat.le_refl _)) (h2.below hb (Nat.le_refl _)) hb.size
       rw [same_self'] at h3
       exact h3)
     have C9 : Hid (∀ wq A A' c c', RL StrR wq wq.heap.size ((namesE ops).map mkS) A → RL StrR wq wq.heap.size ((namesE ops).map mkS) A' → Calls Tryz.prog 27 #[.slice A (namesE ops).length c, .slice A' (namesE ops).length c'] wq fun e w' => e = .returned (.bool true) ∧ Below wq.heap.size wq w') := Lib.hid (fun wq A A' c c' h1 h2 => sameTexts_any h1 h2 (Nat.le_refl _) HNS.out.2)
     clear HRDx HRDy HRDu HRDv HNS HCE HCN HCT HCM HR0
     generalize evalE b ops = r at *
     generalize mayExprB ops = mb at *
     generalize bindB b = bb at *
     generalize (namesE ops).length = nl at *
     generalize (namesE ops).map mkS = nL at *
     generalize (trueT r).1 = tb at *
     generalize (trueT r).2 = te at *
     generalize q.isSome = qs at *
     have g1 : (mb == mb) = true := by simp
     have g2 : (bb == bb) = true := by simp
     have g3 : (r.2 == r.2) = true := by simp
     have g4 : (tb == tb) = true := by simp
     have g5 : (te == te) = true := by simp
     have g6 : (qs == qs) = true := by simp
     have k_e := b_e_13.cell
     have l_e := b_e_13.lt
     have k_b := b_b_13.cell
     have l_b := b_b_13.lt
     have k_x := b_x_13.cell
     have l_x := b_x_13.lt
     have k_y := b_y_13.cell
     have l_y := b_y_13.lt
     have k_u := b_u_13.cell
     have l_u := b_u_13.lt
     have k_v := b_v_13.cell
     have l_v := b_v_13.lt
     have HSL : Hid (∀ {w' : World}, Below w13.heap.size w13 w' → (w'.cell? ⟨w.heap.size, 0, none⟩ = some (.slice Ao ops.length co) ∧ w'.cell? ⟨w.heap.size + 1, 0, none⟩ = some (.slice An b.names.length cn) ∧ w'.cell? ⟨w.heap.size + 1, 1, none⟩ = some (.slice At b.terms.length ct) ∧ w'.cell? ⟨w4.heap.size, 0, none⟩ = some (.int .i64 r.1.kind) ∧ w'.cell? ⟨w4.heap.size, 1, none⟩ = some (.int .i64 r.1.n) ∧ w'.cell? ⟨w4.heap.size, 2, none⟩ = some (.string r.1.s) ∧ w'.cell? ⟨w4.heap.size, 3, none⟩ = some (.slice A9x r.1.l.length c9x) ∧ w'.cell? ⟨w6.heap.size, 0, none⟩ = some (.int .i64 r.1.kind) ∧ w'.cell? ⟨w6.heap.size, 1, none⟩ = some (.int .i64 r.1.n) ∧ w'.cell? ⟨w6.heap.size, 2, none⟩ = some (.string r.1.s) ∧ w'.cell? ⟨w6.heap.size, 3, none⟩ = some (.slice A9y r.1.l.length c9y) ∧ w'.cell? ⟨w10.heap.size, 0, none⟩ = some (.int .i64 (q.getD noT).kind) ∧ w'.cell? ⟨w10.heap.size, 1, none⟩ = some (.int .i64 (q.getD noT).n) ∧ w'.cell? ⟨w10.heap.size, 2, none⟩ = some (.string (q.getD noT).s) ∧ w'.cell? ⟨w10.heap.size, 3, none⟩ = some (.slice A9u (q.getD noT).l.length c9u) ∧ w'.cell? ⟨w12.heap.size, 0, none⟩ = some (.int .i64 (q.getD noT).kind) ∧ w'.cell? ⟨w12.heap.size, 1, none⟩ = some (.int .i64 (q.getD noT).n) ∧ w'.cell? ⟨w12.heap.size, 2, none⟩ = some (.string (q.getD noT).s) ∧ w'.cell? ⟨w12.heap.size, 3, none⟩ = some (.slice A9v (q.getD noT).l.length c9v))) := Lib.hid (fun hb => ⟨(hb.cell (p := ⟨w.heap.size, 0, none⟩) l_e).trans (k_e 0), (hb.cell (p := ⟨w.heap.size + 1, 0, none⟩) l_b).trans (k_b 0), (hb.cell (p := ⟨w.heap.size + 1, 1, none⟩) l_b).trans (k_b 1), (hb.cell (p := ⟨w4.heap.size, 0, none⟩) l_x).trans (k_x 0), (hb.cell (p := ⟨w4.heap.size, 1, none⟩) l_x).trans (k_x 1), (hb.cell (p := ⟨w4.heap.size, 2, none⟩) l_x).trans (k_x 2), (hb.cell (p := ⟨w4.heap.size, 3, none⟩) l_x).trans (k_x 3), (hb.cell (p := ⟨w6.heap.size, 0, none⟩) l_y).trans (k_y 0), (hb.cell (p := ⟨w6.heap.size, 1, none⟩) l_y).trans (k_y 1), (hb.cell (p := ⟨w6.heap.size, 2, none⟩) l_y).trans (k_y 2), (hb.cell (p := ⟨w6.heap.size, 3, none⟩) l_y).trans (k_y 3), (hb.cell (p := ⟨w10.heap.size, 0, none⟩) l_u).trans (k_u 0), (hb.cell (p := ⟨w10.heap.size, 1, none⟩) l_u).trans (k_u 1), (hb.cell (p := ⟨w10.heap.size, 2, none⟩) l_u).trans (k_u 2), (hb.cell (p := ⟨w10.heap.size, 3, none⟩) l_u).trans (k_u 3), (hb.cell (p := ⟨w12.heap.size, 0, none⟩) l_v).trans (k_v 0), (hb.cell (p := ⟨w12.heap.size, 1, none⟩) l_v).trans (k_v 1), (hb.cell (p := ⟨w12.heap.size, 2, none⟩) l_v).trans (k_v 2), (hb.cell (p := ⟨w12.heap.size, 3, none⟩) l_v).trans (k_v 3)⟩)
     clear k_e l_e k_b l_b k_x l_x k_y l_y k_u l_u k_v l_v
     go_region_held3 (fun w' => w'.cell? ⟨w.heap.size, 0, none⟩ = some (.slice Ao ops.length co) ∧ w'.cell? ⟨w.heap.size + 1, 0, none⟩ = some (.slice An b.names.length cn) ∧ w'.cell? ⟨w.heap.size + 1, 1, none⟩ = some (.slice At b.terms.length ct) ∧ w'.cell? ⟨w4.heap.size, 0, none⟩ = some (.int .i64 r.1.kind) ∧ w'.cell? ⟨w4.heap.size, 1, none⟩ = some (.int .i64 r.1.n) ∧ w'.cell? ⟨w4.heap.size, 2, none⟩ = some (.string r.1.s) ∧ w'.cell? ⟨w4.heap.size, 3, none⟩ = some (.slice A9x r.1.l.length c9x) ∧ w'.cell? ⟨w6.heap.size, 0, none⟩ = some (.int .i64 r.1.kind) ∧ w'.cell? ⟨w6.heap.size, 1, none⟩ = some (.int .i64 r.1.n) ∧ w'.cell? ⟨w6.heap.size, 2, none⟩ = some (.string r.1.s) ∧ w'.cell? ⟨w6.heap.size, 3, none⟩ = some (.slice A9y r.1.l.length c9y) ∧ w'.cell? ⟨w10.heap.size, 0, none⟩ = some (.int .i64 (q.getD noT).kind) ∧ w'.cell? ⟨w10.heap.size, 1, none⟩ = some (.int .i64 (q.getD noT).n) ∧ w'.cell? ⟨w10.heap.size, 2, none⟩ = some (.string (q.getD noT).s) ∧ w'.cell? ⟨w10.heap.size, 3, none⟩ = some (.slice A9u (q.getD noT).l.length c9u) ∧ w'.cell? ⟨w12.heap.size, 0, none⟩ = some (.int .i64 (q.getD noT).kind) ∧ w'.cell? ⟨w12.heap.size, 1, none⟩ = some (.int .i64 (q.getD noT).n) ∧ w'.cell? ⟨w12.heap.size, 2, none⟩ = some (.string (q.getD noT).s) ∧ w'.cell? ⟨w12.heap.size, 3, none⟩ = some (.slice A9v (q.getD noT).l.length c9v)) (exact HSL.out (by repeat' (first | (with_reducible exact Below.refl _ _) | (with_reducible exact HBc9.out) | (with_reducible exact HBc8.out) | (with_reducible exact HBc7.out) | (with_reducible exact HBc6.out) | (with_reducible exact HBc5.out) | (with_reducible exact HBc4.out) | (with_reducible exact HBc3.out) | (with_reducible exact HBc2.out) | (with_reducible exact HBc1.out) | (with_reducible exact HBc0.out) | (with_reducible refine Below.drew ?_)))) (first
         | (go_at_call 11
            refine (C1.out _ (by repeat' (first | (with_reducible exact Below.refl _ _) | (with_reducible exact HBc9.out) | (with_reducible exact HBc8.out) | (with_reducible exact HBc7.out) | (with_reducible exact HBc6.out) | (with_reducible exact HBc5.out) | (with_reducible exact HBc4.out) | (with_reducible exact HBc3.out) | (with_reducible exact HBc2.out) | (with_reducible exact HBc1.out) | (with_reducible exact HBc0.out) | (with_reducible refine Below.drew ?_)))).mono ?_
            rintro e u1 ⟨rfl, hb⟩
            have hbc1 := Lib.hid hb
            have HBc1 : Hid (Below w13.heap.size w13 u1) := Lib.hid (Below.trans (by repeat' (first | (with_reducible exact Below.refl _ _) | (with_reducible exact HBc9.out) | (with_reducible exact HBc8.out) | (with_reducible exact HBc7.out) | (with_reducible exact HBc6.out) | (with_reducible exact HBc5.out) | (with_reducible exact HBc4.out) | (with_reducible exact HBc3.out) | (with_reducible exact HBc2.out) | (with_reducible exact HBc1.out) | (with_reducible exact HBc0.out) | (with_reducible refine Below.drew ?_))) (hb.mono (Below.size (B := w13.heap.size) (by repeat' (first | (with_reducible exact Below.refl _ _) | (with_reducible exact HBc9.out) | (with_reducible exact HBc8.out) | (with_reducible exact HBc7.out) | (with_reducible exact HBc6.out) | (with_reducible exact HBc5.out) | (with_reducible exact HBc4.out) | (with_reducible exact HBc3.out) | (with_reducible exact HBc2.out) | (with_reducible exact HBc1.out) | (with_reducible exact HBc0.out) | (with_reducible refine Below.drew ?_))))))
            clear hb)
         | (go_at_call 25
            refine (C2.out _ (by repeat' (first | (with_reducible exact Below.refl _ _) | (with_reducible exact HBc9.out) | (with_reducible exact HBc8.out) | (with_reducible exact HBc7.out) | (with_reducible exact HBc6.out) | (with_reducible exact HBc5.out) | (with_reducible exact HBc4.out) | (with_reducible exact HBc3.out) | (with_reducible exact HBc2.out) | (with_reducible exact HBc1.out) | (with_reducible exact HBc0.out) | (with_reducible refine Below.drew ?_)))).mono ?_
            rintro e u2 ⟨rfl, hb⟩
            have hbc2 := Lib.hid hb
            have HBc2 : Hid (Below w13.heap.size w13 u2) := Lib.hid (Below.trans (by repeat' (first | (with_reducible exact Below.refl _ _) | (with_reducible exact HBc9.out) | (with_reducible exact HBc8.out) | (with_reducible exact HBc7.out) | (with_reducible exact HBc6.out) | (with_reducible exact HBc5.out) | (with_reducible exact HBc4.out) | (with_reducible exact HBc3.out) | (with_reducible exact HBc2.out) | (with_reducible exact HBc1.out) | (with_reducible exact HBc0.out) | (with_reducible refine Below.drew ?_))) (hb.mono (Below.size (B := w13.heap.size) (by repeat' (first | (with_reducible exact Below.refl _ _) | (with_reducible exact HBc9.out) | (with_reducible exact HBc8.out) | (with_reducible exact HBc7.out) | (with_reducible exact HBc6.out) | (with_reducible exact HBc5.out) | (with_reducible exact HBc4.out) | (with_reducible exact HBc3.out) | (with_reducible exact HBc2.out) | (with_reducible exact HBc1.out) | (with_reducible exact HBc0.out) | (with_reducible refine Below.drew ?_))))))
            clear hb)
         | (go_at_call 12
            refine (C3.out _ (by repeat' (first | (with_reducible exact Below.refl _ _) | (with_reducible exact HBc9.out) | (with_reducible exact HBc8.out) | (with_reducible exact HBc7.out) | (with_reducible exact HBc6.out) | (with_reducible exact HBc5.out) | (with_reducible exact HBc4.out) | (with_reducible exact HBc3.out) | (with_reducible exact HBc2.out) | (with_reducible exact HBc1.out) | (with_reducible exact HBc0.out) | (with_reducible refine Below.drew ?_)))).mono ?_
            rintro e u3 ⟨rfl, hb⟩
            have hbc3 := Lib.hid hb
            have HBc3 : Hid (Below w13.heap.size w13 u3) := Lib.hid (Below.trans (by repeat' (first | (with_reducible exact Below.refl _ _) | (with_reducible exact HBc9.out) | (with_reducible exact HBc8.out) | (with_reducible exact HBc7.out) | (with_reducible exact HBc6.out) | (with_reducible exact HBc5.out) | (with_reducible exact HBc4.out) | (with_reducible exact HBc3.out) | (with_reducible exact HBc2.out) | (with_reducible exact HBc1.out) | (with_reducible exact HBc0.out) | (with_reducible refine Below.drew ?_))) (hb.mono (Below.size (B := w13.heap.size) (by repeat' (first | (with_reducible exact Below.refl _ _) | (with_reducible exact HBc9.out) | (with_reducible exact HBc8.out) | (with_reducible exact HBc7.out) | (with_reducible exact HBc6.out) | (with_reducible exact HBc5.out) | (with_reducible exact HBc4.out) | (with_reducible exact HBc3.out) | (with_reducible exact HBc2.out) | (with_reducible exact HBc1.out) | (with_reducible exact HBc0.out) | (with_reducible refine Below.drew ?_))))))
            clear hb)
         | (go_at_call 26
            refine (C4.out _ (by repeat' (first | (with_reducible exact Below.refl _ _) | (with_reducible exact HBc9.out) | (with_reducible exact HBc8.out) | (with_reducible exact HBc7.out) | (with_reducible exact HBc6.out) | (with_reducible exact HBc5.out) | (with_reducible exact HBc4.out) | (with_reducible exact HBc3.out) | (with_reducible exact HBc2.out) | (with_reducible exact HBc1.out) | (with_reducible exact HBc0.out) | (with_reducible refine Below.drew ?_)))).mono ?_
            rintro e u4 ⟨rfl, hb⟩
            have hbc4 := Lib.hid hb
            have HBc4 : Hid (Below w13.heap.size w13 u4) := Lib.hid (Below.trans (by repeat' (first | (with_reducible exact Below.refl _ _) | (with_reducible exact HBc9.out) | (with_reducible exact HBc8.out) | (with_reducible exact HBc7.out) | (with_reducible exact HBc6.out) | (with_reducible exact HBc5.out) | (with_reducible exact HBc4.out) | (with_reducible exact HBc3.out) | (with_reducible exact HBc2.out) | (with_reducible exact HBc1.out) | (with_reducible exact HBc0.out) | (with_reducible refine Below.drew ?_))) (hb.mono (Below.size (B := w13.heap.size) (by repeat' (first | (with_reducible exact Below.refl _ _) | (with_reducible exact HBc9.out) | (with_reducible exact HBc8.out) | (with_reducible exact HBc7.out) | (with_reducible exact HBc6.out) | (with_reducible exact HBc5.out) | (with_reducible exact HBc4.out) | (with_reducible exact HBc3.out) | (with_reducible exact HBc2.out) | (with_reducible exact HBc1.out) | (with_reducible exact HBc0.out) | (with_reducible refine Below.drew ?_))))))
            clear hb)
         | (go_at_call_of 15 (Value.agg #[Value.int .i64 r.1.kind, Value.int .i64 r.1.n, Value.string r.1.s, Value.slice A9x r.1.l.length c9x])
            refine (C5.out _ (by repeat' (first | (with_reducible exact Below.refl _ _) | (with_reducible exact HBc9.out) | (with_reducible exact HBc8.out) | (with_reducible exact HBc7.out) | (with_reducible exact HBc6.out) | (with_reducible exact HBc5.out) | (with_reducible exact HBc4.out) | (with_reducible exact HBc3.out) | (with_reducible exact HBc2.out) | (with_reducible exact HBc1.out) | (with_reducible exact HBc0.out) | (with_reducible refine Below.drew ?_)))).mono ?_
            rintro e u5 ⟨rfl, hb⟩
            have hbc5 := Lib.hid hb
            have HBc5 : Hid (Below w13.heap.size w13 u5) := Lib.hid (Below.trans (by repeat' (first | (with_reducible exact Below.refl _ _) | (with_reducible exact HBc9.out) | (with_reducible exact HBc8.out) | (with_reducible exact HBc7.out) | (with_reducible exact HBc6.out) | (with_reducible exact HBc5.out) | (with_reducible exact HBc4.out) | (with_reducible exact HBc3.out) | (with_reducible exact HBc2.out) | (with_reducible exact HBc1.out) | (with_reducible exact HBc0.out) | (with_reducible refine Below.drew ?_))) (hb.mono (Below.size (B := w13.heap.size) (by repeat' (first | (with_reducible exact Below.refl _ _) | (with_reducible exact HBc9.out) | (with_reducible exact HBc8.out) | (with_reducible exact HBc7.out) | (with_reducible exact HBc6.out) | (with_reducible exact HBc5.out) | (with_reducible exact HBc4.out) | (with_reducible exact HBc3.out) | (with_reducible exact HBc2.out) | (with_reducible exact HBc1.out) | (with_reducible exact HBc0.out) | (with_reducible refine Below.drew ?_))))))
            clear hb)
         | (go_at_call_of 15 (Value.agg #[Value.int .i64 (q.getD noT).kind, Value.int .i64 (q.getD noT).n, Value.string (q.getD noT).s, Value.slice A9u (q.getD noT).l.length c9u])
            refine (C6.out _ (by repeat' (first | (with_reducible exact Below.refl _ _) | (with_reducible exact HBc9.out) | (with_reducible exact HBc8.out) | (with_reducible exact HBc7.out) | (with_reducible exact HBc6.out) | (with_reducible exact HBc5.out) | (with_reducible exact HBc4.out) | (with_reducible exact HBc3.out) | (with_reducible exact HBc2.out) | (with_reducible exact HBc1.out) | (with_reducible exact HBc0.out) | (with_reducible refine Below.drew ?_)))).mono ?_
            rintro e u6 ⟨rfl, hb⟩
            have hbc6 := Lib.hid hb
            have HBc6 : Hid (Below w13.heap.size w13 u6) := Lib.hid (Below.trans (by repeat' (first | (with_reducible exact Below.refl _ _) | (with_reducible exact HBc9.out) | (with_reducible exact HBc8.out) | (with_reducible exact HBc7.out) | (with_reducible exact HBc6.out) | (with_reducible exact HBc5.out) | (with_reducible exact HBc4.out) | (with_reducible exact HBc3.out) | (with_reducible exact HBc2.out) | (with_reducible exact HBc1.out) | (with_reducible exact HBc0.out) | (with_reducible refine Below.drew ?_))) (hb.mono (Below.size (B := w13.heap.size) (by repeat' (first | (with_reducible exact Below.refl _ _) | (with_reducible exact HBc9.out) | (with_reducible exact HBc8.out) | (with_reducible exact HBc7.out) | (with_reducible exact HBc6.out) | (with_reducible exact HBc5.out) | (with_reducible exact HBc4.out) | (with_reducible exact HBc3.out) | (with_reducible exact HBc2.out) | (with_reducible exact HBc1.out) | (with_reducible exact HBc0.out) | (with_reducible refine Below.drew ?_))))))
            clear hb)
         | (go_at_call 19
            refine (C7.out _ (by repeat' (first | (with_reducible exact Below.refl _ _) | (with_reducible exact HBc9.out) | (with_reducible exact HBc8.out) | (with_reducible exact HBc7.out) | (with_reducible exact HBc6.out) | (with_reducible exact HBc5.out) | (with_reducible exact HBc4.out) | (with_reducible exact HBc3.out) | (with_reducible exact HBc2.out) | (with_reducible exact HBc1.out) | (with_reducible exact HBc0.out) | (with_reducible refine Below.drew ?_)))).mono ?_
            rintro e u7 ⟨⟨A7, c7, rfl, hrl⟩, hb⟩
            have hbc7 := Lib.hid hb
            have HBc7 : Hid (Below w13.heap.size w13 u7) := Lib.hid (Below.trans (by repeat' (first | (with_reducible exact Below.refl _ _) | (with_reducible exact HBc9.out) | (with_reducible exact HBc8.out) | (with_reducible exact HBc7.out) | (with_reducible exact HBc6.out) | (with_reducible exact HBc5.out) | (with_reducible exact HBc4.out) | (with_reducible exact HBc3.out) | (with_reducible exact HBc2.out) | (with_reducible exact HBc1.out) | (with_reducible exact HBc0.out) | (with_reducible refine Below.drew ?_))) (hb.mono (Below.size (B := w13.heap.size) (by repeat' (first | (with_reducible exact Below.refl _ _) | (with_reducible exact HBc9.out) | (with_reducible exact HBc8.out) | (with_reducible exact HBc7.out) | (with_reducible exact HBc6.out) | (with_reducible exact HBc5.out) | (with_reducible exact HBc4.out) | (with_reducible exact HBc3.out) | (with_reducible exact HBc2.out) | (with_reducible exact HBc1.out) | (with_reducible exact HBc0.out) | (with_reducible refine Below.drew ?_))))))
            have HN7 := Lib.hid hrl
            clear hrl
            clear hb)
         | (go_at_call 28
            refine (C8.out _ (by repeat' (first | (with_reducible exact Below.refl _ _) | (with_reducible exact HBc9.out) | (with_reducible exact HBc8.out) | (with_reducible exact HBc7.out) | (with_reducible exact HBc6.out) | (with_reducible exact HBc5.out) | (with_reducible exact HBc4.out) | (with_reducible exact HBc3.out) | (with_reducible exact HBc2.out) | (with_reducible exact HBc1.out) | (with_reducible exact HBc0.out) | (with_reducible refine Below.drew ?_)))).mono ?_
            rintro e u8 ⟨⟨A8, c8, rfl, hrl⟩, hb⟩
            have hbc8 := Lib.hid hb
            have HBc8 : Hid (Below w13.heap.size w13 u8) := Lib.hid (Below.trans (by repeat' (first | (with_reducible exact Below.refl _ _) | (with_reducible exact HBc9.out) | (with_reducible exact HBc8.out) | (with_reducible exact HBc7.out) | (with_reducible exact HBc6.out) | (with_reducible exact HBc5.out) | (with_reducible exact HBc4.out) | (with_reducible exact HBc3.out) | (with_reducible exact HBc2.out) | (with_reducible exact HBc1.out) | (with_reducible exact HBc0.out) | (with_reducible refine Below.drew ?_))) (hb.mono (Below.size (B := w13.heap.size) (by repeat' (first | (with_reducible exact Below.refl _ _) | (with_reducible exact HBc9.out) | (with_reducible exact HBc8.out) | (with_reducible exact HBc7.out) | (with_reducible exact HBc6.out) | (with_reducible exact HBc5.out) | (with_reducible exact HBc4.out) | (with_reducible exact HBc3.out) | (with_reducible exact HBc2.out) | (with_reducible exact HBc1.out) | (with_reducible exact HBc0.out) | (with_reducible refine Below.drew ?_))))))
            have HN8 := Lib.hid hrl
            clear hrl
            clear hb)
         | (go_at_call 27
            refine (C9.out _ A7 A8 c7 c8 (by first | (with_reducible exact HN7.out) | exact (HN7.out.keep hbc8.out (Nat.le_refl _)).wide hbc8.out.size) (by first | (with_reducible exact HN8.out) | exact (HN8.out.keep hbc7.out (Nat.le_refl _)).wide hbc7.out.size)).mono ?_
            rintro e u9 ⟨rfl, hb⟩
            have hbc9 := Lib.hid hb
            have HBc9 : Hid (Below w13.heap.size w13 u9) := Lib.hid (Below.trans (by repeat' (first | (with_reducible exact Below.refl _ _) | (with_reducible exact HBc9.out) | (with_reducible exact HBc8.out) | (with_reducible exact HBc7.out) | (with_reducible exact HBc6.out) | (with_reducible exact HBc5.out) | (with_reducible exact HBc4.out) | (with_reducible exact HBc3.out) | (with_reducible exact HBc2.out) | (with_reducible exact HBc1.out) | (with_reducible exact HBc0.out) | (with_reducible refine Below.drew ?_))) (hb.mono (Below.size (B := w13.heap.size) (by repeat' (first | (with_reducible exact Below.refl _ _) | (with_reducible exact HBc9.out) | (with_reducible exact HBc8.out) | (with_reducible exact HBc7.out) | (with_reducible exact HBc6.out) | (with_reducible exact HBc5.out) | (with_reducible exact HBc4.out) | (with_reducible exact HBc3.out) | (with_reducible exact HBc2.out) | (with_reducible exact HBc1.out) | (with_reducible exact HBc0.out) | (with_reducible refine Below.drew ?_))))))
            clear hb)
         | (go_at_call 13
            refine (C0.out _ (by repeat' (first | (with_reducible exact Below.refl _ _) | (with_reducible exact HBc9.out) | (with_reducible exact HBc8.out) | (with_reducible exact HBc7.out) | (with_reducible exact HBc6.out) | (with_reducible exact HBc5.out) | (with_reducible exact HBc4.out) | (with_reducible exact HBc3.out) | (with_reducible exact HBc2.out) | (with_reducible exact HBc1.out) | (with_reducible exact HBc0.out) | (with_reducible refine Below.drew ?_)))).mono ?_
            rintro e u0 ⟨rfl, hb⟩
            have hbc0 := Lib.hid hb
            have HBc0 : Hid (Below w13.heap.size w13 u0) := Lib.hid (Below.trans (by repeat' (first | (with_reducible exact Below.refl _ _) | (with_reducible exact HBc9.out) | (with_reducible exact HBc8.out) | (with_reducible exact HBc7.out) | (with_reducible exact HBc6.out) | (with_reducible exact HBc5.out) | (with_reducible exact HBc4.out) | (with_reducible exact HBc3.out) | (with_reducible exact HBc2.out) | (with_reducible exact HBc1.out) | (with_reducible exact HBc0.out) | (with_reducible refine Below.drew ?_))) (hb.mono (Below.size (B := w13.heap.size) (by repeat' (first | (with_reducible exact Below.refl _ _) | (with_reducible exact HBc9.out) | (with_reducible exact HBc8.out) | (with_reducible exact HBc7.out) | (with_reducible exact HBc6.out) | (with_reducible exact HBc5.out) | (with_reducible exact HBc4.out) | (with_reducible exact HBc3.out) | (with_reducible exact HBc2.out) | (with_reducible exact HBc1.out) | (with_reducible exact HBc0.out) | (with_reducible refine Below.drew ?_))))))
            clear hb))
     all_goals
       go_wp2_with fail
       go_ret
       exact ⟨rfl, HB13.out.trans (HBc0.out.mono HSZ.out)⟩
end Go.Proofs.YtiplipdigabidaaGreat
