/- viaticumlaw14.RuleForms: for every rule, blocks, policies, scope the call returns true. Printed by wip/gen/mk_forms.py. -/
import Derived.Test.YtfknlghegchbkabGreatRefBlock2
import Derived.Test.YtfknlghegchbkabGreatRefNames
import Derived.Test.YtfknlghegchbkabGreatWeight
import Derived.Test.YtfknlghegchbkabGreatBlock
set_option linter.unusedVariables false
set_option linter.unusedSimpArgs false
namespace Go.Proofs.YtfknlghegchbkabGreat
open Go.ChangeShapes Go.WideShapes Go.ChangeAt Go.RowKit

set_option maxRecDepth 100000 in
set_option maxHeartbeats 8000000 in
theorem ruleForms_any {d B : Nat} {r : Ru} {b c : Bk} {p q : Ck} {s : Sc} {vr vb vc vp vq vs : List Value} {w : World} (hr : (RuR d).rd w B r vr) (hb : (BkR d).rd w B b vb) (hc : (BkR d).rd w B c vc) (hp : (CkR d).rd w B p vp) (hq : (CkR d).rd w B q vq) (hs : ScR.rd w B s vs) (hB : B ≤ w.heap.size) :
    Calls Tryz.prog 4 #[.agg vr.toArray, .agg vb.toArray, .agg vc.toArray, .agg vp.toArray, .agg vq.toArray, .agg vs.toArray] w fun x w' => x = .returned (.bool true) ∧ Below w.heap.size w w' := by
  have HPR := Lib.hid hr
  have HPB := Lib.hid hb
  have HPC := Lib.hid hc
  have HPP := Lib.hid hp
  have HPQ := Lib.hid hq
  have HPS := Lib.hid hs
  obtain ⟨_, _, _, _, rfl, hsn, ⟨rA0, rc0, rfl, rg0, rh0, rl0⟩, ⟨rA1, rc1, rfl, rg1, rh1, rl1⟩, ⟨rA2, rc2, rfl, rg2, rh2, rl2⟩, ⟨rA3, rc3, rfl, rg3, rh3, rl3⟩⟩ := hr
  obtain ⟨_, _, _, _, rfl, ⟨bA0, bc0, rfl, bg0, bh0, bl0⟩, ⟨bA1, bc1, rfl, bg1, bh1, bl1⟩, ⟨bA2, bc2, rfl, bg2, bh2, bl2⟩, ⟨bA3, bc3, rfl, bg3, bh3, bl3⟩⟩ := hb
  obtain ⟨_, _, _, _, rfl, ⟨cA0, cc0, rfl, cg0, ch0, cl0⟩, ⟨cA1, cc1, rfl, cg1, ch1, cl1⟩, ⟨cA2, cc2, rfl, cg2, ch2, cl2⟩, ⟨cA3, cc3, rfl, cg3, ch3, cl3⟩⟩ := hc
  obtain ⟨_, rfl, ⟨pA0, pc0, rfl, pg0, ph0, pl0⟩⟩ := hp
  obtain ⟨_, rfl, ⟨qA0, qc0, rfl, qg0, qh0, ql0⟩⟩ := hq
  obtain ⟨rfl, hk, hsz⟩ := hs
  have HPH := Lib.hid (show (PrR d).rd w B r.head [.string r.head.name, .slice rA0 r.head.terms.length rc0] from ⟨_, rfl, hsn, rA0, rc0, rfl, rg0, rh0, rl0⟩)
  have HPK := Lib.hid (show (CkR d).rd w B ⟨false, p.queries⟩ [.bool false, .slice pA0 p.queries.length pc0] from ⟨_, rfl, pA0, pc0, rfl, pg0, ph0, pl0⟩)
  have HLP := Lib.hid (show RSl (RuR d) w B p.queries (.slice pA0 p.queries.length pc0) from ⟨pA0, pc0, rfl, pg0, ph0, pl0⟩)
  have HLQ := Lib.hid (show RSl (RuR d) w B q.queries (.slice qA0 q.queries.length qc0) from ⟨qA0, qc0, rfl, qg0, qh0, ql0⟩)
  have HLB := Lib.hid rl1
  have HSM := Lib.hid (namesP_small (RL.smallP rl1))
  simp only [PrR, RuR, CkR, ScR, TmR, ExR] at bh0 bh1 bh2 bh3 ch0 ch1 ch2 ch3 rh0 rh1 rh2 rh3 ph0 qh0
  clear bl0 bl1 bl2 bl3 cl0 cl1 cl2 cl3 rl0 rl1 rl2 rl3 pl0 ql0
  go_enter Tryz.func4, Tryz.ntmps4
  go_wp2_with fail
  generalize hW : World.alloc _ _ = w1
  obtain ⟨hb, hz⟩ := al6 hW
  have b_r_1 := n61 hW
  have b_b_1 := n62 hW
  have b_c_1 := n63 hW
  have b_p_1 := n64 hW
  have b_q_1 := n65 hW
  have b_s_1 := n66 hW
  have HB1 := Lib.hid hb
  clear hW hz hb
  refine (weight_names (d := d) (B := B) (r := r) (vs := [_, _, _, _, _]) ((RuR d).keep HB1.out hB HPR.out) (Nat.le_trans hB HB1.out.size)).mono ?_
  rintro x w2 ⟨⟨m1, rfl, hm1⟩, hb⟩
  have b_r_2 := b_r_1.later hb
  have b_b_2 := b_b_1.later hb
  have b_c_2 := b_c_1.later hb
  have b_p_2 := b_p_1.later hb
  have b_q_2 := b_q_1.later hb
  have b_s_2 := b_s_1.later hb
  have HB2 := Lib.hid (bthen HB1.out hb)
  clear b_r_1 b_b_1 b_c_1 b_p_1 b_q_1 b_s_1
  clear hb
  by_cases t1 : m1 ≥ 400
  · have k_r := b_r_2.cell
    have l_r := b_r_2.lt
    have k_b := b_b_2.cell
    have l_b := b_b_2.lt
    have k_c := b_c_2.cell
    have l_c := b_c_2.lt
    have k_p := b_p_2.cell
    have l_p := b_p_2.lt
    have k_q := b_q_2.cell
    have l_q := b_q_2.lt
    have k_s := b_s_2.cell
    have l_s := b_s_2.lt
    go_wp2_with fail
    clear k_r l_r k_b l_b k_c l_c k_p l_p k_q l_q k_s l_s
    refine (awake_any _).mono ?_
    rintro x w3 ⟨rfl, hb⟩
    have b_r_3 := b_r_2.later hb
    have b_b_3 := b_b_2.later hb
    have b_c_3 := b_c_2.later hb
    have b_p_3 := b_p_2.later hb
    have b_q_3 := b_q_2.later hb
    have b_s_3 := b_s_2.later hb
    have HB3 := Lib.hid (bthen HB2.out hb)
    clear b_r_2 b_b_2 b_c_2 b_p_2 b_q_2 b_s_2
    clear hb
    have k_r := b_r_3.cell
    have l_r := b_r_3.lt
    have k_b := b_b_3.cell
    have l_b := b_b_3.lt
    have k_c := b_c_3.cell
    have l_c := b_c_3.lt
    have k_p := b_p_3.cell
    have l_p := b_p_3.lt
    have k_q := b_q_3.cell
    have l_q := b_q_3.lt
    have k_s := b_s_3.cell
    have l_s := b_s_3.lt
    go_wp2_with fail
    clear k_r l_r k_b l_b k_c l_c k_p l_p k_q l_q k_s l_s
    go_ret
    exact ⟨rfl, HB3.out⟩
  have hcount : (varsAll r.body).length ≤ 400 := by have := hm1 (by omega); omega
  clear hm1
  have k_r := b_r_2.cell
  have l_r := b_r_2.lt
  have k_b := b_b_2.cell
  have l_b := b_b_2.lt
  have k_c := b_c_2.cell
  have l_c := b_c_2.lt
  have k_p := b_p_2.cell
  have l_p := b_p_2.lt
  have k_q := b_q_2.cell
  have l_q := b_q_2.lt
  have k_s := b_s_2.cell
  have l_s := b_s_2.lt
  go_wp2_with fail
  clear k_r l_r k_b l_b k_c l_c k_p l_p k_q l_q k_s l_s
  refine (block_any (d := d) (B := B) (b := b) (vs := [_, _, _, _]) ((BkR d).keep HB2.out hB HPB.out) (Nat.le_trans hB HB2.out.size)).mono ?_
  rintro x w3 ⟨⟨m2, rfl⟩, hb⟩
  have b_r_3 := b_r_2.later hb
  have b_b_3 := b_b_2.later hb
  have b_c_3 := b_c_2.later hb
  have b_p_3 := b_p_2.later hb
  have b_q_3 := b_q_2.later hb
  have b_s_3 := b_s_2.later hb
  have HB3 := Lib.hid (bthen HB2.out hb)
  clear b_r_2 b_b_2 b_c_2 b_p_2 b_q_2 b_s_2
  clear hb
  by_cases t2 : m2 ≥ 400
  · have k_r := b_r_3.cell
    have l_r := b_r_3.lt
    have k_b := b_b_3.cell
    have l_b := b_b_3.lt
    have k_c := b_c_3.cell
    have l_c := b_c_3.lt
    have k_p := b_p_3.cell
    have l_p := b_p_3.lt
    have k_q := b_q_3.cell
    have l_q := b_q_3.lt
    have k_s := b_s_3.cell
    have l_s := b_s_3.lt
    go_wp2_with fail
    clear k_r l_r k_b l_b k_c l_c k_p l_p k_q l_q k_s l_s
    refine (awake_any _).mono ?_
    rintro x w4 ⟨rfl, hb⟩
    have b_r_4 := b_r_3.later hb
    have b_b_4 := b_b_3.later hb
    have b_c_4 := b_c_3.later hb
    have b_p_4 := b_p_3.later hb
    have b_q_4 := b_q_3.later hb
    have b_s_4 := b_s_3.later hb
    have HB4 := Lib.hid (bthen HB3.out hb)
    clear b_r_3 b_b_3 b_c_3 b_p_3 b_q_3 b_s_3
    clear hb
    have k_r := b_r_4.cell
    have l_r := b_r_4.lt
    have k_b := b_b_4.cell
    have l_b := b_b_4.lt
    have k_c := b_c_4.cell
    have l_c := b_c_4.lt
    have k_p := b_p_4.cell
    have l_p := b_p_4.lt
    have k_q := b_q_4.cell
    have l_q := b_q_4.lt
    have k_s := b_s_4.cell
    have l_s := b_s_4.lt
    go_wp2_with fail
    clear k_r l_r k_b l_b k_c l_c k_p l_p k_q l_q k_s l_s
    go_ret
    exact ⟨rfl, HB4.out⟩
  have k_r := b_r_3.cell
  have l_r := b_r_3.lt
  have k_b := b_b_3.cell
  have l_b := b_b_3.lt
  have k_c := b_c_3.cell
  have l_c := b_c_3.lt
  have k_p := b_p_3.cell
  have l_p := b_p_3.lt
  have k_q := b_q_3.cell
  have l_q := b_q_3.lt
  have k_s := b_s_3.cell
  have l_s := b_s_3.lt
  go_wp2_with fail
  clear k_r l_r k_b l_b k_c l_c k_p l_p k_q l_q k_s l_s
  refine (block_any (d := d) (B := B) (b := c) (vs := [_, _, _, _]) ((BkR d).keep HB3.out hB HPC.out) (Nat.le_trans hB HB3.out.size)).mono ?_
  rintro x w4 ⟨⟨m3, rfl⟩, hb⟩
  have b_r_4 := b_r_3.later hb
  have b_b_4 := b_b_3.later hb
  have b_c_4 := b_c_3.later hb
  have b_p_4 := b_p_3.later hb
  have b_q_4 := b_q_3.later hb
  have b_s_4 := b_s_3.later hb
  have HB4 := Lib.hid (bthen HB3.out hb)
  clear b_r_3 b_b_3 b_c_3 b_p_3 b_q_3 b_s_3
  clear hb
  by_cases t3 : m3 ≥ 400
  · have k_r := b_r_4.cell
    have l_r := b_r_4.lt
    have k_b := b_b_4.cell
    have l_b := b_b_4.lt
    have k_c := b_c_4.cell
    have l_c := b_c_4.lt
    have k_p := b_p_4.cell
    have l_p := b_p_4.lt
    have k_q := b_q_4.cell
    have l_q := b_q_4.lt
    have k_s := b_s_4.cell
    have l_s := b_s_4.lt
    go_wp2_with fail
    clear k_r l_r k_b l_b k_c l_c k_p l_p k_q l_q k_s l_s
    refine (awake_any _).mono ?_
    rintro x w5 ⟨rfl, hb⟩
    have b_r_5 := b_r_4.later hb
    have b_b_5 := b_b_4.later hb
    have b_c_5 := b_c_4.later hb
    have b_p_5 := b_p_4.later hb
    have b_q_5 := b_q_4.later hb
    have b_s_5 := b_s_4.later hb
    have HB5 := Lib.hid (bthen HB4.out hb)
    clear b_r_4 b_b_4 b_c_4 b_p_4 b_q_4 b_s_4
    clear hb
    have k_r := b_r_5.cell
    have l_r := b_r_5.lt
    have k_b := b_b_5.cell
    have l_b := b_b_5.lt
    have k_c := b_c_5.cell
    have l_c := b_c_5.lt
    have k_p := b_p_5.cell
    have l_p := b_p_5.lt
    have k_q := b_q_5.cell
    have l_q := b_q_5.lt
    have k_s := b_s_5.cell
    have l_s := b_s_5.lt
    go_wp2_with fail
    clear k_r l_r k_b l_b k_c l_c k_p l_p k_q l_q k_s l_s
    go_ret
    exact ⟨rfl, HB5.out⟩
  have k_r := b_r_4.cell
  have l_r := b_r_4.lt
  have k_b := b_b_4.cell
  have l_b := b_b_4.lt
  have k_c := b_c_4.cell
  have l_c := b_c_4.lt
  have k_p := b_p_4.cell
  have l_p := b_p_4.lt
  have k_q := b_q_4.cell
  have l_q := b_q_4.lt
  have k_s := b_s_4.cell
  have l_s := b_s_4.lt
  go_wp2_with fail
  clear k_r l_r k_b l_b k_c l_c k_p l_p k_q l_q k_s l_s
  refine (queriesN_any (d := d) (B := B) (l := p.queries) (HLP.out.keep HB4.out hB) (Nat.le_trans hB HB4.out.size)).mono ?_
  rintro x w5 ⟨⟨m4, rfl⟩, hb⟩
  have b_r_5 := b_r_4.later hb
  have b_b_5 := b_b_4.later hb
  have b_c_5 := b_c_4.later hb
  have b_p_5 := b_p_4.later hb
  have b_q_5 := b_q_4.later hb
  have b_s_5 := b_s_4.later hb
  have HB5 := Lib.hid (bthen HB4.out hb)
  clear b_r_4 b_b_4 b_c_4 b_p_4 b_q_4 b_s_4
  clear hb
  by_cases t4 : m4 ≥ 400
  · have k_r := b_r_5.cell
    have l_r := b_r_5.lt
    have k_b := b_b_5.cell
    have l_b := b_b_5.lt
    have k_c := b_c_5.cell
    have l_c := b_c_5.lt
    have k_p := b_p_5.cell
    have l_p := b_p_5.lt
    have k_q := b_q_5.cell
    have l_q := b_q_5.lt
    have k_s := b_s_5.cell
    have l_s := b_s_5.lt
    go_wp2_with fail
    clear k_r l_r k_b l_b k_c l_c k_p l_p k_q l_q k_s l_s
    refine (awake_any _).mono ?_
    rintro x w6 ⟨rfl, hb⟩
    have b_r_6 := b_r_5.later hb
    have b_b_6 := b_b_5.later hb
    have b_c_6 := b_c_5.later hb
    have b_p_6 := b_p_5.later hb
    have b_q_6 := b_q_5.later hb
    have b_s_6 := b_s_5.later hb
    have HB6 := Lib.hid (bthen HB5.out hb)
    clear b_r_5 b_b_5 b_c_5 b_p_5 b_q_5 b_s_5
    clear hb
    have k_r := b_r_6.cell
    have l_r := b_r_6.lt
    have k_b := b_b_6.cell
    have l_b := b_b_6.lt
    have k_c := b_c_6.cell
    have l_c := b_c_6.lt
    have k_p := b_p_6.cell
    have l_p := b_p_6.lt
    have k_q := b_q_6.cell
    have l_q := b_q_6.lt
    have k_s := b_s_6.cell
    have l_s := b_s_6.lt
    go_wp2_with fail
    clear k_r l_r k_b l_b k_c l_c k_p l_p k_q l_q k_s l_s
    go_ret
    exact ⟨rfl, HB6.out⟩
  have k_r := b_r_5.cell
  have l_r := b_r_5.lt
  have k_b := b_b_5.cell
  have l_b := b_b_5.lt
  have k_c := b_c_5.cell
  have l_c := b_c_5.lt
  have k_p := b_p_5.cell
  have l_p := b_p_5.lt
  have k_q := b_q_5.cell
  have l_q := b_q_5.lt
  have k_s := b_s_5.cell
  have l_s := b_s_5.lt
  go_wp2_with fail
  clear k_r l_r k_b l_b k_c l_c k_p l_p k_q l_q k_s l_s
  refine (queriesN_any (d := d) (B := B) (l := q.queries) (HLQ.out.keep HB5.out hB) (Nat.le_trans hB HB5.out.size)).mono ?_
  rintro x w6 ⟨⟨m5, rfl⟩, hb⟩
  have b_r_6 := b_r_5.later hb
  have b_b_6 := b_b_5.later hb
  have b_c_6 := b_c_5.later hb
  have b_p_6 := b_p_5.later hb
  have b_q_6 := b_q_5.later hb
  have b_s_6 := b_s_5.later hb
  have HB6 := Lib.hid (bthen HB5.out hb)
  clear b_r_5 b_b_5 b_c_5 b_p_5 b_q_5 b_s_5
  clear hb
  by_cases t5 : m5 ≥ 400
  · have k_r := b_r_6.cell
    have l_r := b_r_6.lt
    have k_b := b_b_6.cell
    have l_b := b_b_6.lt
    have k_c := b_c_6.cell
    have l_c := b_c_6.lt
    have k_p := b_p_6.cell
    have l_p := b_p_6.lt
    have k_q := b_q_6.cell
    have l_q := b_q_6.lt
    have k_s := b_s_6.cell
    have l_s := b_s_6.lt
    go_wp2_with fail
    clear k_r l_r k_b l_b k_c l_c k_p l_p k_q l_q k_s l_s
    refine (awake_any _).mono ?_
    rintro x w7 ⟨rfl, hb⟩
    have b_r_7 := b_r_6.later hb
    have b_b_7 := b_b_6.later hb
    have b_c_7 := b_c_6.later hb
    have b_p_7 := b_p_6.later hb
    have b_q_7 := b_q_6.later hb
    have b_s_7 := b_s_6.later hb
    have HB7 := Lib.hid (bthen HB6.out hb)
    clear b_r_6 b_b_6 b_c_6 b_p_6 b_q_6 b_s_6
    clear hb
    have k_r := b_r_7.cell
    have l_r := b_r_7.lt
    have k_b := b_b_7.cell
    have l_b := b_b_7.lt
    have k_c := b_c_7.cell
    have l_c := b_c_7.lt
    have k_p := b_p_7.cell
    have l_p := b_p_7.lt
    have k_q := b_q_7.cell
    have l_q := b_q_7.lt
    have k_s := b_s_7.cell
    have l_s := b_s_7.lt
    go_wp2_with fail
    clear k_r l_r k_b l_b k_c l_c k_p l_p k_q l_q k_s l_s
    go_ret
    exact ⟨rfl, HB7.out⟩
  have k_r := b_r_6.cell
  have l_r := b_r_6.lt
  have k_b := b_b_6.cell
  have l_b := b_b_6.lt
  have k_c := b_c_6.cell
  have l_c := b_c_6.lt
  have k_p := b_p_6.cell
  have l_p := b_p_6.lt
  have k_q := b_q_6.cell
  have l_q := b_q_6.lt
  have k_s := b_s_6.cell
  have l_s := b_s_6.lt
  go_wp2_with fail
  clear k_r l_r k_b l_b k_c l_c k_p l_p k_q l_q k_s l_s
  generalize hW : World.alloc _ _ = w7
  obtain ⟨hb, hz⟩ := al1 hW
  have b_k_7 := n11 hW
  have b_r_7 := b_r_6.later hb
  have b_b_7 := b_b_6.later hb
  have b_c_7 := b_c_6.later hb
  have b_p_7 := b_p_6.later hb
  have b_q_7 := b_q_6.later hb
  have b_s_7 := b_s_6.later hb
  have HB7 := Lib.hid (bthen HB6.out hb)
  clear b_r_6 b_b_6 b_c_6 b_p_6 b_q_6 b_s_6
  clear hW hz hb
  have GR := Lib.hid ((RuR d).keep HB7.out hB HPR.out)
  have GH := Lib.hid ((PrR d).keep HB7.out hB HPH.out)
  have GK := Lib.hid ((CkR d).keep HB7.out hB HPK.out)
  have GB := Lib.hid ((BkR d).keep HB7.out hB HPB.out)
  have GC := Lib.hid ((BkR d).keep HB7.out hB HPC.out)
  have GP := Lib.hid ((CkR d).keep HB7.out hB HPP.out)
  have GQ := Lib.hid ((CkR d).keep HB7.out hB HPQ.out)
  have GS := Lib.hid (ScR.keep HB7.out hB HPS.out)
  have hBn : B ≤ w7.heap.size := Nat.le_trans hB HB7.out.size
  have HBN := Lib.hid hBn
  clear hBn
  have k_r := b_r_7.cell
  have l_r := b_r_7.lt
  have k_b := b_b_7.cell
  have l_b := b_b_7.lt
  have k_c := b_c_7.cell
  have l_c := b_c_7.lt
  have k_p := b_p_7.cell
  have l_p := b_p_7.lt
  have k_q := b_q_7.cell
  have l_q := b_q_7.lt
  have k_s := b_s_7.cell
  have l_s := b_s_7.lt
  have k_k := b_k_7.cell
  have l_k := b_k_7.lt
  go_wp2_with fail
  clear k_r l_r k_b l_b k_c l_c k_p l_p k_q l_q k_s l_s k_k l_k
  have k_r := b_r_7.cell
  have l_r := b_r_7.lt
  have k_b := b_b_7.cell
  have l_b := b_b_7.lt
  have k_c := b_c_7.cell
  have l_c := b_c_7.lt
  have k_p := b_p_7.cell
  have l_p := b_p_7.lt
  have k_q := b_q_7.cell
  have l_q := b_q_7.lt
  have k_s := b_s_7.cell
  have l_s := b_s_7.lt
  have k_k := b_k_7.cell
  have l_k := b_k_7.lt
  have qq_r := b_r_7.regrown
  have qq_b := b_b_7.regrown
  have qq_c := b_c_7.regrown
  have qq_p := b_p_7.regrown
  have qq_q := b_q_7.regrown
  have qq_s := b_s_7.regrown
  have qq_k := b_k_7.regrown
  clear k_r l_r k_b l_b k_c l_c k_p l_p k_q l_q k_s l_s k_k l_k
  refine wp_region_quiet_below (by kernel_rfl) (by kernel_rfl) ?_
  repeat (go_big_quiet_step ((first
    | (go_at_call 13; exact Calls.regrown_of (mayPred_any (d := d) (B := B) (p := r.head) (vs := [_, _]) ((PrR d).keep (below_regrown _ _ _) HBN.out GH.out) (Nat.le_trans HBN.out (below_regrown _ _ _).size)))
    | (go_at_call 14; exact Calls.regrown_of (refMayPred_any (d := d) (B := B) (p := r.head) (vs := [_, _]) ((PrR d).keep (below_regrown _ _ _) HBN.out GH.out) (Nat.le_trans HBN.out (below_regrown _ _ _).size)))
    | (go_at_call 15; exact Calls.regrown_of (mayFact_any (d := d) (B := B) (p := r.head) (vs := [_, _]) ((PrR d).keep (below_regrown _ _ _) HBN.out GH.out) (Nat.le_trans HBN.out (below_regrown _ _ _).size)))
    | (go_at_call 16; exact Calls.regrown_of (refMayFact_any (d := d) (B := B) (p := r.head) (vs := [_, _]) ((PrR d).keep (below_regrown _ _ _) HBN.out GH.out) (Nat.le_trans HBN.out (below_regrown _ _ _).size)))
    | (go_at_call 10; exact Calls.regrown_of (mayRule_any (d := d) (B := B) (r := r) (vs := [_, _, _, _, _]) ((RuR d).keep (below_regrown _ _ _) HBN.out GR.out) (Nat.le_trans HBN.out (below_regrown _ _ _).size)))
    | (go_at_call 17; exact Calls.regrown_of (refMayRule_any (d := d) (B := B) (r := r) (vs := [_, _, _, _, _]) ((RuR d).keep (below_regrown _ _ _) HBN.out GR.out) (Nat.le_trans HBN.out (below_regrown _ _ _).size)))
    | (go_at_call 18; exact Calls.regrown_of (mayQuery_any (d := d) (B := B) (r := r) (vs := [_, _, _, _, _]) ((RuR d).keep (below_regrown _ _ _) HBN.out GR.out) (Nat.le_trans HBN.out (below_regrown _ _ _).size)))
    | (go_at_call 19; exact Calls.regrown_of (refMayQuery_any (d := d) (B := B) (r := r) (vs := [_, _, _, _, _]) ((RuR d).keep (below_regrown _ _ _) HBN.out GR.out) (Nat.le_trans HBN.out (below_regrown _ _ _).size)))
    | (go_at_call 11; exact Calls.regrown_of (mayCheck_any (d := d) (B := B) (x := ⟨false, p.queries⟩) (vs := [_, _]) ((CkR d).keep (below_regrown _ _ _) HBN.out GK.out) (Nat.le_trans HBN.out (below_regrown _ _ _).size)))
    | (go_at_call 20; exact Calls.regrown_of (refMayCheck_any (d := d) (B := B) (x := ⟨false, p.queries⟩) (vs := [_, _]) ((CkR d).keep (below_regrown _ _ _) HBN.out GK.out) (Nat.le_trans HBN.out (below_regrown _ _ _).size))))))
  refine wpQuiet_nil ?_
  intro w8 hw
  have hb : Below w7.heap.size w7 w8 := by obtain ⟨p, rfl⟩ := hw; exact below_regrown _ _ _
  clear hw qq_r qq_b qq_c qq_p qq_q qq_s qq_k
  have b_r_8 := b_r_7.later hb
  have b_b_8 := b_b_7.later hb
  have b_c_8 := b_c_7.later hb
  have b_p_8 := b_p_7.later hb
  have b_q_8 := b_q_7.later hb
  have b_s_8 := b_s_7.later hb
  have b_k_8 := b_k_7.later hb
  have HB8 := Lib.hid (bthen HB7.out hb)
  clear b_r_7 b_b_7 b_c_7 b_p_7 b_q_7 b_s_7 b_k_7 hb GR GH GK GB GC GP GQ GS HBN
  have k_r := b_r_8.cell
  have l_r := b_r_8.lt
  have k_b := b_b_8.cell
  have l_b := b_b_8.lt
  have k_c := b_c_8.cell
  have l_c := b_c_8.lt
  have k_p := b_p_8.cell
  have l_p := b_p_8.lt
  have k_q := b_q_8.cell
  have l_q := b_q_8.lt
  have k_s := b_s_8.cell
  have l_s := b_s_8.lt
  have k_k := b_k_8.cell
  have l_k := b_k_8.lt
  go_wp2_with fail
  clear k_r l_r k_b l_b k_c l_c k_p l_p k_q l_q k_s l_s k_k l_k
  refine (names_any d r.body rA1 rc1 B _ (HLB.out.keep HB8.out hB) (Nat.le_trans hB HB8.out.size) (by omega) (by omega)).mono ?_
  rintro x w9 ⟨v1, rfl, hown, hb⟩
  have b_r_9 := b_r_8.later hb
  have b_b_9 := b_b_8.later hb
  have b_c_9 := b_c_8.later hb
  have b_p_9 := b_p_8.later hb
  have b_q_9 := b_q_8.later hb
  have b_s_9 := b_s_8.later hb
  have b_k_9 := b_k_8.later hb
  have HB9 := Lib.hid (bthen HB8.out hb)
  clear b_r_8 b_b_8 b_c_8 b_p_8 b_q_8 b_s_8 b_k_8
  clear hb
  have hlen : (uniqL (varsAll r.body)).length ≤ 400 := Nat.le_trans (uniqL_length _) hcount
  obtain ⟨A1, c1, rfl, hc1, hrl1⟩ := hown.reads HSM.out (by omega)
  have HRL1 := Lib.hid hrl1
  clear hown hrl1
  have hB1 := w9
  clear hB1
  have k_r := b_r_9.cell
  have l_r := b_r_9.lt
  have k_b := b_b_9.cell
  have l_b := b_b_9.lt
  have k_c := b_c_9.cell
  have l_c := b_c_9.lt
  have k_p := b_p_9.cell
  have l_p := b_p_9.lt
  have k_q := b_q_9.cell
  have l_q := b_q_9.lt
  have k_s := b_s_9.cell
  have l_s := b_s_9.lt
  have k_k := b_k_9.cell
  have l_k := b_k_9.lt
  go_wp2_with fail
  clear k_r l_r k_b l_b k_c l_c k_p l_p k_q l_q k_s l_s k_k l_k
  refine (refNames_any d r.body rA1 rc1 B _ (HLB.out.keep HB9.out hB) (Nat.le_trans hB HB9.out.size) (by omega) (by omega)).mono ?_
  rintro x w10 ⟨⟨v2, rfl, hown⟩, hb⟩
  have b_r_10 := b_r_9.later hb
  have b_b_10 := b_b_9.later hb
  have b_c_10 := b_c_9.later hb
  have b_p_10 := b_p_9.later hb
  have b_q_10 := b_q_9.later hb
  have b_s_10 := b_s_9.later hb
  have b_k_10 := b_k_9.later hb
  have HB10 := Lib.hid (bthen HB9.out hb)
  have HM10 := Lib.hid hb
  clear b_r_9 b_b_9 b_c_9 b_p_9 b_q_9 b_s_9 b_k_9
  clear hb
  obtain ⟨A2, c2, rfl, hc2, hcm2, hrl2⟩ := hown
  have HRL2 := Lib.hid hrl2
  have HRL1' := Lib.hid ((HRL1.out.keep HM10.out (Nat.le_refl _)).wide HM10.out.size)
  clear hrl2 HRL1 HM10
  generalize hL : uniqL (varsAll r.body) = L at *
  clear hL
  have k_r := b_r_10.cell
  have l_r := b_r_10.lt
  have k_b := b_b_10.cell
  have l_b := b_b_10.lt
  have k_c := b_c_10.cell
  have l_c := b_c_10.lt
  have k_p := b_p_10.cell
  have l_p := b_p_10.lt
  have k_q := b_q_10.cell
  have l_q := b_q_10.lt
  have k_s := b_s_10.cell
  have l_s := b_s_10.lt
  have k_k := b_k_10.cell
  have l_k := b_k_10.lt
  go_wp2_with fail
  clear k_r l_r k_b l_b k_c l_c k_p l_p k_q l_q k_s l_s k_k l_k
  go_loopw [96] (fun i wr => ∃ k : Nat, k ≤ L.length ∧ i = .int .i64 k ∧ Below w10.heap.size w10 wr) (fun i _ => L.length - (intOf i).toNat)
  case atStart => exact ⟨0, Nat.zero_le _, rfl, Below.refl _ _⟩
  case round =>
    obtain ⟨k, hkl, rfl, hbw⟩ := hrel
    by_cases hlt : k < L.length
    · obtain ⟨ba, oa, rfl, hba, hca⟩ := strs_at HRL1'.out hbw (Nat.le_refl _) (by omega)
      obtain ⟨bc_, oc, rfl, hbc, hcc⟩ := strs_at HRL2.out hbw (Nat.le_refl _) (by omega)
      have p0 := hca k hlt
      have e0 := hcc k hlt
      have HBw := Lib.hid hbw
      clear hca hcc hbw
      go_wp2_with fail
      go_quiet (fail)
      go_wp2_with fail
      go_roundw
      case rel => exact ⟨k + 1, by omega, by go_num, HBw.out.trans ⟨rfl, rfl, rfl, Nat.le_refl _, fun _ _ => rfl⟩⟩
      case measure => simp [intOf]; omega
    · generalize wr = w11 at *
      have b_r_11 := b_r_10.later hbw
      have b_b_11 := b_b_10.later hbw
      have b_c_11 := b_c_10.later hbw
      have b_p_11 := b_p_10.later hbw
      have b_q_11 := b_q_10.later hbw
      have b_s_11 := b_s_10.later hbw
      have b_k_11 := b_k_10.later hbw
      have HB11 := Lib.hid (bthen HB10.out hbw)
      clear b_r_10 b_b_10 b_c_10 b_p_10 b_q_10 b_s_10 b_k_10 hbw
      have k_r := b_r_11.cell
      have l_r := b_r_11.lt
      have k_b := b_b_11.cell
      have l_b := b_b_11.lt
      have k_c := b_c_11.cell
      have l_c := b_c_11.lt
      have k_p := b_p_11.cell
      have l_p := b_p_11.lt
      have k_q := b_q_11.cell
      have l_q := b_q_11.lt
      have k_s := b_s_11.cell
      have l_s := b_s_11.lt
      have k_k := b_k_11.cell
      have l_k := b_k_11.lt
      go_wp2_with fail
      clear k_r l_r k_b l_b k_c l_c k_p l_p k_q l_q k_s l_s k_k l_k
      have GR := Lib.hid ((RuR d).keep HB11.out hB HPR.out)
      have GH := Lib.hid ((PrR d).keep HB11.out hB HPH.out)
      have GK := Lib.hid ((CkR d).keep HB11.out hB HPK.out)
      have GB := Lib.hid ((BkR d).keep HB11.out hB HPB.out)
      have GC := Lib.hid ((BkR d).keep HB11.out hB HPC.out)
      have GP := Lib.hid ((CkR d).keep HB11.out hB HPP.out)
      have GQ := Lib.hid ((CkR d).keep HB11.out hB HPQ.out)
      have GS := Lib.hid (ScR.keep HB11.out hB HPS.out)
      have hBn : B ≤ w11.heap.size := Nat.le_trans hB HB11.out.size
      have HBN := Lib.hid hBn
      clear hBn
      have k_r := b_r_11.cell
      have l_r := b_r_11.lt
      have k_b := b_b_11.cell
      have l_b := b_b_11.lt
      have k_c := b_c_11.cell
      have l_c := b_c_11.lt
      have k_p := b_p_11.cell
      have l_p := b_p_11.lt
      have k_q := b_q_11.cell
      have l_q := b_q_11.lt
      have k_s := b_s_11.cell
      have l_s := b_s_11.lt
      have k_k := b_k_11.cell
      have l_k := b_k_11.lt
      have qq_r := b_r_11.regrown
      have qq_b := b_b_11.regrown
      have qq_c := b_c_11.regrown
      have qq_p := b_p_11.regrown
      have qq_q := b_q_11.regrown
      have qq_s := b_s_11.regrown
      have qq_k := b_k_11.regrown
      clear k_r l_r k_b l_b k_c l_c k_p l_p k_q l_q k_s l_s k_k l_k
      refine wp_region_quiet_below (by kernel_rfl) (by kernel_rfl) ?_
      repeat (go_big_quiet_step ((first
        | (go_at_call 8; exact Calls.regrown_of (mayBlock_any (d := d) (B := B) (b := b) (vs := [_, _, _, _]) ((BkR d).keep (below_regrown _ _ _) HBN.out GB.out) (Nat.le_trans HBN.out (below_regrown _ _ _).size)))
        | (go_at_call 23; exact Calls.regrown_of (refMayBlock_any (d := d) (B := B) (b := b) (vs := [_, _, _, _]) ((BkR d).keep (below_regrown _ _ _) HBN.out GB.out) (Nat.le_trans HBN.out (below_regrown _ _ _).size)))
        | (go_at_call 24; exact Calls.regrown_of (mayPolicy_any (d := d) (B := B) (x := p) (vs := [_, _]) ((CkR d).keep (below_regrown _ _ _) HBN.out GP.out) (Nat.le_trans HBN.out (below_regrown _ _ _).size)))
        | (go_at_call 25; exact Calls.regrown_of (refMayPolicy_any (d := d) (B := B) (x := p) (vs := [_, _]) ((CkR d).keep (below_regrown _ _ _) HBN.out GP.out) (Nat.le_trans HBN.out (below_regrown _ _ _).size)))
        | (go_at_call 26; exact Calls.regrown_of (mayScope_any (B := B) (s := s) (vs := [_, _]) (ScR.keep (below_regrown _ _ _) HBN.out GS.out)))
        | (go_at_call 27; exact Calls.regrown_of (refMayScope_any (B := B) (s := s) (vs := [_, _]) (ScR.keep (below_regrown _ _ _) HBN.out GS.out)))
        | (go_at_call 12; exact Calls.regrown_of (sameBlock_any (d := d) (B := B) (a := b) (b := c) (va := [_, _, _, _]) (vb := [_, _, _, _]) ((BkR d).keep (below_regrown _ _ _) HBN.out GB.out) ((BkR d).keep (below_regrown _ _ _) HBN.out GC.out) (Nat.le_trans HBN.out (below_regrown _ _ _).size)))
        | (go_at_call 28; exact Calls.regrown_of (refSameBlock_any (d := d) (B := B) (a := b) (b := c) (va := [_, _, _, _]) (vb := [_, _, _, _]) ((BkR d).keep (below_regrown _ _ _) HBN.out GB.out) ((BkR d).keep (below_regrown _ _ _) HBN.out GC.out) (Nat.le_trans HBN.out (below_regrown _ _ _).size)))
        | (go_at_call 29; exact Calls.regrown_of (samePolicy_any (d := d) (B := B) (a := p) (b := q) (va := [_, _]) (vb := [_, _]) ((CkR d).keep (below_regrown _ _ _) HBN.out GP.out) ((CkR d).keep (below_regrown _ _ _) HBN.out GQ.out) (Nat.le_trans HBN.out (below_regrown _ _ _).size)))
        | (go_at_call 30; exact Calls.regrown_of (refSamePolicy_any (d := d) (B := B) (a := p) (b := q) (va := [_, _]) (vb := [_, _]) ((CkR d).keep (below_regrown _ _ _) HBN.out GP.out) ((CkR d).keep (below_regrown _ _ _) HBN.out GQ.out) (Nat.le_trans HBN.out (below_regrown _ _ _).size)))
        | (go_at_call 9; exact Calls.regrown_of (awake_any _)))))
      refine wpQuiet_nil ?_
      intro w12 hw
      have hb : Below w11.heap.size w11 w12 := by obtain ⟨p, rfl⟩ := hw; exact below_regrown _ _ _
      clear hw qq_r qq_b qq_c qq_p qq_q qq_s qq_k
      have b_r_12 := b_r_11.later hb
      have b_b_12 := b_b_11.later hb
      have b_c_12 := b_c_11.later hb
      have b_p_12 := b_p_11.later hb
      have b_q_12 := b_q_11.later hb
      have b_s_12 := b_s_11.later hb
      have b_k_12 := b_k_11.later hb
      have HB12 := Lib.hid (bthen HB11.out hb)
      clear b_r_11 b_b_11 b_c_11 b_p_11 b_q_11 b_s_11 b_k_11 hb GR GH GK GB GC GP GQ GS HBN
      have k_r := b_r_12.cell
      have l_r := b_r_12.lt
      have k_b := b_b_12.cell
      have l_b := b_b_12.lt
      have k_c := b_c_12.cell
      have l_c := b_c_12.lt
      have k_p := b_p_12.cell
      have l_p := b_p_12.lt
      have k_q := b_q_12.cell
      have l_q := b_q_12.lt
      have k_s := b_s_12.cell
      have l_s := b_s_12.lt
      have k_k := b_k_12.cell
      have l_k := b_k_12.lt
      go_wp2_with fail
      clear k_r l_r k_b l_b k_c l_c k_p l_p k_q l_q k_s l_s k_k l_k
      go_ret
      exact ⟨rfl, HB12.out⟩
end Go.Proofs.YtfknlghegchbkabGreat
