/- viaticumref11: mayBody, MayQuery, MayRule, mayQueries, MayCheck, MayBlock: as the program's. Printed by wip/gen/mk_refrule2.py. -/
import Derived.Test.YtfknlghegchbkabGreatRefRule
set_option linter.unusedVariables false
set_option linter.unusedSimpArgs false
namespace Go.Proofs.YtfknlghegchbkabGreat
open Go.ChangeShapes Go.WideShapes Go.ChangeAt Go.RowKit

theorem bodyB_f1 {r : Ru} (h : r.body.all mayPredB = false) : bodyB r = false := by unfold bodyB; rw [h]; simp
theorem bodyB_f2 {r : Ru} (h : r.exprs.all (fun e => mayExprB e && knownB (namesE e) (uniqL (varsAll r.body))) = false) : bodyB r = false := by
  rw [Bool.eq_false_iff] at h ⊢
  intro hb
  apply h
  unfold bodyB namesP at hb
  simp only [Bool.and_eq_true, List.all_eq_true] at hb
  rw [List.all_eq_true]
  intro e he
  rw [hb.1.1.2.2 e he, hb.2 e he]
  rfl
theorem bodyB_t {r : Ru} (t1 : r.body.length ≤ 4) (t2 : r.exprs.length ≤ 4) (t3 : (decide ((r.scopes.length : Int) ≤ 4) && r.scopes.all mayScopeB) = true) (h1 : r.body.all mayPredB = true) (h : r.exprs.all (fun e => mayExprB e && knownB (namesE e) (uniqL (varsAll r.body))) = true) : bodyB r = true := by
  unfold bodyB namesP
  simp only [Bool.and_eq_true, List.all_eq_true, decide_eq_true_eq] at *
  refine ⟨⟨⟨⟨t1, h1⟩, t2, fun e he => (h e he).1⟩, by omega, t3.2⟩, fun e he => (h e he).2⟩
theorem body_count {r : Ru} (t1 : r.body.length ≤ 4) (h1 : r.body.all mayPredB = true) : (varsAll r.body).length ≤ 32 := by
  have := varsAll_len r.body (fun p hp => mayPredB_len (List.all_eq_true.1 h1 p hp))
  omega

set_option maxRecDepth 100000 in
set_option maxHeartbeats 4000000 in
theorem refMayBody_any {d B : Nat} {r : Ru} {vs : List Value} {w : World} (hr : (RuR d).rd w B r vs) (hB : B ≤ w.heap.size) :
    Calls Tryz.prog 52 #[.agg vs.toArray] w fun x w' => x = .returned (.bool (bodyB r)) ∧ Below w.heap.size w w' := by
  have HR := Lib.hid hr
  obtain ⟨_, _, _, _, rfl, hs, ⟨A0, c0, rfl, g0, h0, hl0⟩, ⟨A1, c1, rfl, g1, h1, hl1⟩, ⟨A2, c2, rfl, g2, h2, hl2⟩, ⟨A3, c3, rfl, g3, h3, hl3⟩⟩ := hr
  simp only [PrR, ExR, ScR, TmR] at h0 h1 h2 h3
  have HL1 := Lib.hid hl1
  have HL2 := Lib.hid hl2
  have HL3 := Lib.hid hl3
  have HSM := Lib.hid (namesP_small (RL.smallP hl1))
  have HB := Lib.hid (fun o : Obj => (Below.refl w.heap.size w).alloc (Nat.le_refl _) o)
  clear hl0 hl1 hl2 hl3
  by_cases t1 : r.body.length ≤ 4
  rotate_left
  · go_enter Tryz.func52, Tryz.ntmps52
    go_wp2_with fail
    go_ret
    exact ⟨ret_bool (by unfold bodyB; rw [decide_eq_false t1]; simp), HB.out _⟩
  by_cases t2 : r.exprs.length ≤ 4
  rotate_left
  · go_enter Tryz.func52, Tryz.ntmps52
    go_wp2_with fail
    go_ret
    exact ⟨ret_bool (by unfold bodyB; rw [decide_eq_false t2]; simp), HB.out _⟩
  go_enter Tryz.func52, Tryz.ntmps52
  go_wp2_with fail
  generalize hW : World.alloc _ _ = w1
  obtain ⟨hb, hz⟩ := al1 hW
  have b_r_1 := n11 hW
  have HB1 := Lib.hid hb
  clear hW hz hb
  refine (refMayScopes_any r.scopes A3 c3 B w1 (HL3.out.keep HB1.out hB) (by omega) (Nat.le_trans hB HB1.out.size)).mono ?_
  rintro x w2 ⟨rfl, hb⟩
  have b_r_2 := b_r_1.later hb
  have HB2 := Lib.hid (bthen HB1.out hb)
  clear b_r_1
  clear hb
  by_cases t3 : (decide ((r.scopes.length : Int) ≤ 4) && r.scopes.all mayScopeB) = true
  rotate_left
  · simp only [Bool.not_eq_true] at t3
    have T3 := Lib.hid t3
    rw [t3]
    have k_r := b_r_2.cell
    have l_r := b_r_2.lt
    go_wp2_with fail
    clear k_r l_r
    go_ret
    exact ⟨ret_bool (bodyB_not3 T3.out).symm, HB2.out⟩
  have T3 := Lib.hid t3
  rw [t3]
  clear t3
  have k_r := b_r_2.cell
  have l_r := b_r_2.lt
  go_wp2_with fail
  clear k_r l_r
  go_loopw [27] (fun i wr => ∃ k : Nat, k ≤ r.body.length ∧ i = .int .i64 k ∧ Below w2.heap.size w2 wr ∧ ∀ i (hi : i < k) (hi' : i < r.body.length), mayPredB r.body[i] = true) (fun i _ => r.body.length - (intOf i).toNat)
  case atStart => exact ⟨0, Nat.zero_le _, rfl, Below.refl _ _, fun i h => absurd h (by omega)⟩
  case round =>
    obtain ⟨k, hk, rfl, hbw, hall⟩ := hrel
    have HA := Lib.hid hall
    have hBn : B ≤ w2.heap.size := Nat.le_trans hB HB2.out.size
    clear hall
    by_cases hlt : k < r.body.length
    · have hl := HL1.out.keep HB2.out hB
      obtain ⟨b, off, rfl, hob⟩ := hl.base hbw hBn (by omega)
      obtain ⟨x, vs, hx, hlen, hcell, hr⟩ := hl.at_ hbw hBn hlt
      obtain ⟨_, rfl, _, A0x, c0x, rfl, _⟩ := id hr
      have p0 : wr.cell? ⟨b, off + k * 2, none⟩ = some (.string x.name) := hcell 0 _ rfl
      have p1 : wr.cell? ⟨b, off + k * 2 + 1, none⟩ = some (.slice A0x x.terms.length c0x) := hcell 1 _ rfl
      have HR := Lib.hid hr
      have HBw := Lib.hid hbw
      have HX := Lib.hid hx
      have hszr := hbw.size
      clear hl hcell hlen hr hx hbw
      go_wp2_with fail
      generalize hW2 : World.alloc _ _ = W2
      obtain ⟨hb2, hz2⟩ := al1 hW2
      clear hW2 p0 p1
      refine (refMayPred_any (d := d) (B := B) (p := x) (vs := [_, _]) ((PrR d).keep hb2 (by omega) HR.out) (by omega)).mono ?_
      rintro e w3_ ⟨rfl, hb3⟩
      have HB3_ := Lib.hid (bthen HBw.out (bthen hb2 hb3))
      have HBf := Lib.hid (bthen HB2.out HB3_.out)
      clear hb2 hb3 hz2
      by_cases hm : mayPredB x = true
      · have HM := Lib.hid hm
        rw [hm]
        clear hm
        go_wp2_with fail
        go_roundw
        case rel => exact ⟨k + 1, by omega, by go_num, HB3_.out, fun i hi hi' => by
            rcases Nat.lt_or_ge i k with h1 | h1
            · exact HA.out i h1 hi'
            · obtain rfl : i = k := by omega
              rw [(List.getElem?_eq_some_iff.1 HX.out).2]; exact HM.out⟩
        case measure => simp [intOf]; omega
      · simp only [Bool.not_eq_true] at hm
        have HALL := Lib.hid (all_false HX.out hm)
        rw [hm]
        clear hm
        go_wp2_with fail
        go_ret
        refine ⟨ret_bool ?_, HBf.out⟩
        exact (bodyB_f1 HALL.out).symm
    · have HALL_3 := Lib.hid (all_true (show r.body.length ≤ k by omega) HA.out)
      generalize wr = w3 at *
      have b_r_3 := b_r_2.later hbw
      have HB3 := Lib.hid (bthen HB2.out hbw)
      clear b_r_2
      clear hbw HA
      have HCN := Lib.hid (body_count t1 HALL_3.out)
      have hcn : (varsAll r.body).length ≤ 1000000 := Nat.le_trans HCN.out (by omega)
      have k_r := b_r_3.cell
      have l_r := b_r_3.lt
      go_wp2_with fail
      clear k_r l_r
      refine (refNames_any d r.body A1 c1 B w3 (HL1.out.keep HB3.out hB) (Nat.le_trans hB HB3.out.size) (by omega) hcn).mono ?_
      rintro x w4 ⟨⟨v5, rfl, hv5⟩, hb⟩
      have b_r_4 := b_r_3.later hb
      have HB4 := Lib.hid (bthen HB3.out hb)
      clear b_r_3
      clear hb
      have HV5 := Lib.hid hv5
      have hB4 : B ≤ w4.heap.size := Nat.le_trans hB HB4.out.size
      clear hv5
      have k_r := b_r_4.cell
      have l_r := b_r_4.lt
      go_wp2_with fail
      clear k_r l_r
      go_loopw [41] (fun i wr => ∃ k : Nat, k ≤ r.exprs.length ∧ i = .int .i64 k ∧ Below w4.heap.size w4 wr ∧ ∀ i (hi : i < k) (hi' : i < r.exprs.length), (fun e => mayExprB e && knownB (namesE e) (uniqL (varsAll r.body))) r.exprs[i] = true) (fun i _ => r.exprs.length - (intOf i).toNat)
      case atStart => exact ⟨0, Nat.zero_le _, rfl, Below.refl _ _, fun i h => absurd h (by omega)⟩
      case round =>
        clear hlt hBn
        obtain ⟨k2, hk2, rfl, hbw, hall⟩ := hrel
        have HA := Lib.hid hall
        clear hall
        by_cases hlt2 : k2 < r.exprs.length
        · have hl := HL2.out.keep HB4.out hB
          obtain ⟨b, off, rfl, hob⟩ := hl.base hbw hB4 (by omega)
          obtain ⟨e, vs, hx, hlen, hcell, hr⟩ := hl.at_ hbw hB4 hlt2
          have hsm := ExR.small hr
          obtain ⟨_, rfl, Ax, cx, rfl, _⟩ := id hr
          have p0 : wr.cell? ⟨b, off + k2, none⟩ = some (.slice Ax e.length cx) := by have := hcell 0 _ rfl; simpa [ExR] using this
          have HR2 := Lib.hid hr
          have HBw := Lib.hid hbw
          have HX := Lib.hid hx
          have HSE := Lib.hid (namesE_small hsm)
          have hszr := hbw.size
          clear hl hcell hlen hr hx hbw hsm
          go_wp2_with fail
          generalize hW2 : World.alloc _ _ = W2
          obtain ⟨hb2, hz2⟩ := al1 hW2
          have be := n11 hW2
          have HB2_ := Lib.hid (bthen HBw.out hb2)
          have HRW := Lib.hid ((ExR d).keep hb2 (by omega) HR2.out)
          have hBW : B ≤ W2.heap.size := by omega
          clear hW2 p0 hb2 hz2
          refine (refMayExpr_any (d := d) (B := B) (e := e) (vs := [_]) HRW.out hBW).mono ?_
          rintro x w3_ ⟨rfl, hb3⟩
          have ce := (be.later hb3).cell
          have le_ := (be.later hb3).lt
          have be3 := be.later hb3
          have HBq := Lib.hid hb3
          have HB3_ := Lib.hid (bthen HB2_.out hb3)
          clear hb3 be
          by_cases hm : mayExprB e = true
          rotate_left
          · simp only [Bool.not_eq_true] at hm
            have HALL := Lib.hid (all_false (p := fun e => mayExprB e && knownB (namesE e) (uniqL (varsAll r.body))) HX.out (by show (mayExprB e && _) = false; rw [hm]; rfl))
            have HBf := Lib.hid (bthen HB4.out HB3_.out)
            rw [hm]
            clear hm
            go_wp2_with fail
            go_ret
            exact ⟨ret_bool (bodyB_f2 HALL.out).symm, HBf.out⟩
          have HM := Lib.hid hm
          rw [hm]
          clear hm
          go_wp2_with fail
          refine (refExprNames_any (d := d) (B := B) (e := e) (vs := [_]) ((ExR d).keep HBq.out hBW HRW.out) (Nat.le_trans hBW HBq.out.size)).mono ?_
          rintro x w5_ ⟨⟨v6, rfl, hv6⟩, hb5⟩
          have HV6 := Lib.hid hv6
          have HB5_ := Lib.hid (bthen HB3_.out hb5)
          clear hb5 hv6 ce le_
          have hne := namesE_len e
          go_wp2_with fail
          refine (refAll_any (L := namesE e) (M := uniqL (varsAll r.body)) HV6.out (HV5.out.later HB5_.out) (by omega) (Nat.le_trans (uniqL_length _) hcn) (uniqL_rising _) HSE.out).mono ?_
          rintro x w6_ ⟨rfl, hb6⟩
          have HB6_ := Lib.hid (bthen HB5_.out hb6)
          have HBf := Lib.hid (bthen HB4.out HB6_.out)
          have HKN := Lib.hid (show knownB (namesE e) (uniqL (varsAll r.body)) = (namesE e).all (fun s => decide (s ∈ uniqL (varsAll r.body))) from rfl)
          clear hb6
          by_cases hk : (namesE e).all (fun s => decide (s ∈ uniqL (varsAll r.body))) = true
          · have HK2 := Lib.hid (show (mayExprB e && knownB (namesE e) (uniqL (varsAll r.body))) = true by rw [HM.out, HKN.out, hk]; rfl)
            rw [hk]
            clear hk
            go_wp2_with fail
            go_roundw
            case rel => exact ⟨k2 + 1, by omega, by go_num, HB6_.out, fun i hi hi' => by
                rcases Nat.lt_or_ge i k2 with h1 | h1
                · exact HA.out i h1 hi'
                · obtain rfl : i = k2 := by omega
                  rw [(List.getElem?_eq_some_iff.1 HX.out).2]; exact HK2.out⟩
            case measure => simp [intOf]; omega
          · simp only [Bool.not_eq_true] at hk
            have HALL := Lib.hid (all_false (p := fun e => mayExprB e && knownB (namesE e) (uniqL (varsAll r.body))) HX.out (by show (mayExprB e && knownB (namesE e) _) = false; rw [HKN.out, hk, Bool.and_false]))
            rw [hk]
            clear hk
            go_wp2_with fail
            go_ret
            exact ⟨ret_bool (bodyB_f2 HALL.out).symm, HBf.out⟩
        · have HALL_4 := Lib.hid (all_true (p := fun e => mayExprB e && knownB (namesE e) (uniqL (varsAll r.body))) (show r.exprs.length ≤ k2 by omega) HA.out)
          have HBf := Lib.hid (bthen HB4.out hbw)
          clear hbw
          go_wp2_with fail
          go_ret
          exact ⟨ret_bool (bodyB_t t1 t2 T3.out HALL_3.out HALL_4.out).symm, HBf.out⟩

set_option maxRecDepth 100000 in
set_option maxHeartbeats 2000000 in
theorem refMayQuery_any {d B : Nat} {r : Ru} {vs : List Value} {w : World} (hr : (RuR d).rd w B r vs) (hB : B ≤ w.heap.size) :
    Calls Tryz.prog 19 #[.agg vs.toArray] w fun x w' => x = .returned (.bool (mayQueryB r)) ∧ Below w.heap.size w w' := by
  have HR := Lib.hid hr
  obtain ⟨_, _, _, _, rfl, hs, ⟨A0, c0, rfl, h01, h02, hl0⟩, ⟨A1, c1, rfl, h11, h12, hl1⟩, ⟨A2, c2, rfl, h21, h22, hl2⟩, ⟨A3, c3, rfl, h31, h32, hl3⟩⟩ := hr
  simp only [PrR, ExR, ScR, TmR] at h02 h12 h22 h32
  have HB := Lib.hid (fun o : Obj => (Below.refl w.heap.size w).alloc (Nat.le_refl _) o)
  clear hl0 hl1 hl2 hl3
  by_cases t1 : r.head.name.toList.isEmpty = true
  · by_cases t2 : r.head.terms.length = 0
    · by_cases t3 : 1 ≤ r.body.length + r.exprs.length
      · have u2 : ((r.head.terms.length : Int) == 0) = true := by simp [t2]
        have T2 := Lib.hid t2
        clear t2
        have u3 : ((r.body.length : Int) + (r.exprs.length : Int) > 0) := by omega
        go_enter Tryz.func19, Tryz.ntmps19
        go_wp2_with fail
        refine (refMayBody_any (d := d) (B := B) (r := r) (vs := [_, _, _, _, _]) ((RuR d).keep (HB.out _) hB HR.out) (Nat.le_trans hB (HB.out _).size)).mono ?_
        rintro x w1 ⟨rfl, hb1⟩
        have HB1 := Lib.hid ((HB.out _).trans (hb1.mono (HB.out _).size))
        clear hb1
        go_wp2_with fail
        go_ret
        exact ⟨ret_bool (by simp [mayQueryB, t1, T2.out, t3]), HB1.out⟩
      · have u2 : ((r.head.terms.length : Int) == 0) = true := by simp [t2]
        have T2 := Lib.hid t2
        clear t2
        have u3 : ¬ ((r.body.length : Int) + (r.exprs.length : Int) > 0) := by omega
        go_enter Tryz.func19, Tryz.ntmps19
        go_wp2_with fail
        go_ret
        exact ⟨ret_bool (by simp [mayQueryB, t3]), HB.out _⟩
    · have u2 : ((r.head.terms.length : Int) == 0) = false := by simp [t2]
      go_enter Tryz.func19, Tryz.ntmps19
      go_wp2_with fail
      go_ret
      exact ⟨ret_bool (by simp [mayQueryB, t2]), HB.out _⟩
  · simp only [Bool.not_eq_true] at t1
    go_enter Tryz.func19, Tryz.ntmps19
    go_wp2_with fail
    go_ret
    exact ⟨ret_bool (by simp [mayQueryB, t1]), HB.out _⟩


set_option maxRecDepth 100000 in
set_option maxHeartbeats 2000000 in
theorem refMayRule_any {d B : Nat} {r : Ru} {vs : List Value} {w : World} (hr : (RuR d).rd w B r vs) (hB : B ≤ w.heap.size) :
    Calls Tryz.prog 17 #[.agg vs.toArray] w fun x w' => x = .returned (.bool (mayRuleB r)) ∧ Below w.heap.size w w' := by
  have HR := Lib.hid hr
  obtain ⟨_, _, _, _, rfl, hs, ⟨A0, c0, rfl, h01, h02, hl0⟩, ⟨A1, c1, rfl, h11, h12, hl1⟩, ⟨A2, c2, rfl, h21, h22, hl2⟩, ⟨A3, c3, rfl, h31, h32, hl3⟩⟩ := hr
  simp only [PrR, ExR, ScR, TmR] at h02 h12 h22 h32
  have HB := Lib.hid (fun o : Obj => (Below.refl w.heap.size w).alloc (Nat.le_refl _) o)
  have HP := Lib.hid (show (PrR d).rd w B r.head [.string r.head.name, .slice A0 r.head.terms.length c0] from ⟨_, rfl, hs, _, _, rfl, h01, h02, hl0⟩)
  have HL1 := Lib.hid hl1
  clear hl0 hl1 hl2 hl3
  have e1 : ((r.body.length : Int) > 0) ↔ (1 ≤ r.body.length) := by omega
  by_cases t1 : mayPredB r.head = true
  · by_cases t2 : 1 ≤ r.body.length
    · by_cases t3 : bodyB r = true
      · have u2 : ((r.body.length : Int) > 0) := by omega
        have u4 : 0 < r.body.length := by omega
        have u5 : decide ((0 : Int) < (r.body.length : Int)) = true := by rw [decide_eq_true_eq]; exact u2
        go_enter Tryz.func17, Tryz.ntmps17
        go_wp2_with fail
        have HW := Lib.hid (HB.out (.cells #[.string r.head.name, .slice A0 r.head.terms.length c0, .slice A1 r.body.length c1, .slice A2 r.exprs.length c2, .slice A3 r.scopes.length c3] 33))
        have x0 : (w.alloc (.cells #[.string r.head.name, .slice A0 r.head.terms.length c0, .slice A1 r.body.length c1, .slice A2 r.exprs.length c2, .slice A3 r.scopes.length c3] 33)).cell? ⟨w.heap.size, 0, none⟩ = some (.string r.head.name) := by go_simp
        have x1 : (w.alloc (.cells #[.string r.head.name, .slice A0 r.head.terms.length c0, .slice A1 r.body.length c1, .slice A2 r.exprs.length c2, .slice A3 r.scopes.length c3] 33)).cell? ⟨w.heap.size, 1, none⟩ = some (.slice A0 r.head.terms.length c0) := by go_simp
        have x2 : (w.alloc (.cells #[.string r.head.name, .slice A0 r.head.terms.length c0, .slice A1 r.body.length c1, .slice A2 r.exprs.length c2, .slice A3 r.scopes.length c3] 33)).cell? ⟨w.heap.size, 2, none⟩ = some (.slice A1 r.body.length c1) := by go_simp
        have x3 : (w.alloc (.cells #[.string r.head.name, .slice A0 r.head.terms.length c0, .slice A1 r.body.length c1, .slice A2 r.exprs.length c2, .slice A3 r.scopes.length c3] 33)).cell? ⟨w.heap.size, 3, none⟩ = some (.slice A2 r.exprs.length c2) := by go_simp
        have x4 : (w.alloc (.cells #[.string r.head.name, .slice A0 r.head.terms.length c0, .slice A1 r.body.length c1, .slice A2 r.exprs.length c2, .slice A3 r.scopes.length c3] 33)).cell? ⟨w.heap.size, 4, none⟩ = some (.slice A3 r.scopes.length c3) := by go_simp
        generalize (w.alloc (.cells #[.string r.head.name, .slice A0 r.head.terms.length c0, .slice A1 r.body.length c1, .slice A2 r.exprs.length c2, .slice A3 r.scopes.length c3] 33)) = W at *
        have q0 := cell_regrown x0
        have q1 := cell_regrown x1
        have q2 := cell_regrown x2
        have q3 := cell_regrown x3
        have q4 := cell_regrown x4
        refine wp_region_mix (Grew W) (by kernel_rfl) (by kernel_rfl) (Grew.drew W) ?_
        repeat (refine mix_quiet rfl rfl (fun K hK => ?_); unfold Grew; go_big_quiet_op; refine hK _ ?_; clear hK K)
        refine mix_loud rfl rfl (fun K hK => ?_)
        go_wp2_with fail
        refine (refMayPred_any (d := d) (B := B) (vs := [_, _]) ((PrR d).keep HW.out.drew hB HP.out) (Nat.le_trans hB HW.out.size)).mono ?_
        rintro x w1 ⟨rfl, hb1⟩
        have HB1 := Lib.hid (HW.out.trans ((Below.refl _ W).drew.trans (hb1.mono (Nat.le_refl _)) |>.mono HW.out.size))
        have HC := Lib.hid (Grew.of ((Below.refl W.heap.size W).drew.trans (hb1.mono (Nat.le_refl _))))
        clear hb1
        rw [t1]
        go_wp2_with fail
        refine ⟨HC.out, ?_⟩
        repeat (refine mix_quiet rfl rfl (fun K hK => ?_); unfold Grew; go_big_quiet_op; refine hK _ ?_; clear hK K)
        refine mix_loud rfl rfl (fun K hK => ?_)
        go_wp2_with fail
        refine (refMayBody_any (d := d) (B := B) (r := r) (vs := [_, _, _, _, _]) ((RuR d).keep HB1.out hB HR.out) (Nat.le_trans hB HB1.out.size)).mono ?_
        rintro x w2 ⟨rfl, hb2⟩
        have HB2 := Lib.hid (HB1.out.trans (hb2.mono HB1.out.size))
        have HC2 := Lib.hid (Grew.of (HC.out.below.trans (hb2.mono HC.out.below.size)))
        clear hb2
        rw [t3]
        go_wp2_with fail
        refine ⟨HC2.out, ?_⟩
        repeat (refine mix_quiet rfl rfl (fun K hK => ?_); unfold Grew; go_big_quiet_op; refine hK _ ?_; clear hK K)
        refine mix_loud rfl rfl (fun K hK => ?_)
        go_wp2_with fail
        have HW3 := Lib.hid (HB2.out.trans ((Below.refl w2.heap.size w2).alloc (Nat.le_refl _) (.cells #[.string r.head.name, .slice A0 r.head.terms.length c0] 30) |>.mono HB2.out.size))
        have HC3 := Lib.hid (Grew.of (HC2.out.below.trans ((Below.refl w2.heap.size w2).alloc (Nat.le_refl _) (.cells #[.string r.head.name, .slice A0 r.head.terms.length c0] 30) |>.mono HC2.out.below.size)))
        have y0 : (w2.alloc (.cells #[.string r.head.name, .slice A0 r.head.terms.length c0] 30)).cell? ⟨w2.heap.size, 0, none⟩ = some (.string r.head.name) := by go_simp
        have y1 : (w2.alloc (.cells #[.string r.head.name, .slice A0 r.head.terms.length c0] 30)).cell? ⟨w2.heap.size, 1, none⟩ = some (.slice A0 r.head.terms.length c0) := by go_simp
        have ysz : w2.heap.size < (w2.alloc (.cells #[.string r.head.name, .slice A0 r.head.terms.length c0] 30)).heap.size := by go_simp
        refine ⟨HC3.out, ?_⟩
        generalize (w2.alloc (.cells #[.string r.head.name, .slice A0 r.head.terms.length c0] 30)) = w3 at *
        have HO := Lib.hid (RL.one (x := r.head) (b := w2.heap.size) ysz ((PrR d).wide (Nat.le_trans hB HW3.out.size) ((PrR d).keep HW3.out hB HP.out)) (fun j v hv => by
          rcases j with _ | _ | j
          · simp only [List.getElem?_cons_zero, Option.some.injEq] at hv; rw [← hv]; exact y0
          · simp only [List.getElem?_cons_succ, List.getElem?_cons_zero, Option.some.injEq] at hv; rw [← hv]; exact y1
          · simp at hv))
        have hcount1 : (varsAll [r.head]).length ≤ 8 := by
          have := varsAll_len [r.head] (fun p hp => by simp at hp; rw [hp]; exact mayPredB_len t1)
          simpa using this
        have hcount2 := bodyB_count t3
        have hlen1 : (uniqL (varsAll [r.head])).length ≤ 8 := Nat.le_trans (uniqL_length _) hcount1
        have hlen2 : (uniqL (varsAll r.body)).length ≤ 32 := Nat.le_trans (uniqL_length _) hcount2
        have HSM1 := Lib.hid (namesP_small (RL.smallP HO.out))
        have HSM2 := Lib.hid (namesP_small (RL.smallP HL1.out))
        clear y0 y1
        refine mix_loud rfl rfl (fun K hK => ?_)
        go_wp2_with fail
        refine (refNames_any d [r.head] (some ⟨w2.heap.size, 0, none⟩) 1 _ _ HO.out (Nat.le_refl _) (by simp) (by omega)).mono ?_
        rintro x w4 ⟨⟨v4, rfl, hrl⟩, hb4⟩
        have HB4 := Lib.hid (HW3.out.trans (hb4.mono HW3.out.size))
        have HC4 := Lib.hid (Grew.of (HC3.out.below.trans (hb4.mono HC3.out.below.size)))
        have HRL := Lib.hid hrl
        clear hb4 hrl
        go_wp2_with fail
        refine ⟨HC4.out, ?_⟩
        repeat (refine mix_quiet rfl rfl (fun K hK => ?_); unfold Grew; go_big_quiet_op; refine hK _ ?_; clear hK K)
        refine mix_loud rfl rfl (fun K hK => ?_)
        go_wp2_with fail
        refine (refNames_any d r.body A1 c1 B _ (HL1.out.keep HB4.out hB) (Nat.le_trans hB HB4.out.size) (by omega) (by omega)).mono ?_
        rintro x w5 ⟨⟨v5, rfl, hrl⟩, hb5⟩
        have HB5 := Lib.hid (HB4.out.trans (hb5.mono HB4.out.size))
        have HC5 := Lib.hid (Grew.of (HC4.out.below.trans (hb5.mono HC4.out.below.size)))
        have HRL4 := Lib.hid (HRL.out.later hb5)
        have HRL5 := Lib.hid hrl
        clear hb5 hrl
        go_wp2_with fail
        refine ⟨HC5.out, ?_⟩
        repeat (refine mix_quiet rfl rfl (fun K hK => ?_); unfold Grew; go_big_quiet_op; refine hK _ ?_; clear hK K)
        refine mix_loud rfl rfl (fun K hK => ?_)
        go_wp2_with fail
        refine (refAll_any (L := uniqL (varsAll [r.head])) (M := uniqL (varsAll r.body)) HRL4.out HRL5.out (by omega) (by exact Nat.le_trans hlen2 (by omega)) (uniqL_rising _) HSM1.out).mono ?_
        rintro x w6 ⟨rfl, hb6⟩
        have HB6 := Lib.hid (HB5.out.trans (hb6.mono HB5.out.size))
        have HC6 := Lib.hid (Grew.of (HC5.out.below.trans (hb6.mono HC5.out.below.size)))
        clear hb6
        go_wp2_with fail
        refine ⟨HC6.out, ?_⟩
        repeat (refine mix_quiet rfl rfl (fun K hK => ?_); unfold Grew; go_big_quiet_op; refine hK _ ?_; clear hK K)
        refine mix_nil (fun _ => ?_)
        go_wp2_with fail
        go_ret
        exact ⟨ret_bool (by simp [mayRuleB, knownB, t1, t2, t3]), HB6.out⟩
      · simp only [Bool.not_eq_true] at t3
        have u2 : ((r.body.length : Int) > 0) := by omega
        have u4 : 0 < r.body.length := by omega
        have u5 : decide ((0 : Int) < (r.body.length : Int)) = true := by rw [decide_eq_true_eq]; exact u2
        go_enter Tryz.func17, Tryz.ntmps17
        go_wp2_with fail
        have HW := Lib.hid (HB.out (.cells #[.string r.head.name, .slice A0 r.head.terms.length c0, .slice A1 r.body.length c1, .slice A2 r.exprs.length c2, .slice A3 r.scopes.length c3] 33))
        have x0 : (w.alloc (.cells #[.string r.head.name, .slice A0 r.head.terms.length c0, .slice A1 r.body.length c1, .slice A2 r.exprs.length c2, .slice A3 r.scopes.length c3] 33)).cell? ⟨w.heap.size, 0, none⟩ = some (.string r.head.name) := by go_simp
        have x1 : (w.alloc (.cells #[.string r.head.name, .slice A0 r.head.terms.length c0, .slice A1 r.body.length c1, .slice A2 r.exprs.length c2, .slice A3 r.scopes.length c3] 33)).cell? ⟨w.heap.size, 1, none⟩ = some (.slice A0 r.head.terms.length c0) := by go_simp
        have x2 : (w.alloc (.cells #[.string r.head.name, .slice A0 r.head.terms.length c0, .slice A1 r.body.length c1, .slice A2 r.exprs.length c2, .slice A3 r.scopes.length c3] 33)).cell? ⟨w.heap.size, 2, none⟩ = some (.slice A1 r.body.length c1) := by go_simp
        have x3 : (w.alloc (.cells #[.string r.head.name, .slice A0 r.head.terms.length c0, .slice A1 r.body.length c1, .slice A2 r.exprs.length c2, .slice A3 r.scopes.length c3] 33)).cell? ⟨w.heap.size, 3, none⟩ = some (.slice A2 r.exprs.length c2) := by go_simp
        have x4 : (w.alloc (.cells #[.string r.head.name, .slice A0 r.head.terms.length c0, .slice A1 r.body.length c1, .slice A2 r.exprs.length c2, .slice A3 r.scopes.length c3] 33)).cell? ⟨w.heap.size, 4, none⟩ = some (.slice A3 r.scopes.length c3) := by go_simp
        generalize (w.alloc (.cells #[.string r.head.name, .slice A0 r.head.terms.length c0, .slice A1 r.body.length c1, .slice A2 r.exprs.length c2, .slice A3 r.scopes.length c3] 33)) = W at *
        have q0 := cell_regrown x0
        have q1 := cell_regrown x1
        have q2 := cell_regrown x2
        have q3 := cell_regrown x3
        have q4 := cell_regrown x4
        refine wp_region_mix (Grew W) (by kernel_rfl) (by kernel_rfl) (Grew.drew W) ?_
        repeat (refine mix_quiet rfl rfl (fun K hK => ?_); unfold Grew; go_big_quiet_op; refine hK _ ?_; clear hK K)
        refine mix_loud rfl rfl (fun K hK => ?_)
        go_wp2_with fail
        refine (refMayPred_any (d := d) (B := B) (vs := [_, _]) ((PrR d).keep HW.out.drew hB HP.out) (Nat.le_trans hB HW.out.size)).mono ?_
        rintro x w1 ⟨rfl, hb1⟩
        have HB1 := Lib.hid (HW.out.trans ((Below.refl _ W).drew.trans (hb1.mono (Nat.le_refl _)) |>.mono HW.out.size))
        have HC := Lib.hid (Grew.of ((Below.refl W.heap.size W).drew.trans (hb1.mono (Nat.le_refl _))))
        clear hb1
        rw [t1]
        go_wp2_with fail
        refine ⟨HC.out, ?_⟩
        repeat (refine mix_quiet rfl rfl (fun K hK => ?_); unfold Grew; go_big_quiet_op; refine hK _ ?_; clear hK K)
        refine mix_loud rfl rfl (fun K hK => ?_)
        go_wp2_with fail
        refine (refMayBody_any (d := d) (B := B) (r := r) (vs := [_, _, _, _, _]) ((RuR d).keep HB1.out hB HR.out) (Nat.le_trans hB HB1.out.size)).mono ?_
        rintro x w2 ⟨rfl, hb2⟩
        have HB2 := Lib.hid (HB1.out.trans (hb2.mono HB1.out.size))
        have HC2 := Lib.hid (Grew.of (HC.out.below.trans (hb2.mono HC.out.below.size)))
        clear hb2
        rw [t3]
        go_wp2_with fail
        refine ⟨HC2.out, ?_⟩
        repeat first | (refine mix_quiet rfl rfl (fun K hK => ?_); unfold Grew; go_big_quiet_op; refine hK _ ?_; clear hK K) | (refine mix_skip' (a' := ?_) rfl ?_ ?_; rotate_left; focus (dsimp only [Act.put]; simp only [List.setIfInBounds_toArray, List.set_cons_succ, List.set_cons_zero]; rfl))
        refine mix_nil (fun _ => ?_)
        go_wp2_with fail
        go_ret
        exact ⟨ret_bool (by simp [mayRuleB, t3]), HB2.out⟩
    · have u2 : ¬ ((r.body.length : Int) > 0) := by omega
      have u4 : ¬ 0 < r.body.length := by omega
      have u5 : decide ((0 : Int) < (r.body.length : Int)) = false := by rw [decide_eq_false_iff_not]; exact u2
      go_enter Tryz.func17, Tryz.ntmps17
      go_wp2_with fail
      have HW := Lib.hid (HB.out (.cells #[.string r.head.name, .slice A0 r.head.terms.length c0, .slice A1 r.body.length c1, .slice A2 r.exprs.length c2, .slice A3 r.scopes.length c3] 33))
      have x0 : (w.alloc (.cells #[.string r.head.name, .slice A0 r.head.terms.length c0, .slice A1 r.body.length c1, .slice A2 r.exprs.length c2, .slice A3 r.scopes.length c3] 33)).cell? ⟨w.heap.size, 0, none⟩ = some (.string r.head.name) := by go_simp
      have x1 : (w.alloc (.cells #[.string r.head.name, .slice A0 r.head.terms.length c0, .slice A1 r.body.length c1, .slice A2 r.exprs.length c2, .slice A3 r.scopes.length c3] 33)).cell? ⟨w.heap.size, 1, none⟩ = some (.slice A0 r.head.terms.length c0) := by go_simp
      have x2 : (w.alloc (.cells #[.string r.head.name, .slice A0 r.head.terms.length c0, .slice A1 r.body.length c1, .slice A2 r.exprs.length c2, .slice A3 r.scopes.length c3] 33)).cell? ⟨w.heap.size, 2, none⟩ = some (.slice A1 r.body.length c1) := by go_simp
      have x3 : (w.alloc (.cells #[.string r.head.name, .slice A0 r.head.terms.length c0, .slice A1 r.body.length c1, .slice A2 r.exprs.length c2, .slice A3 r.scopes.length c3] 33)).cell? ⟨w.heap.size, 3, none⟩ = some (.slice A2 r.exprs.length c2) := by go_simp
      have x4 : (w.alloc (.cells #[.string r.head.name, .slice A0 r.head.terms.length c0, .slice A1 r.body.length c1, .slice A2 r.exprs.length c2, .slice A3 r.scopes.length c3] 33)).cell? ⟨w.heap.size, 4, none⟩ = some (.slice A3 r.scopes.length c3) := by go_simp
      generalize (w.alloc (.cells #[.string r.head.name, .slice A0 r.head.terms.length c0, .slice A1 r.body.length c1, .slice A2 r.exprs.length c2, .slice A3 r.scopes.length c3] 33)) = W at *
      have q0 := cell_regrown x0
      have q1 := cell_regrown x1
      have q2 := cell_regrown x2
      have q3 := cell_regrown x3
      have q4 := cell_regrown x4
      refine wp_region_mix (Grew W) (by kernel_rfl) (by kernel_rfl) (Grew.drew W) ?_
      repeat (refine mix_quiet rfl rfl (fun K hK => ?_); unfold Grew; go_big_quiet_op; refine hK _ ?_; clear hK K)
      refine mix_loud rfl rfl (fun K hK => ?_)
      go_wp2_with fail
      refine (refMayPred_any (d := d) (B := B) (vs := [_, _]) ((PrR d).keep HW.out.drew hB HP.out) (Nat.le_trans hB HW.out.size)).mono ?_
      rintro x w1 ⟨rfl, hb1⟩
      have HB1 := Lib.hid (HW.out.trans ((Below.refl _ W).drew.trans (hb1.mono (Nat.le_refl _)) |>.mono HW.out.size))
      have HC := Lib.hid (Grew.of ((Below.refl W.heap.size W).drew.trans (hb1.mono (Nat.le_refl _))))
      clear hb1
      rw [t1]
      go_wp2_with fail
      refine ⟨HC.out, ?_⟩
      repeat first | (refine mix_quiet rfl rfl (fun K hK => ?_); unfold Grew; go_big_quiet_op; refine hK _ ?_; clear hK K) | (refine mix_skip' (a' := ?_) rfl ?_ ?_; rotate_left; focus (dsimp only [Act.put]; simp only [List.setIfInBounds_toArray, List.set_cons_succ, List.set_cons_zero]; rfl))
      refine mix_nil (fun _ => ?_)
      go_wp2_with fail
      go_ret
      exact ⟨ret_bool (by simp [mayRuleB, t2]), HB1.out⟩
  · simp only [Bool.not_eq_true] at t1
    go_enter Tryz.func17, Tryz.ntmps17
    go_wp2_with fail
    have HW := Lib.hid (HB.out (.cells #[.string r.head.name, .slice A0 r.head.terms.length c0, .slice A1 r.body.length c1, .slice A2 r.exprs.length c2, .slice A3 r.scopes.length c3] 33))
    have x0 : (w.alloc (.cells #[.string r.head.name, .slice A0 r.head.terms.length c0, .slice A1 r.body.length c1, .slice A2 r.exprs.length c2, .slice A3 r.scopes.length c3] 33)).cell? ⟨w.heap.size, 0, none⟩ = some (.string r.head.name) := by go_simp
    have x1 : (w.alloc (.cells #[.string r.head.name, .slice A0 r.head.terms.length c0, .slice A1 r.body.length c1, .slice A2 r.exprs.length c2, .slice A3 r.scopes.length c3] 33)).cell? ⟨w.heap.size, 1, none⟩ = some (.slice A0 r.head.terms.length c0) := by go_simp
    have x2 : (w.alloc (.cells #[.string r.head.name, .slice A0 r.head.terms.length c0, .slice A1 r.body.length c1, .slice A2 r.exprs.length c2, .slice A3 r.scopes.length c3] 33)).cell? ⟨w.heap.size, 2, none⟩ = some (.slice A1 r.body.length c1) := by go_simp
    have x3 : (w.alloc (.cells #[.string r.head.name, .slice A0 r.head.terms.length c0, .slice A1 r.body.length c1, .slice A2 r.exprs.length c2, .slice A3 r.scopes.length c3] 33)).cell? ⟨w.heap.size, 3, none⟩ = some (.slice A2 r.exprs.length c2) := by go_simp
    have x4 : (w.alloc (.cells #[.string r.head.name, .slice A0 r.head.terms.length c0, .slice A1 r.body.length c1, .slice A2 r.exprs.length c2, .slice A3 r.scopes.length c3] 33)).cell? ⟨w.heap.size, 4, none⟩ = some (.slice A3 r.scopes.length c3) := by go_simp
    generalize (w.alloc (.cells #[.string r.head.name, .slice A0 r.head.terms.length c0, .slice A1 r.body.length c1, .slice A2 r.exprs.length c2, .slice A3 r.scopes.length c3] 33)) = W at *
    have q0 := cell_regrown x0
    have q1 := cell_regrown x1
    have q2 := cell_regrown x2
    have q3 := cell_regrown x3
    have q4 := cell_regrown x4
    refine wp_region_mix (Grew W) (by kernel_rfl) (by kernel_rfl) (Grew.drew W) ?_
    repeat (refine mix_quiet rfl rfl (fun K hK => ?_); unfold Grew; go_big_quiet_op; refine hK _ ?_; clear hK K)
    refine mix_loud rfl rfl (fun K hK => ?_)
    go_wp2_with fail
    refine (refMayPred_any (d := d) (B := B) (vs := [_, _]) ((PrR d).keep HW.out.drew hB HP.out) (Nat.le_trans hB HW.out.size)).mono ?_
    rintro x w1 ⟨rfl, hb1⟩
    have HB1 := Lib.hid (HW.out.trans ((Below.refl _ W).drew.trans (hb1.mono (Nat.le_refl _)) |>.mono HW.out.size))
    have HC := Lib.hid (Grew.of ((Below.refl W.heap.size W).drew.trans (hb1.mono (Nat.le_refl _))))
    clear hb1
    rw [t1]
    go_wp2_with fail
    refine ⟨HC.out, ?_⟩
    repeat first | (refine mix_quiet rfl rfl (fun K hK => ?_); unfold Grew; go_big_quiet_op; refine hK _ ?_; clear hK K) | (refine mix_skip' (a' := ?_) rfl ?_ ?_; rotate_left; focus (dsimp only [Act.put]; simp only [List.setIfInBounds_toArray, List.set_cons_succ, List.set_cons_zero]; rfl))
    refine mix_nil (fun _ => ?_)
    go_wp2_with fail
    go_ret
    exact ⟨ret_bool (by simp [mayRuleB, t1]), HB1.out⟩
set_option maxRecDepth 100000 in
set_option maxHeartbeats 4000000 in
theorem refMayQueries_any (d : Nat) (l : List Ru) (A : Option Addr) (c B : Nat) (w : World) (hl : RL (RuR d) w B l A) (hn : l.length ≤ 140737488351232) (hB : B ≤ w.heap.size) :
    Calls Tryz.prog 54 #[.slice A l.length c] w fun e w' => e = .returned (.bool (mayQueriesB l)) ∧ Below w.heap.size w w' := by
  have HL := Lib.hid hl
  have HB0 := Lib.hid (Below.refl w.heap.size w)
  go_enter Tryz.func54, Tryz.ntmps54
  go_wp2_with fail
  go_loopw [7] (fun i wr => ∃ k : Nat, k ≤ l.length ∧ i = .int .i64 k ∧ Below w.heap.size w wr ∧ ∀ i (hi : i < k) (hi' : i < l.length), mayQueryB l[i] = true) (fun i _ => l.length - (intOf i).toNat)
  case atStart => exact ⟨0, Nat.zero_le _, rfl, Below.refl _ _, fun i h => absurd h (by omega)⟩
  case round =>
    obtain ⟨k, hk, rfl, hbw, hall⟩ := hrel
    have HA := Lib.hid hall
    have hBn : B ≤ w.heap.size := Nat.le_trans hB HB0.out.size
    clear hall
    by_cases hlt : k < l.length
    · have hl := HL.out.keep HB0.out hB
      obtain ⟨b, off, rfl, hob⟩ := hl.base hbw hBn (by omega)
      obtain ⟨x, vs, hx, hlen, hcell, hr⟩ := hl.at_ hbw hBn hlt
      obtain ⟨_, _, _, _, rfl, _, ⟨A0x, c0x, rfl, _⟩, ⟨A1x, c1x, rfl, _⟩, ⟨A2x, c2x, rfl, _⟩, ⟨A3x, c3x, rfl, _⟩⟩ := id hr
      have p0 : wr.cell? ⟨b, off + k * 5, none⟩ = some (.string x.head.name) := hcell 0 _ rfl
      have p1 : wr.cell? ⟨b, off + k * 5 + 1, none⟩ = some (.slice A0x x.head.terms.length c0x) := hcell 1 _ rfl
      have p2 : wr.cell? ⟨b, off + k * 5 + 2, none⟩ = some (.slice A1x x.body.length c1x) := hcell 2 _ rfl
      have p3 : wr.cell? ⟨b, off + k * 5 + 3, none⟩ = some (.slice A2x x.exprs.length c2x) := hcell 3 _ rfl
      have p4 : wr.cell? ⟨b, off + k * 5 + 4, none⟩ = some (.slice A3x x.scopes.length c3x) := hcell 4 _ rfl
      have HR := Lib.hid hr
      have HBw := Lib.hid hbw
      have HX := Lib.hid hx
      have hszr := hbw.size
      clear hl hcell hlen hr hx hbw
      go_wp2_with fail
      generalize hW2 : World.alloc _ _ = W2
      obtain ⟨hb2, hz2⟩ := al1 hW2
      clear hW2 p0 p1 p2 p3 p4
      refine (refMayQuery_any (d := d) (B := B) (r := x) (vs := [_, _, _, _, _]) ((RuR d).keep hb2 (by omega) HR.out) (by omega)).mono ?_
      rintro e w3_ ⟨rfl, hb3⟩
      have HB3_ := Lib.hid (bthen HBw.out (bthen hb2 hb3))
      have HBf := Lib.hid (bthen HB0.out HB3_.out)
      clear hb2 hb3 hz2
      by_cases hm : mayQueryB x = true
      · have HM := Lib.hid hm
        rw [hm]
        clear hm
        go_wp2_with fail
        go_roundw
        case rel => exact ⟨k + 1, by omega, by go_num, HB3_.out, fun i hi hi' => by
            rcases Nat.lt_or_ge i k with h1 | h1
            · exact HA.out i h1 hi'
            · obtain rfl : i = k := by omega
              rw [(List.getElem?_eq_some_iff.1 HX.out).2]; exact HM.out⟩
        case measure => simp [intOf]; omega
      · simp only [Bool.not_eq_true] at hm
        have HALL := Lib.hid (all_false HX.out hm)
        rw [hm]
        clear hm
        go_wp2_with fail
        go_ret
        refine ⟨ret_bool ?_, HBf.out⟩
        rw [mayQueriesB, HALL.out, Bool.and_false, Bool.and_false]
    · have HALL_1 := Lib.hid (all_true (show l.length ≤ k by omega) HA.out)
      generalize wr = w1 at *
      have HB1 := Lib.hid (bthen HB0.out hbw)
      clear hbw HA
      by_cases h1 : 1 ≤ l.length
      · have u1 : (l.length : Int) ≥ 1 := by omega
        have H1 := Lib.hid h1
        go_wp2_with fail
        go_ret
        exact ⟨ret_bool (by rw [mayQueriesB, decide_eq_true H1.out, HALL_1.out, Bool.true_and, Bool.and_true]), HB1.out⟩
      · have u1 : ¬ (l.length : Int) ≥ 1 := by omega
        have H1 := Lib.hid h1
        go_wp2_with fail
        go_ret
        exact ⟨ret_bool (by rw [mayQueriesB, decide_eq_false H1.out, Bool.false_and]), HB1.out⟩

set_option maxRecDepth 100000 in
set_option maxHeartbeats 2000000 in
theorem refMayCheck_any {d B : Nat} {x : Ck} {vs : List Value} {w : World} (hx : (CkR d).rd w B x vs) (hB : B ≤ w.heap.size) :
    Calls Tryz.prog 20 #[.agg vs.toArray] w fun e w' => e = .returned (.bool (mayCheckB x)) ∧ Below w.heap.size w w' := by
  obtain ⟨_, rfl, A, c, rfl, h1, h2, hl⟩ := hx
  simp only [RuR] at h2
  have HL := Lib.hid hl
  clear hl
  go_enter Tryz.func20, Tryz.ntmps20
  go_wp2_with fail
  generalize hW : World.alloc _ _ = w1
  obtain ⟨hb, hz⟩ := al1 hW
  clear hW
  refine (refMayQueries_any d x.queries A c B w1 (HL.out.keep hb hB) (by omega) (by omega)).mono ?_
  rintro e w2 ⟨rfl, hb2⟩
  have HB := Lib.hid (bthen hb hb2)
  clear hb hb2 hz
  go_wp2_with fail
  go_ret
  exact ⟨rfl, HB.out⟩
end Go.Proofs.YtfknlghegchbkabGreat
