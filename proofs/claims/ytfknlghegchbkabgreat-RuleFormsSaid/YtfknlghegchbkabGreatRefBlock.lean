/- viaticumref11: MayBlock, MayPolicy, SameRule, sameRules, SameBlock, SamePolicy, as the program's; rule.MayPolicy, SamePolicy. Printed by wip/gen/mk_refblock.py. -/
import Derived.Test.YtfknlghegchbkabGreatRefRule2
import Derived.Test.YtfknlghegchbkabGreatRefSame
set_option linter.unusedVariables false
set_option linter.unusedSimpArgs false
namespace Go.Proofs.YtfknlghegchbkabGreat
open Go.ChangeShapes Go.WideShapes Go.ChangeAt Go.RowKit

set_option maxRecDepth 100000 in
set_option maxHeartbeats 2000000 in
theorem mayPolicy_any {d B : Nat} {x : Ck} {vs : List Value} {w : World} (hx : (CkR d).rd w B x vs) (hB : B ≤ w.heap.size) :
    Calls Tryz.prog 24 #[.agg vs.toArray] w fun e w' => e = .returned (.bool (mayCheckB x)) ∧ Below w.heap.size w w' := by
  obtain ⟨_, rfl, A, c, rfl, h1, h2, hl⟩ := hx
  simp only [RuR] at h2
  have HL := Lib.hid hl
  clear hl
  go_enter Tryz.func24, Tryz.ntmps24
  go_wp2_with fail
  generalize hW : World.alloc _ _ = w1
  obtain ⟨hb, hz⟩ := al1 hW
  clear hW
  refine (queries_any d x.queries A c B w1 (HL.out.keep hb hB) (by omega) (by omega)).mono ?_
  rintro e w2 ⟨rfl, hb2⟩
  have HB := Lib.hid (bthen hb hb2)
  clear hb hb2 hz
  go_wp2_with fail
  go_ret
  exact ⟨rfl, HB.out⟩

set_option maxRecDepth 100000 in
set_option maxHeartbeats 2000000 in
theorem refMayPolicy_any {d B : Nat} {x : Ck} {vs : List Value} {w : World} (hx : (CkR d).rd w B x vs) (hB : B ≤ w.heap.size) :
    Calls Tryz.prog 25 #[.agg vs.toArray] w fun e w' => e = .returned (.bool (mayCheckB x)) ∧ Below w.heap.size w w' := by
  obtain ⟨_, rfl, A, c, rfl, h1, h2, hl⟩ := hx
  simp only [RuR] at h2
  have HL := Lib.hid hl
  clear hl
  go_enter Tryz.func25, Tryz.ntmps25
  go_wp2_with fail
  generalize hW : World.alloc _ _ = w1
  obtain ⟨hb, hz⟩ := al1 hW
  clear hW
  refine (refMayQueries_any d x.queries A c B w1 (HL.out.keep hb hB) (by omega) (by omega)).mono ?_
  rintro e w2 ⟨rfl, hb2⟩
  have HB := Lib.hid (bthen hb hb2)
  clear hb hb2 hz
  go_wp2_with fail
  go_ret
  exact ⟨rfl, HB.out⟩

set_option maxRecDepth 100000 in
set_option maxHeartbeats 4000000 in
theorem refMayBlock_any {d B : Nat} {b : Bk} {vs : List Value} {w : World} (hx : (BkR d).rd w B b vs) (hB : B ≤ w.heap.size) :
    Calls Tryz.prog 23 #[.agg vs.toArray] w fun e w' => e = .returned (.bool (mayBlockB b)) ∧ Below w.heap.size w w' := by
  obtain ⟨_, _, _, _, rfl, ⟨A0, c0, rfl, g0, h0, hl0⟩, ⟨A1, c1, rfl, g1, h1, hl1⟩, ⟨A2, c2, rfl, g2, h2, hl2⟩, ⟨A3, c3, rfl, g3, h3, hl3⟩⟩ := hx
  simp only [PrR, RuR, CkR, ScR] at h0 h1 h2 h3
  have HL0 := Lib.hid hl0
  have HL1 := Lib.hid hl1
  have HL2 := Lib.hid hl2
  have HL3 := Lib.hid hl3
  have HB := Lib.hid (fun o : Obj => (Below.refl w.heap.size w).alloc (Nat.le_refl _) o)
  clear hl0 hl1 hl2 hl3
  by_cases t1 : b.facts.length ≤ 32
  rotate_left
  · have f1 : decide ((b.facts.length : Int) ≤ 32) = false := by rw [decide_eq_false_iff_not]; omega
    have F1 := Lib.hid f1
    clear f1
    go_enter Tryz.func23, Tryz.ntmps23
    go_wp2_with fail
    go_ret
    exact ⟨ret_bool (by unfold mayBlockB; rw [F1.out]; simp), HB.out _⟩
  by_cases t2 : b.rules.length ≤ 32
  rotate_left
  · have f2 : decide ((b.rules.length : Int) ≤ 32) = false := by rw [decide_eq_false_iff_not]; omega
    have F2 := Lib.hid f2
    clear f2
    go_enter Tryz.func23, Tryz.ntmps23
    go_wp2_with fail
    go_ret
    exact ⟨ret_bool (by unfold mayBlockB; rw [F2.out]; simp), HB.out _⟩
  by_cases t3 : b.checks.length ≤ 32
  rotate_left
  · have f3 : decide ((b.checks.length : Int) ≤ 32) = false := by rw [decide_eq_false_iff_not]; omega
    have F3 := Lib.hid f3
    clear f3
    go_enter Tryz.func23, Tryz.ntmps23
    go_wp2_with fail
    go_ret
    exact ⟨ret_bool (by unfold mayBlockB; rw [F3.out]; simp), HB.out _⟩
  go_enter Tryz.func23, Tryz.ntmps23
  go_wp2_with fail
  generalize hW : World.alloc _ _ = w1
  obtain ⟨hb, hz⟩ := al1 hW
  have b_b_1 := n11 hW
  have HB1 := Lib.hid hb
  clear hW hz hb
  refine (refMayScopes_any b.scopes A3 c3 B w1 (HL3.out.keep HB1.out hB) (by omega) (Nat.le_trans hB HB1.out.size)).mono ?_
  rintro x w2 ⟨rfl, hb⟩
  have b_b_2 := b_b_1.later hb
  have HB2 := Lib.hid (bthen HB1.out hb)
  clear b_b_1
  clear hb
  by_cases t4 : (decide ((b.scopes.length : Int) ≤ 4) && b.scopes.all mayScopeB) = true
  rotate_left
  · simp only [Bool.not_eq_true] at t4
    have T4 := Lib.hid t4
    rw [t4]
    have k_b := b_b_2.cell
    have l_b := b_b_2.lt
    go_wp2_with fail
    clear k_b l_b
    go_ret
    exact ⟨ret_bool (by unfold mayBlockB; rw [T4.out]; simp), HB2.out⟩
  have T4 := Lib.hid t4
  rw [t4]
  clear t4
  have k_b := b_b_2.cell
  have l_b := b_b_2.lt
  go_wp2_with fail
  clear k_b l_b
  go_loopw [34] (fun i wr => ∃ k : Nat, k ≤ b.facts.length ∧ i = .int .i64 k ∧ Below w2.heap.size w2 wr ∧ ∀ i (hi : i < k) (hi' : i < b.facts.length), mayFactB b.facts[i] = true) (fun i _ => b.facts.length - (intOf i).toNat)
  case atStart => exact ⟨0, Nat.zero_le _, rfl, Below.refl _ _, fun i h => absurd h (by omega)⟩
  case round =>
    obtain ⟨k, hk, rfl, hbw, hall⟩ := hrel
    have HA := Lib.hid hall
    have hBn : B ≤ w2.heap.size := Nat.le_trans hB HB2.out.size
    clear hall
    by_cases hlt : k < b.facts.length
    · have hl := HL0.out.keep HB2.out hB
      obtain ⟨b, off, rfl, hob⟩ := hl.base hbw hBn (by omega)
      obtain ⟨x, vs, hx, hlen, hcell, hr⟩ := hl.at_ hbw hBn hlt
      obtain ⟨_, rfl, _, A0x, c0x, rfl, _⟩ := id hr
      have p0 : wr.cell? ⟨b, off + k * 2, none⟩ = some (.string x.name) := hcell 0 _ rfl
      have p1 : wr.cell? ⟨b, off + k * 2 + 1, none⟩ = some (.slice A0x x.terms.length c0x) := hcell 1 _ rfl
      have HR := Lib.hid hr
      have HBw := Lib.hid hbw
      have HX := Lib.hid hx
      have hszr := hbw.size
      clear hl hcell hlen hr hx hbw
      go_wp2_with fail
      generalize hW2 : World.alloc _ _ = W2
      obtain ⟨hb2, hz2⟩ := al1 hW2
      clear hW2 p0 p1
      refine (refMayFact_any (d := d) (B := B) (p := x) (vs := [_, _]) ((PrR d).keep hb2 (by omega) HR.out) (by omega)).mono ?_
      rintro e w3_ ⟨rfl, hb3⟩
      have HB3_ := Lib.hid (bthen HBw.out (bthen hb2 hb3))
      have HBf := Lib.hid (bthen HB2.out HB3_.out)
      clear hb2 hb3 hz2
      by_cases hm : mayFactB x = true
      · have HM := Lib.hid hm
        rw [hm]
        clear hm
        go_wp2_with fail
        go_roundw
        case rel => exact ⟨k + 1, by omega, by go_num, HB3_.out, fun i hi hi' => by
            rcases Nat.lt_or_ge i k with h1 | h1
            · exact HA.out i h1 hi'
            · obtain rfl : i = k := by omega
              rw [(List.getElem?_eq_some_iff.1 HX.out).2]; exact HM.out⟩
        case measure => simp [intOf]; omega
      · simp only [Bool.not_eq_true] at hm
        have HALL := Lib.hid (all_false HX.out hm)
        rw [hm]
        clear hm
        go_wp2_with fail
        go_ret
        refine ⟨ret_bool ?_, HBf.out⟩
        unfold mayBlockB
        rw [HALL.out]
        simp
    · have HALL_3 := Lib.hid (all_true (show b.facts.length ≤ k by omega) HA.out)
      generalize wr = w3 at *
      have b_b_3 := b_b_2.later hbw
      have HB3 := Lib.hid (bthen HB2.out hbw)
      clear b_b_2
      clear hbw HA
      have k_b := b_b_3.cell
      have l_b := b_b_3.lt
      go_wp2_with fail
      clear k_b l_b
      go_loopw [45] (fun i wr => ∃ k : Nat, k ≤ b.rules.length ∧ i = .int .i64 k ∧ Below w3.heap.size w3 wr ∧ ∀ i (hi : i < k) (hi' : i < b.rules.length), mayRuleB b.rules[i] = true) (fun i _ => b.rules.length - (intOf i).toNat)
      case atStart => exact ⟨0, Nat.zero_le _, rfl, Below.refl _ _, fun i h => absurd h (by omega)⟩
      case round =>
        obtain ⟨k, hk, rfl, hbw, hall⟩ := hrel
        have HA := Lib.hid hall
        have hBn : B ≤ w3.heap.size := Nat.le_trans hB HB3.out.size
        clear hall
        by_cases hlt : k < b.rules.length
        · have hl := HL1.out.keep HB3.out hB
          obtain ⟨b, off, rfl, hob⟩ := hl.base hbw hBn (by omega)
          obtain ⟨x, vs, hx, hlen, hcell, hr⟩ := hl.at_ hbw hBn hlt
          obtain ⟨_, _, _, _, rfl, _, ⟨A0x, c0x, rfl, _⟩, ⟨A1x, c1x, rfl, _⟩, ⟨A2x, c2x, rfl, _⟩, ⟨A3x, c3x, rfl, _⟩⟩ := id hr
          have p0 : wr.cell? ⟨b, off + k * 5, none⟩ = some (.string x.head.name) := hcell 0 _ rfl
          have p1 : wr.cell? ⟨b, off + k * 5 + 1, none⟩ = some (.slice A0x x.head.terms.length c0x) := hcell 1 _ rfl
          have p2 : wr.cell? ⟨b, off + k * 5 + 2, none⟩ = some (.slice A1x x.body.length c1x) := hcell 2 _ rfl
          have p3 : wr.cell? ⟨b, off + k * 5 + 3, none⟩ = some (.slice A2x x.exprs.length c2x) := hcell 3 _ rfl
          have p4 : wr.cell? ⟨b, off + k * 5 + 4, none⟩ = some (.slice A3x x.scopes.length c3x) := hcell 4 _ rfl
          have HR := Lib.hid hr
          have HBw := Lib.hid hbw
          have HX := Lib.hid hx
          have hszr := hbw.size
          clear hl hcell hlen hr hx hbw
          go_wp2_with fail
          generalize hW2 : World.alloc _ _ = W2
          obtain ⟨hb2, hz2⟩ := al1 hW2
          clear hW2 p0 p1 p2 p3 p4
          refine (refMayRule_any (d := d) (B := B) (r := x) (vs := [_, _, _, _, _]) ((RuR d).keep hb2 (by omega) HR.out) (by omega)).mono ?_
          rintro e w3_ ⟨rfl, hb3⟩
          have HB3_ := Lib.hid (bthen HBw.out (bthen hb2 hb3))
          have HBf := Lib.hid (bthen HB3.out HB3_.out)
          clear hb2 hb3 hz2
          by_cases hm : mayRuleB x = true
          · have HM := Lib.hid hm
            rw [hm]
            clear hm
            go_wp2_with fail
            go_roundw
            case rel => exact ⟨k + 1, by omega, by go_num, HB3_.out, fun i hi hi' => by
                rcases Nat.lt_or_ge i k with h1 | h1
                · exact HA.out i h1 hi'
                · obtain rfl : i = k := by omega
                  rw [(List.getElem?_eq_some_iff.1 HX.out).2]; exact HM.out⟩
            case measure => simp [intOf]; omega
          · simp only [Bool.not_eq_true] at hm
            have HALL := Lib.hid (all_false HX.out hm)
            rw [hm]
            clear hm
            go_wp2_with fail
            go_ret
            refine ⟨ret_bool ?_, HBf.out⟩
            unfold mayBlockB
            rw [HALL.out]
            simp
        · have HALL_4 := Lib.hid (all_true (show b.rules.length ≤ k by omega) HA.out)
          generalize wr = w4 at *
          have b_b_4 := b_b_3.later hbw
          have HB4 := Lib.hid (bthen HB3.out hbw)
          clear b_b_3
          clear hbw HA
          have k_b := b_b_4.cell
          have l_b := b_b_4.lt
          go_wp2_with fail
          clear k_b l_b
          go_loopw [56] (fun i wr => ∃ k : Nat, k ≤ b.checks.length ∧ i = .int .i64 k ∧ Below w4.heap.size w4 wr ∧ ∀ i (hi : i < k) (hi' : i < b.checks.length), mayCheckB b.checks[i] = true) (fun i _ => b.checks.length - (intOf i).toNat)
          case atStart => exact ⟨0, Nat.zero_le _, rfl, Below.refl _ _, fun i h => absurd h (by omega)⟩
          case round =>
            obtain ⟨k, hk, rfl, hbw, hall⟩ := hrel
            have HA := Lib.hid hall
            have hBn : B ≤ w4.heap.size := Nat.le_trans hB HB4.out.size
            clear hall
            by_cases hlt : k < b.checks.length
            · have hl := HL2.out.keep HB4.out hB
              obtain ⟨b, off, rfl, hob⟩ := hl.base hbw hBn (by omega)
              obtain ⟨x, vs, hx, hlen, hcell, hr⟩ := hl.at_ hbw hBn hlt
              obtain ⟨_, rfl, A0x, c0x, rfl, _⟩ := id hr
              have p0 : wr.cell? ⟨b, off + k * 2, none⟩ = some (.bool x.all) := hcell 0 _ rfl
              have p1 : wr.cell? ⟨b, off + k * 2 + 1, none⟩ = some (.slice A0x x.queries.length c0x) := hcell 1 _ rfl
              have HR := Lib.hid hr
              have HBw := Lib.hid hbw
              have HX := Lib.hid hx
              have hszr := hbw.size
              clear hl hcell hlen hr hx hbw
              go_wp2_with fail
              generalize hW2 : World.alloc _ _ = W2
              obtain ⟨hb2, hz2⟩ := al1 hW2
              clear hW2 p0 p1
              refine (refMayCheck_any (d := d) (B := B) (x := x) (vs := [_, _]) ((CkR d).keep hb2 (by omega) HR.out) (by omega)).mono ?_
              rintro e w3_ ⟨rfl, hb3⟩
              have HB3_ := Lib.hid (bthen HBw.out (bthen hb2 hb3))
              have HBf := Lib.hid (bthen HB4.out HB3_.out)
              clear hb2 hb3 hz2
              by_cases hm : mayCheckB x = true
              · have HM := Lib.hid hm
                rw [hm]
                clear hm
                go_wp2_with fail
                go_roundw
                case rel => exact ⟨k + 1, by omega, by go_num, HB3_.out, fun i hi hi' => by
                    rcases Nat.lt_or_ge i k with h1 | h1
                    · exact HA.out i h1 hi'
                    · obtain rfl : i = k := by omega
                      rw [(List.getElem?_eq_some_iff.1 HX.out).2]; exact HM.out⟩
                case measure => simp [intOf]; omega
              · simp only [Bool.not_eq_true] at hm
                have HALL := Lib.hid (all_false HX.out hm)
                rw [hm]
                clear hm
                go_wp2_with fail
                go_ret
                refine ⟨ret_bool ?_, HBf.out⟩
                unfold mayBlockB
                rw [HALL.out]
                simp
            · have HALL_5 := Lib.hid (all_true (show b.checks.length ≤ k by omega) HA.out)
              generalize wr = w5 at *
              have b_b_5 := b_b_4.later hbw
              have HB5 := Lib.hid (bthen HB4.out hbw)
              clear b_b_4
              clear hbw HA
              have k_b := b_b_5.cell
              have l_b := b_b_5.lt
              go_wp2_with fail
              clear k_b l_b
              go_ret
              refine ⟨ret_bool ?_, HB5.out⟩
              unfold mayBlockB
              rw [HALL_3.out, HALL_4.out, HALL_5.out, T4.out, decide_eq_true (show (b.facts.length : Int) ≤ 32 by omega), decide_eq_true (show (b.rules.length : Int) ≤ 32 by omega), decide_eq_true (show (b.checks.length : Int) ≤ 32 by omega)]
              rfl

set_option maxRecDepth 100000 in
set_option maxHeartbeats 4000000 in
theorem refSameExpr_any {d : Nat} {a b : (List OpD)} {va vb : List Value} {B : Nat} {w : World} (ha : (ExR d).rd w B a va) (hb : (ExR d).rd w B b vb) (hB : B ≤ w.heap.size) :
    Calls Tryz.prog 125 #[.agg va.toArray, .agg vb.toArray] w fun e w' => e = .returned (.bool (sameExB a b)) ∧ Below w.heap.size w w' := by
  obtain ⟨_, rfl, A0, c0, rfl, g0, h0, hl0⟩ := ha
  obtain ⟨_, rfl, A0', c0', rfl, g0', h0', hl0'⟩ := hb
  simp only [OpR] at h0 h0'
  have HL0 := Lib.hid hl0
  have HL0' := Lib.hid hl0'
  have HBa := Lib.hid (fun o o' : Obj => ((Below.refl w.heap.size w).alloc (Nat.le_refl _) o).alloc (by simp) o')
  clear hl0 hl0'
  have hRk : (OpR d).k = 7 := rfl
  by_cases hne : a.length = b.length
  rotate_left
  · have h1_ : ((a.length : Int) != (b.length : Int)) = true := by simp; omega
    have HN := Lib.hid hne
    clear hne
    go_enter Tryz.func125, Tryz.ntmps125
    go_wp2_with fail
    go_ret
    exact ⟨ret_bool (by unfold sameExB; rw [eqL_len HN.out]), HBa.out _ _⟩
  have h1_ : ((a.length : Int) != (b.length : Int)) = false := by simp; omega
  have HN := Lib.hid hne
  clear hne
  go_enter Tryz.func125, Tryz.ntmps125
  go_wp2_with fail
  generalize hW : World.alloc _ _ = W
  obtain ⟨hb, hz⟩ := al2 hW
  have ba := n21 hW
  have bb := n22 hW
  have HB1 := Lib.hid hb
  have hB1 : B ≤ W.heap.size := by omega
  clear hW hb hz HBa
  go_loopw [18] (fun i wr => ∃ k : Nat, k ≤ a.length ∧ i = .int .i64 k ∧ Below W.heap.size W wr ∧ Hid (eqL sameOpB a b = eqL sameOpB (a.drop k) (b.drop k))) (fun i _ => a.length - (intOf i).toNat)
  case atStart => exact ⟨0, Nat.zero_le _, rfl, Below.refl _ _, rfl⟩
  case round =>
    obtain ⟨k, hk, rfl, hbw, HE⟩ := hrel
    have cb := (bb.later hbw).cell
    have lb := (bb.later hbw).lt
    by_cases hlt : k < a.length
    · have hlt2 : k < b.length := by have := HN.out; omega
      have hl := HL0.out.keep HB1.out hB
      have hl' := HL0'.out.keep HB1.out hB
      obtain ⟨bq, off, rfl, hob⟩ := hl.base hbw hB1 (by omega)
      obtain ⟨bq', off', rfl, hob'⟩ := hl'.base hbw hB1 (by omega)
      obtain ⟨x, vs, hx, hlen, hcell, hr⟩ := hl.at_ hbw hB1 hlt
      obtain ⟨_, rfl, _, _, _, htx⟩ := id hr
      obtain ⟨A0x, c0x, rfl, _⟩ := RTm.cells htx
      clear htx
      have p0 : wr.cell? ⟨bq, off + k * 7, none⟩ = some (.int .i64 x.kind) := by have := hcell 0 _ rfl; simpa [hRk] using this
      have p1 : wr.cell? ⟨bq, off + k * 7 + 1, none⟩ = some (.int .i64 x.term.kind) := by have := hcell 1 _ rfl; simpa [hRk] using this
      have p2 : wr.cell? ⟨bq, off + k * 7 + 2, none⟩ = some (.int .i64 x.term.n) := by have := hcell 2 _ rfl; simpa [hRk] using this
      have p3 : wr.cell? ⟨bq, off + k * 7 + 3, none⟩ = some (.string x.term.s) := by have := hcell 3 _ rfl; simpa [hRk] using this
      have p4 : wr.cell? ⟨bq, off + k * 7 + 4, none⟩ = some (.slice A0x x.term.l.length c0x) := by have := hcell 4 _ rfl; simpa [hRk] using this
      have p5 : wr.cell? ⟨bq, off + k * 7 + 5, none⟩ = some (.int .i64 x.code) := by have := hcell 5 _ rfl; simpa [hRk] using this
      have p6 : wr.cell? ⟨bq, off + k * 7 + 6, none⟩ = some (.int .i64 x.skip) := by have := hcell 6 _ rfl; simpa [hRk] using this
      clear hcell hlen
      obtain ⟨y, vs, hy, hlen, hcell, hr'⟩ := hl'.at_ hbw hB1 hlt2
      obtain ⟨_, rfl, _, _, _, hty⟩ := id hr'
      obtain ⟨A0y, c0y, rfl, _⟩ := RTm.cells hty
      clear hty
      have e0 : wr.cell? ⟨bq', off' + k * 7, none⟩ = some (.int .i64 y.kind) := by have := hcell 0 _ rfl; simpa [hRk] using this
      have e1 : wr.cell? ⟨bq', off' + k * 7 + 1, none⟩ = some (.int .i64 y.term.kind) := by have := hcell 1 _ rfl; simpa [hRk] using this
      have e2 : wr.cell? ⟨bq', off' + k * 7 + 2, none⟩ = some (.int .i64 y.term.n) := by have := hcell 2 _ rfl; simpa [hRk] using this
      have e3 : wr.cell? ⟨bq', off' + k * 7 + 3, none⟩ = some (.string y.term.s) := by have := hcell 3 _ rfl; simpa [hRk] using this
      have e4 : wr.cell? ⟨bq', off' + k * 7 + 4, none⟩ = some (.slice A0y y.term.l.length c0y) := by have := hcell 4 _ rfl; simpa [hRk] using this
      have e5 : wr.cell? ⟨bq', off' + k * 7 + 5, none⟩ = some (.int .i64 y.code) := by have := hcell 5 _ rfl; simpa [hRk] using this
      have e6 : wr.cell? ⟨bq', off' + k * 7 + 6, none⟩ = some (.int .i64 y.skip) := by have := hcell 6 _ rfl; simpa [hRk] using this
      clear hcell hlen
      have HE2 : Hid (eqL sameOpB a b = (sameOpB x y && eqL sameOpB (a.drop (k + 1)) (b.drop (k + 1)))) := by
        obtain ⟨h1, h2⟩ := List.getElem?_eq_some_iff.1 hx
        obtain ⟨h3, h4⟩ := List.getElem?_eq_some_iff.1 hy
        have := HE.out
        rw [List.drop_eq_getElem_cons h1, List.drop_eq_getElem_cons h3, h2, h4] at this
        exact this
      obtain ⟨_, ev1, _, _, _, hta⟩ := hr
      obtain ⟨_, ev2, _, _, _, htb⟩ := hr'
      obtain ⟨_, _, rfl, _⟩ := RTm.cells hta
      obtain ⟨_, _, rfl, _⟩ := RTm.cells htb
      simp only [List.cons_append, List.nil_append, List.cons.injEq, Value.slice.injEq, true_and, and_true] at ev1 ev2
      obtain ⟨rfl, rfl⟩ := ev1
      obtain ⟨rfl, rfl⟩ := ev2
      have HT := Lib.hid (And.intro hta htb)
      have HBw := Lib.hid hbw
      have hszr := hbw.size
      clear hx hy HE hbw hl hl' hta htb
      have hc : ((x.kind != y.kind) = false ∧ (x.code != y.code) = false ∧ (x.skip != y.skip) = false) ∨ (((x.kind != y.kind) = true ∨ ((x.kind != y.kind) = false ∧ (x.code != y.code) = true) ∨ ((x.kind != y.kind) = false ∧ (x.code != y.code) = false ∧ (x.skip != y.skip) = true))) := by
        cases (x.kind != y.kind) <;> cases (x.code != y.code) <;> cases (x.skip != y.skip) <;> simp
      rcases hc with ⟨q1, q2, q3⟩ | hc
      · have HO : Hid (sameOpB x y = sameTB x.term y.term) := by
          have r1 := bne_eq_false_iff_eq.1 q1
          have r2 := bne_eq_false_iff_eq.1 q2
          have r3 := bne_eq_false_iff_eq.1 q3
          unfold sameOpB
          rw [decide_eq_true r1, decide_eq_true r2, decide_eq_true r3]
          exact rfl
        go_wp2_with fail
        generalize hW2 : World.alloc _ _ = W2
        obtain ⟨hb2, hz2⟩ := al2 hW2
        clear hW2 p0 p1 p2 p3 p4 p5 p6 e0 e1 e2 e3 e4 e5 e6 cb lb
        refine (refSame_any (d := d) (B := B) (a := x.term) (b := y.term) (va := [_, _, _, _]) (vb := [_, _, _, _]) (RTm.below hb2 (by omega) HT.out.1) (RTm.below hb2 (by omega) HT.out.2) (by omega)).mono ?_
        rintro e w3 ⟨rfl, hb3⟩
        have HB3 := Lib.hid (bthen HBw.out (bthen hb2 hb3))
        have HBf := Lib.hid (bthen HB1.out HB3.out)
        clear hb2 hb3 hz2
        by_cases hs : sameTB x.term y.term = true
        · have HS := Lib.hid hs
          rw [hs]
          clear hs
          go_wp2_with fail
          go_roundw
          case rel => exact ⟨k + 1, by omega, by go_num, HB3.out, by have := HE2.out; rw [HO.out, HS.out, Bool.true_and] at this; exact this⟩
          case measure => simp [intOf]; omega
        · simp only [Bool.not_eq_true] at hs
          have HS := Lib.hid hs
          rw [hs]
          clear hs
          go_wp2_with fail
          go_ret
          exact ⟨ret_bool (by unfold sameExB; rw [HE2.out, HO.out, HS.out]; rfl), HBf.out⟩
      · have HO : Hid (sameOpB x y = false) := by
          unfold sameOpB
          rcases hc with q | ⟨_, q⟩ | ⟨_, _, q⟩
          all_goals
            rw [decide_eq_false (bne_iff_ne.1 q)]
            simp only [Bool.false_and, Bool.and_false]
            exact Lib.hid trivial
        have HBf := Lib.hid (fun o o' : Obj => bthen HB1.out (bthen HBw.out (((Below.refl wr.heap.size wr).alloc (Nat.le_refl _) o).alloc (by simp) o')))
        rcases hc with q1 | ⟨q1, q2⟩ | ⟨q1, q2, q3⟩
        all_goals
          go_wp2_with fail
          go_ret
          exact ⟨ret_bool (by unfold sameExB; rw [HE2.out, HO.out]; rfl), HBf.out _ _⟩
    · have HE2 : Hid (eqL sameOpB a b = true) := by
        have := HE.out
        rw [List.drop_eq_nil_iff.2 (show a.length ≤ k by omega), List.drop_eq_nil_iff.2 (show b.length ≤ k by have := HN.out; omega)] at this
        exact this
      have HBf := Lib.hid (bthen HB1.out hbw)
      clear HE
      go_wp2_with fail
      go_ret
      exact ⟨ret_bool (by unfold sameExB; rw [HE2.out]), HBf.out⟩

set_option maxRecDepth 100000 in
set_option maxHeartbeats 2000000 in
theorem refSameRule_any {d : Nat} {a b : Ru} {va vb : List Value} {B : Nat} {w : World} (ha : (RuR d).rd w B a va) (hb : (RuR d).rd w B b vb) (hB : B ≤ w.heap.size) :
    Calls Tryz.prog 96 #[.agg va.toArray, .agg vb.toArray] w fun e w' => e = .returned (.bool (sameRuB a b)) ∧ Below w.heap.size w w' := by
  have HA := Lib.hid (And.intro ha hb)
  obtain ⟨_, _, _, _, rfl, hs, ⟨A0, c0, rfl, g0, h0, hl0⟩, ⟨A1, c1, rfl, g1, h1, hl1⟩, ⟨A2, c2, rfl, g2, h2, hl2⟩, ⟨A3, c3, rfl, g3, h3, hl3⟩⟩ := id ha
  obtain ⟨_, _, _, _, rfl, hs', ⟨A0', c0', rfl, g0', h0', hl0'⟩, ⟨A1', c1', rfl, g1', h1', hl1'⟩, ⟨A2', c2', rfl, g2', h2', hl2'⟩, ⟨A3', c3', rfl, g3', h3', hl3'⟩⟩ := id hb
  simp only [TmR, PrR, ExR, ScR] at *
  have HL0 := Lib.hid hl0
  have HL0' := Lib.hid hl0'
  have HL1 := Lib.hid hl1
  have HL1' := Lib.hid hl1'
  have HL2 := Lib.hid hl2
  have HL2' := Lib.hid hl2'
  have HL3 := Lib.hid hl3
  have HL3' := Lib.hid hl3'
  clear ha hb hl0 hl0' hl1 hl1' hl2 hl2' hl3 hl3'
  have HP := Lib.hid (And.intro (show (PrR d).rd w B a.head [.string a.head.name, .slice A0 a.head.terms.length c0] from ⟨_, rfl, hs, A0, c0, rfl, g0, by simp only [TmR]; omega, HL0.out⟩) (show (PrR d).rd w B b.head [.string b.head.name, .slice A0' b.head.terms.length c0'] from ⟨_, rfl, hs', A0', c0', rfl, g0', by simp only [TmR]; omega, HL0'.out⟩))
  go_enter Tryz.func96, Tryz.ntmps96
  go_wp2_with fail
  generalize hW : World.alloc _ _ = w1
  obtain ⟨hb, hz⟩ := al2 hW
  have b_a_1 := n21 hW
  have b_b_1 := n22 hW
  have HB1 := Lib.hid hb
  clear hW hz hb
  refine (refSamePred_any (d := d) (B := B) (va := [_, _]) (vb := [_, _]) ((PrR d).keep HB1.out hB HP.out.1) ((PrR d).keep HB1.out hB HP.out.2) (Nat.le_trans hB HB1.out.size)).mono ?_
  rintro x w2 ⟨rfl, hb⟩
  have b_a_2 := b_a_1.later hb
  have b_b_2 := b_b_1.later hb
  have HB2 := Lib.hid (bthen HB1.out hb)
  clear b_a_1 b_b_1
  clear hb
  by_cases t1 : samePrB a.head b.head = true
  rotate_left
  · simp only [Bool.not_eq_true] at t1
    have T1 := Lib.hid t1
    rw [t1]
    have k_a := b_a_2.cell
    have l_a := b_a_2.lt
    have k_b := b_b_2.cell
    have l_b := b_b_2.lt
    go_wp2_with fail
    clear k_a l_a k_b l_b
    go_ret
    exact ⟨ret_bool (by simp [sameRuB, T1.out]), HB2.out⟩
  have T1 := Lib.hid t1
  rw [t1]
  clear t1
  have k_a := b_a_2.cell
  have l_a := b_a_2.lt
  have k_b := b_b_2.cell
  have l_b := b_b_2.lt
  go_wp2_with fail
  clear k_a l_a k_b l_b
  refine (refSamePreds_any d a.body b.body A1 A1' c1 c1' B _ (HL1.out.keep HB2.out hB) (HL1'.out.keep HB2.out hB) (Nat.le_trans hB HB2.out.size) (by omega) (by omega)).mono ?_
  rintro x w3 ⟨rfl, hb⟩
  have b_a_3 := b_a_2.later hb
  have b_b_3 := b_b_2.later hb
  have HB3 := Lib.hid (bthen HB2.out hb)
  clear b_a_2 b_b_2
  clear hb
  by_cases t2 : eqL samePrB a.body b.body = true
  rotate_left
  · simp only [Bool.not_eq_true] at t2
    have T2 := Lib.hid t2
    rw [t2]
    have k_a := b_a_3.cell
    have l_a := b_a_3.lt
    have k_b := b_b_3.cell
    have l_b := b_b_3.lt
    go_wp2_with fail
    clear k_a l_a k_b l_b
    go_ret
    exact ⟨ret_bool (by simp [sameRuB, T1.out, T2.out]), HB3.out⟩
  have T2 := Lib.hid t2
  rw [t2]
  clear t2
  by_cases hne : a.exprs.length = b.exprs.length
  rotate_left
  · have h1_ : ((a.exprs.length : Int) != (b.exprs.length : Int)) = true := by simp; omega
    have HN := Lib.hid hne
    clear hne
    have k_a := b_a_3.cell
    have l_a := b_a_3.lt
    have k_b := b_b_3.cell
    have l_b := b_b_3.lt
    go_wp2_with fail
    clear k_a l_a k_b l_b
    go_ret
    exact ⟨ret_bool (by simp [sameRuB, eqL_len HN.out]), HB3.out⟩
  have h1_ : ((a.exprs.length : Int) != (b.exprs.length : Int)) = false := by simp; omega
  have HN := Lib.hid hne
  clear hne
  have k_a := b_a_3.cell
  have l_a := b_a_3.lt
  have k_b := b_b_3.cell
  have l_b := b_b_3.lt
  go_wp2_with fail
  clear k_a l_a k_b l_b
  refine (refSameScopes_any a.scopes b.scopes A3 A3' c3 c3' B _ (HL3.out.keep HB3.out hB) (HL3'.out.keep HB3.out hB) (Nat.le_trans hB HB3.out.size) (by omega) (by omega)).mono ?_
  rintro x w4 ⟨rfl, hb⟩
  have b_a_4 := b_a_3.later hb
  have b_b_4 := b_b_3.later hb
  have HB4 := Lib.hid (bthen HB3.out hb)
  clear b_a_3 b_b_3
  clear hb
  by_cases t3 : eqL sameScB a.scopes b.scopes = true
  rotate_left
  · simp only [Bool.not_eq_true] at t3
    have T3 := Lib.hid t3
    rw [t3]
    have k_a := b_a_4.cell
    have l_a := b_a_4.lt
    have k_b := b_b_4.cell
    have l_b := b_b_4.lt
    go_wp2_with fail
    clear k_a l_a k_b l_b
    go_ret
    exact ⟨ret_bool (by simp [sameRuB, T1.out, T2.out, T3.out]), HB4.out⟩
  have T3 := Lib.hid t3
  rw [t3]
  clear t3
  have k_a := b_a_4.cell
  have l_a := b_a_4.lt
  have k_b := b_b_4.cell
  have l_b := b_b_4.lt
  go_wp2_with fail
  clear k_a l_a k_b l_b
  go_loopw [40] (fun i wr => ∃ k : Nat, k ≤ a.exprs.length ∧ i = .int .i64 k ∧ Below w4.heap.size w4 wr ∧ Hid (eqL sameExB a.exprs b.exprs = eqL sameExB (a.exprs.drop k) (b.exprs.drop k))) (fun i _ => a.exprs.length - (intOf i).toNat)
  case atStart => exact ⟨0, Nat.zero_le _, rfl, Below.refl _ _, rfl⟩
  case round =>
    obtain ⟨k, hk, rfl, hbw, HE⟩ := hrel
    have hBn : B ≤ w4.heap.size := Nat.le_trans hB HB4.out.size
    have hRk : (ExR d).k = 1 := rfl
    by_cases hlt : k < a.exprs.length
    · have kk_a := (b_a_4.later hbw).cell
      have ll_a := (b_a_4.later hbw).lt
      have qq_a := (b_a_4.later hbw).regrown
      have kk_b := (b_b_4.later hbw).cell
      have ll_b := (b_b_4.later hbw).lt
      have qq_b := (b_b_4.later hbw).regrown
      have hlt2 : k < b.exprs.length := by have := HN.out; omega
      have hl := HL2.out.keep HB4.out hB
      have hl' := HL2'.out.keep HB4.out hB
      obtain ⟨bq, off, rfl, hob⟩ := hl.base hbw hBn (by omega)
      obtain ⟨bq', off', rfl, hob'⟩ := hl'.base hbw hBn (by omega)
      obtain ⟨x, vs, hx, hlen, hcell, hr⟩ := hl.at_ hbw hBn hlt
      obtain ⟨_, rfl, A0x, c0x, rfl, _⟩ := id hr
      have p0 : wr.cell? ⟨bq, off + k, none⟩ = some (.slice A0x x.length c0x) := by have := hcell 0 _ rfl; simpa [hRk] using this
      clear hcell hlen
      obtain ⟨y, vs, hy, hlen, hcell, hr'⟩ := hl'.at_ hbw hBn hlt2
      obtain ⟨_, rfl, A0y, c0y, rfl, _⟩ := id hr'
      have e0 : wr.cell? ⟨bq', off' + k, none⟩ = some (.slice A0y y.length c0y) := by have := hcell 0 _ rfl; simpa [hRk] using this
      clear hcell hlen
      have HE2 : Hid (eqL sameExB a.exprs b.exprs = (sameExB x y && eqL sameExB (a.exprs.drop (k + 1)) (b.exprs.drop (k + 1)))) := by
        obtain ⟨h1, h2⟩ := List.getElem?_eq_some_iff.1 hx
        obtain ⟨h3, h4⟩ := List.getElem?_eq_some_iff.1 hy
        have := HE.out
        rw [List.drop_eq_getElem_cons h1, List.drop_eq_getElem_cons h3, h2, h4] at this
        exact this
      have HRR := Lib.hid (And.intro hr hr')
      have HBw := Lib.hid hbw
      have hBr : B ≤ wr.heap.size := by have := hbw.size; omega
      clear hx hy hr hr' HE hbw hl hl'
      go_wp2_with fail
      have q0 := cell_regrown p0
      have s0 := cell_regrown e0
      clear p0 e0 kk_a ll_a kk_b ll_b
      have hp : sameExB x y = true ∨ sameExB x y = false := by cases sameExB x y <;> simp
      rcases hp with hp | hp
      all_goals
        have HP := Lib.hid hp
        rw [hp] at HE2
        clear hp
        refine wp_region_quiet_below (by kernel_rfl) (by kernel_rfl) ?_
        repeat (go_big_quiet_step ((go_at_call 125; exact Calls.regrown_of (as_bool HP.out (refSameExpr_any (d := d) (B := B) (a := x) (b := y) (va := [_]) (vb := [_]) ((ExR d).keep (below_regrown _ _ _) hBr HRR.out.1) ((ExR d).keep (below_regrown _ _ _) hBr HRR.out.2) (Nat.le_trans hBr (below_regrown _ _ _).size))))))
        refine wpQuiet_nil ?_
        intro w3_ hw3
        have hb3 : Below wr.heap.size wr w3_ := by obtain ⟨p, rfl⟩ := hw3; exact below_regrown _ _ _
        clear hw3 q0 s0 qq_a qq_b
        have HB3_ := Lib.hid (bthen HBw.out hb3)
        have HBf := Lib.hid (bthen HB4.out HB3_.out)
        clear hb3
      · go_wp2_with fail
        go_roundw
        case rel => exact ⟨k + 1, by omega, by go_num, HB3_.out, by have := HE2.out; rw [Bool.true_and] at this; exact this⟩
        case measure => simp [intOf]; omega
      · have HALL : Hid (eqL sameExB a.exprs b.exprs = false) := by rw [HE2.out, Bool.false_and]; exact rfl
        go_wp2_with fail
        go_ret
        refine ⟨ret_bool ?_, HBf.out⟩
        simp [sameRuB, HALL.out]
    · have HALL_5 : Hid (eqL sameExB a.exprs b.exprs = true) := by
        have := HE.out
        rw [List.drop_eq_nil_iff.2 (show a.exprs.length ≤ k by omega), List.drop_eq_nil_iff.2 (show b.exprs.length ≤ k by have := HN.out; omega)] at this
        exact this
      clear HE
      generalize wr = w5 at *
      have b_a_5 := b_a_4.later hbw
      have b_b_5 := b_b_4.later hbw
      have HB5 := Lib.hid (bthen HB4.out hbw)
      clear b_a_4 b_b_4
      clear hbw
      have k_a := b_a_5.cell
      have l_a := b_a_5.lt
      have k_b := b_b_5.cell
      have l_b := b_b_5.lt
      go_wp2_with fail
      clear k_a l_a k_b l_b
      go_ret
      exact ⟨ret_bool (by simp [sameRuB, T1.out, T2.out, T3.out, HALL_5.out]), HB5.out⟩

set_option maxRecDepth 100000 in
set_option maxHeartbeats 2000000 in
theorem refSameRules_any (d : Nat) (xs ys : List Ru) (A A' : Option Addr) (c c' B : Nat) (w : World) (hl : RL (RuR d) w B xs A) (hl' : RL (RuR d) w B ys A') (hB : B ≤ w.heap.size) (hn : xs.length ≤ 140737488351232) (hn' : ys.length ≤ 140737488351232) :
    Calls Tryz.prog 60 #[.slice A xs.length c, .slice A' ys.length c'] w fun e w' => e = .returned (.bool (eqL sameRuB xs ys)) ∧ Below w.heap.size w w' := by
  have hRk : (RuR d).k = 5 := rfl
  by_cases hne : xs.length = ys.length
  rotate_left
  · have h1 : ((xs.length : Int) != (ys.length : Int)) = true := by simp; omega
    have HN := Lib.hid hne
    clear hne
    go_enter Tryz.func60, Tryz.ntmps60
    go_wp2_with fail
    go_ret
    exact ⟨ret_bool (eqL_len HN.out).symm, Below.refl _ _⟩
  have h1 : ((xs.length : Int) != (ys.length : Int)) = false := by simp; omega
  have HN := Lib.hid hne
  clear hne
  go_enter Tryz.func60, Tryz.ntmps60
  go_wp2_with fail
  go_loopw [13] (fun i wr => ∃ k : Nat, k ≤ xs.length ∧ i = .int .i64 k ∧ Below w.heap.size w wr ∧ Hid (eqL sameRuB xs ys = eqL sameRuB (xs.drop k) (ys.drop k))) (fun i _ => xs.length - (intOf i).toNat)
  case atStart => exact ⟨0, Nat.zero_le _, rfl, Below.refl _ _, rfl⟩
  case round =>
    obtain ⟨k, hk, rfl, hbw, HE⟩ := hrel
    by_cases hlt : k < xs.length
    · have hlt2 : k < ys.length := by have := HN.out; omega
      obtain ⟨bq, off, rfl, hob⟩ := hl.base hbw hB (by omega)
      obtain ⟨bq', off', rfl, hob'⟩ := hl'.base hbw hB (by omega)
      obtain ⟨x, vs, hx, hlen, hcell, hr⟩ := hl.at_ hbw hB hlt
      obtain ⟨_, _, _, _, rfl, _, ⟨A0x, c0x, rfl, _⟩, ⟨A1x, c1x, rfl, _⟩, ⟨A2x, c2x, rfl, _⟩, ⟨A3x, c3x, rfl, _⟩⟩ := id hr
      have p0 : wr.cell? ⟨bq, off + k * 5, none⟩ = some (.string x.head.name) := by have := hcell 0 _ rfl; simpa [hRk] using this
      have p1 : wr.cell? ⟨bq, off + k * 5 + 1, none⟩ = some (.slice A0x x.head.terms.length c0x) := by have := hcell 1 _ rfl; simpa [hRk] using this
      have p2 : wr.cell? ⟨bq, off + k * 5 + 2, none⟩ = some (.slice A1x x.body.length c1x) := by have := hcell 2 _ rfl; simpa [hRk] using this
      have p3 : wr.cell? ⟨bq, off + k * 5 + 3, none⟩ = some (.slice A2x x.exprs.length c2x) := by have := hcell 3 _ rfl; simpa [hRk] using this
      have p4 : wr.cell? ⟨bq, off + k * 5 + 4, none⟩ = some (.slice A3x x.scopes.length c3x) := by have := hcell 4 _ rfl; simpa [hRk] using this
      clear hcell hlen
      obtain ⟨y, vs, hy, hlen, hcell, hr'⟩ := hl'.at_ hbw hB hlt2
      obtain ⟨_, _, _, _, rfl, _, ⟨A0y, c0y, rfl, _⟩, ⟨A1y, c1y, rfl, _⟩, ⟨A2y, c2y, rfl, _⟩, ⟨A3y, c3y, rfl, _⟩⟩ := id hr'
      have e0 : wr.cell? ⟨bq', off' + k * 5, none⟩ = some (.string y.head.name) := by have := hcell 0 _ rfl; simpa [hRk] using this
      have e1 : wr.cell? ⟨bq', off' + k * 5 + 1, none⟩ = some (.slice A0y y.head.terms.length c0y) := by have := hcell 1 _ rfl; simpa [hRk] using this
      have e2 : wr.cell? ⟨bq', off' + k * 5 + 2, none⟩ = some (.slice A1y y.body.length c1y) := by have := hcell 2 _ rfl; simpa [hRk] using this
      have e3 : wr.cell? ⟨bq', off' + k * 5 + 3, none⟩ = some (.slice A2y y.exprs.length c2y) := by have := hcell 3 _ rfl; simpa [hRk] using this
      have e4 : wr.cell? ⟨bq', off' + k * 5 + 4, none⟩ = some (.slice A3y y.scopes.length c3y) := by have := hcell 4 _ rfl; simpa [hRk] using this
      clear hcell hlen
      have HE2 : Hid (eqL sameRuB xs ys = (sameRuB x y && eqL sameRuB (xs.drop (k + 1)) (ys.drop (k + 1)))) := by
        obtain ⟨h1, h2⟩ := List.getElem?_eq_some_iff.1 hx
        obtain ⟨h3, h4⟩ := List.getElem?_eq_some_iff.1 hy
        have := HE.out
        rw [List.drop_eq_getElem_cons h1, List.drop_eq_getElem_cons h3, h2, h4] at this
        exact this
      have HRR := Lib.hid (And.intro hr hr')
      have HBw := Lib.hid hbw
      have hBr : B ≤ wr.heap.size := by have := hbw.size; omega
      clear hx hy hr hr' HE hbw
      go_wp2_with fail
      have q0 := cell_regrown p0
      have q1 := cell_regrown p1
      have q2 := cell_regrown p2
      have q3 := cell_regrown p3
      have q4 := cell_regrown p4
      have s0 := cell_regrown e0
      have s1 := cell_regrown e1
      have s2 := cell_regrown e2
      have s3 := cell_regrown e3
      have s4 := cell_regrown e4
      clear p0 e0 p1 e1 p2 e2 p3 e3 p4 e4
      have hp : sameRuB x y = true ∨ sameRuB x y = false := by cases sameRuB x y <;> simp
      rcases hp with hp | hp
      all_goals
        have HP := Lib.hid hp
        rw [hp] at HE2
        clear hp
        refine wp_region_quiet_below (by kernel_rfl) (by kernel_rfl) ?_
        repeat (go_big_quiet_step ((go_at_call 96; exact Calls.regrown_of (as_bool HP.out (refSameRule_any (d := d) (B := B) (a := x) (b := y) (va := [_, _, _, _, _]) (vb := [_, _, _, _, _]) ((RuR d).keep (below_regrown _ _ _) hBr HRR.out.1) ((RuR d).keep (below_regrown _ _ _) hBr HRR.out.2) (Nat.le_trans hBr (below_regrown _ _ _).size))))))
        refine wpQuiet_nil ?_
        intro w3 hw3
        have hb3 : Below wr.heap.size wr w3 := by obtain ⟨p, rfl⟩ := hw3; exact below_regrown _ _ _
        clear hw3 q0 s0 q1 s1 q2 s2 q3 s3 q4 s4
        have HB3 := Lib.hid (bthen HBw.out hb3)
        clear hb3
      · go_wp2_with fail
        go_roundw
        case rel => exact ⟨k + 1, by omega, by go_num, HB3.out, by have := HE2.out; rw [Bool.true_and] at this; exact this⟩
        case measure => simp [intOf]; omega
      · go_wp2_with fail
        go_ret
        exact ⟨ret_bool (by rw [HE2.out]; rfl), HB3.out⟩
    · have HE2 : Hid (eqL sameRuB xs ys = true) := by
        have := HE.out
        rw [List.drop_eq_nil_iff.2 (show xs.length ≤ k by omega), List.drop_eq_nil_iff.2 (show ys.length ≤ k by have := HN.out; omega)] at this
        exact this
      clear HE
      go_wp2_with fail
      go_ret
      exact ⟨ret_bool HE2.out.symm, hbw⟩

set_option maxRecDepth 100000 in
set_option maxHeartbeats 2000000 in
theorem refSamePolicy_any {d : Nat} {a b : Ck} {va vb : List Value} {B : Nat} {w : World} (ha : (CkR d).rd w B a va) (hb : (CkR d).rd w B b vb) (hB : B ≤ w.heap.size) :
    Calls Tryz.prog 30 #[.agg va.toArray, .agg vb.toArray] w fun e w' => e = .returned (.bool (sameCkB a b)) ∧ Below w.heap.size w w' := by
  have HA := Lib.hid (And.intro ha hb)
  obtain ⟨_, rfl, ⟨A0, c0, rfl, g0, h0, hl0⟩⟩ := id ha
  obtain ⟨_, rfl, ⟨A0', c0', rfl, g0', h0', hl0'⟩⟩ := id hb
  simp only [RuR] at *
  have HL0 := Lib.hid hl0
  have HL0' := Lib.hid hl0'
  clear ha hb hl0 hl0'
  by_cases t1 : (a.all == b.all) = true
  rotate_left
  · simp only [Bool.not_eq_true] at t1
    have T1 := Lib.hid t1
    go_enter Tryz.func30, Tryz.ntmps30
    go_wp2_with fail
    go_ret
    refine ⟨ret_bool ?_, ((Below.refl _ _).alloc (Nat.le_refl _) _).alloc (by simp) _⟩
    unfold sameCkB
    rw [and_f (by first | exact T1.out | simpa using T1.out)]
  have T1 := Lib.hid t1
  go_enter Tryz.func30, Tryz.ntmps30
  go_wp2_with fail
  generalize hW : World.alloc _ _ = w1
  obtain ⟨hb, hz⟩ := al2 hW
  have b_a_1 := n21 hW
  have b_b_1 := n22 hW
  have HB1 := Lib.hid hb
  clear hW hz hb
  refine (refSameRules_any d a.queries b.queries A0 A0' c0 c0' B _ (HL0.out.keep HB1.out hB) (HL0'.out.keep HB1.out hB) (Nat.le_trans hB HB1.out.size) (by omega) (by omega)).mono ?_
  rintro x w2 ⟨rfl, hb⟩
  have b_a_2 := b_a_1.later hb
  have b_b_2 := b_b_1.later hb
  have HB2 := Lib.hid (bthen HB1.out hb)
  clear b_a_1 b_b_1
  clear hb
  obtain ⟨bb, hbb⟩ : ∃ bb, bb = eqL sameRuB a.queries b.queries := ⟨_, rfl⟩
  have HBB := Lib.hid hbb
  rw [← hbb]
  clear hbb
  have k_a := b_a_2.cell
  have l_a := b_a_2.lt
  have k_b := b_b_2.cell
  have l_b := b_b_2.lt
  go_wp2_with fail
  clear k_a l_a k_b l_b
  go_ret
  refine ⟨ret_bool ?_, HB2.out⟩
  unfold sameCkB
  rw [and_t (by first | exact T1.out | simpa using T1.out), HBB.out]

set_option maxRecDepth 100000 in
set_option maxHeartbeats 2000000 in
theorem samePolicy_any {d : Nat} {a b : Ck} {va vb : List Value} {B : Nat} {w : World} (ha : (CkR d).rd w B a va) (hb : (CkR d).rd w B b vb) (hB : B ≤ w.heap.size) :
    Calls Tryz.prog 29 #[.agg va.toArray, .agg vb.toArray] w fun e w' => e = .returned (.bool (sameCkB a b)) ∧ Below w.heap.size w w' := by
  have HA := Lib.hid (And.intro ha hb)
  obtain ⟨_, rfl, ⟨A0, c0, rfl, g0, h0, hl0⟩⟩ := id ha
  obtain ⟨_, rfl, ⟨A0', c0', rfl, g0', h0', hl0'⟩⟩ := id hb
  simp only [RuR] at *
  have HL0 := Lib.hid hl0
  have HL0' := Lib.hid hl0'
  clear ha hb hl0 hl0'
  by_cases t1 : (a.all == b.all) = true
  rotate_left
  · simp only [Bool.not_eq_true] at t1
    have T1 := Lib.hid t1
    go_enter Tryz.func29, Tryz.ntmps29
    go_wp2_with fail
    go_ret
    refine ⟨ret_bool ?_, ((Below.refl _ _).alloc (Nat.le_refl _) _).alloc (by simp) _⟩
    unfold sameCkB
    rw [and_f (by first | exact T1.out | simpa using T1.out)]
  have T1 := Lib.hid t1
  go_enter Tryz.func29, Tryz.ntmps29
  go_wp2_with fail
  generalize hW : World.alloc _ _ = w1
  obtain ⟨hb, hz⟩ := al2 hW
  have b_a_1 := n21 hW
  have b_b_1 := n22 hW
  have HB1 := Lib.hid hb
  clear hW hz hb
  refine (equalFuncRule_any d 42 #[] sameRuB a.queries b.queries A0 A0' c0 c0' B _ (ent Tryz.func42 (by kernel_rfl) rfl) (HL0.out.keep HB1.out hB) (HL0'.out.keep HB1.out hB) (Nat.le_trans hB HB1.out.size) (by omega) (by omega) (fun x y vs us w1 hb1 hx hy => sameRule_any hx hy (Nat.le_trans (Nat.le_trans hB HB1.out.size) hb1.size))).mono ?_
  rintro x w2 ⟨rfl, hb⟩
  have b_a_2 := b_a_1.later hb
  have b_b_2 := b_b_1.later hb
  have HB2 := Lib.hid (bthen HB1.out hb)
  clear b_a_1 b_b_1
  clear hb
  obtain ⟨bb, hbb⟩ : ∃ bb, bb = eqL sameRuB a.queries b.queries := ⟨_, rfl⟩
  have HBB := Lib.hid hbb
  rw [← hbb]
  clear hbb
  have k_a := b_a_2.cell
  have l_a := b_a_2.lt
  have k_b := b_b_2.cell
  have l_b := b_b_2.lt
  go_wp2_with fail
  clear k_a l_a k_b l_b
  go_ret
  refine ⟨ret_bool ?_, HB2.out⟩
  unfold sameCkB
  rw [and_t (by first | exact T1.out | simpa using T1.out), HBB.out]

end Go.Proofs.YtfknlghegchbkabGreat
