/- viaticumref11.SameBlock, as the program's Same. Printed by wip/gen/mk_refblock2.py. -/
import Derived.Test.YtfknlghegchbkabGreatRefBlock
set_option linter.unusedVariables false
set_option linter.unusedSimpArgs false
namespace Go.Proofs.YtfknlghegchbkabGreat
open Go.ChangeShapes Go.WideShapes Go.ChangeAt Go.RowKit

set_option maxRecDepth 100000 in
set_option maxHeartbeats 2000000 in
theorem refSameBlock_any {d : Nat} {a b : Bk} {va vb : List Value} {B : Nat} {w : World} (ha : (BkR d).rd w B a va) (hb : (BkR d).rd w B b vb) (hB : B ≤ w.heap.size) :
    Calls Tryz.prog 28 #[.agg va.toArray, .agg vb.toArray] w fun e w' => e = .returned (.bool (sameBkB a b)) ∧ Below w.heap.size w w' := by
  have HA := Lib.hid (And.intro ha hb)
  obtain ⟨_, _, _, _, rfl, ⟨A0, c0, rfl, g0, h0, hl0⟩, ⟨A1, c1, rfl, g1, h1, hl1⟩, ⟨A2, c2, rfl, g2, h2, hl2⟩, ⟨A3, c3, rfl, g3, h3, hl3⟩⟩ := id ha
  obtain ⟨_, _, _, _, rfl, ⟨A0', c0', rfl, g0', h0', hl0'⟩, ⟨A1', c1', rfl, g1', h1', hl1'⟩, ⟨A2', c2', rfl, g2', h2', hl2'⟩, ⟨A3', c3', rfl, g3', h3', hl3'⟩⟩ := id hb
  simp only [PrR, RuR, CkR, ScR] at *
  have HL0 := Lib.hid hl0
  have HL0' := Lib.hid hl0'
  have HL1 := Lib.hid hl1
  have HL1' := Lib.hid hl1'
  have HL2 := Lib.hid hl2
  have HL2' := Lib.hid hl2'
  have HL3 := Lib.hid hl3
  have HL3' := Lib.hid hl3'
  clear ha hb hl0 hl0' hl1 hl1' hl2 hl2' hl3 hl3'
  go_enter Tryz.func28, Tryz.ntmps28
  go_wp2_with fail
  generalize hW : World.alloc _ _ = w1
  obtain ⟨hb, hz⟩ := al2 hW
  have b_a_1 := n21 hW
  have b_b_1 := n22 hW
  have HB1 := Lib.hid hb
  clear hW hz hb
  refine (refSamePreds_any d a.facts b.facts A0 A0' c0 c0' B _ (HL0.out.keep HB1.out hB) (HL0'.out.keep HB1.out hB) (Nat.le_trans hB HB1.out.size) (by omega) (by omega)).mono ?_
  rintro x w2 ⟨rfl, hb⟩
  have b_a_2 := b_a_1.later hb
  have b_b_2 := b_b_1.later hb
  have HB2 := Lib.hid (bthen HB1.out hb)
  clear b_a_1 b_b_1
  clear hb
  by_cases t1 : eqL samePrB a.facts b.facts = true
  rotate_left
  · simp only [Bool.not_eq_true] at t1
    have T1 := Lib.hid t1
    rw [t1]
    have k_a := b_a_2.cell
    have l_a := b_a_2.lt
    have k_b := b_b_2.cell
    have l_b := b_b_2.lt
    go_wp2_with fail
    clear k_a l_a k_b l_b
    go_ret
    exact ⟨ret_bool (by simp [sameBkB, T1.out]), HB2.out⟩
  have T1 := Lib.hid t1
  rw [t1]
  clear t1
  have k_a := b_a_2.cell
  have l_a := b_a_2.lt
  have k_b := b_b_2.cell
  have l_b := b_b_2.lt
  go_wp2_with fail
  clear k_a l_a k_b l_b
  refine (refSameRules_any d a.rules b.rules A1 A1' c1 c1' B _ (HL1.out.keep HB2.out hB) (HL1'.out.keep HB2.out hB) (Nat.le_trans hB HB2.out.size) (by omega) (by omega)).mono ?_
  rintro x w3 ⟨rfl, hb⟩
  have b_a_3 := b_a_2.later hb
  have b_b_3 := b_b_2.later hb
  have HB3 := Lib.hid (bthen HB2.out hb)
  clear b_a_2 b_b_2
  clear hb
  by_cases t2 : eqL sameRuB a.rules b.rules = true
  rotate_left
  · simp only [Bool.not_eq_true] at t2
    have T2 := Lib.hid t2
    rw [t2]
    have k_a := b_a_3.cell
    have l_a := b_a_3.lt
    have k_b := b_b_3.cell
    have l_b := b_b_3.lt
    go_wp2_with fail
    clear k_a l_a k_b l_b
    go_ret
    exact ⟨ret_bool (by simp [sameBkB, T1.out, T2.out]), HB3.out⟩
  have T2 := Lib.hid t2
  rw [t2]
  clear t2
  by_cases hne : a.checks.length = b.checks.length
  rotate_left
  · have h1_ : ((a.checks.length : Int) != (b.checks.length : Int)) = true := by simp; omega
    have HN := Lib.hid hne
    clear hne
    have k_a := b_a_3.cell
    have l_a := b_a_3.lt
    have k_b := b_b_3.cell
    have l_b := b_b_3.lt
    go_wp2_with fail
    clear k_a l_a k_b l_b
    go_ret
    exact ⟨ret_bool (by simp [sameBkB, eqL_len HN.out]), HB3.out⟩
  have h1_ : ((a.checks.length : Int) != (b.checks.length : Int)) = false := by simp; omega
  have HN := Lib.hid hne
  clear hne
  have k_a := b_a_3.cell
  have l_a := b_a_3.lt
  have k_b := b_b_3.cell
  have l_b := b_b_3.lt
  go_wp2_with fail
  clear k_a l_a k_b l_b
  refine (refSameScopes_any a.scopes b.scopes A3 A3' c3 c3' B _ (HL3.out.keep HB3.out hB) (HL3'.out.keep HB3.out hB) (Nat.le_trans hB HB3.out.size) (by omega) (by omega)).mono ?_
  rintro x w4 ⟨rfl, hb⟩
  have b_a_4 := b_a_3.later hb
  have b_b_4 := b_b_3.later hb
  have HB4 := Lib.hid (bthen HB3.out hb)
  clear b_a_3 b_b_3
  clear hb
  by_cases t3 : eqL sameScB a.scopes b.scopes = true
  rotate_left
  · simp only [Bool.not_eq_true] at t3
    have T3 := Lib.hid t3
    rw [t3]
    have k_a := b_a_4.cell
    have l_a := b_a_4.lt
    have k_b := b_b_4.cell
    have l_b := b_b_4.lt
    go_wp2_with fail
    clear k_a l_a k_b l_b
    go_ret
    exact ⟨ret_bool (by simp [sameBkB, T1.out, T2.out, T3.out]), HB4.out⟩
  have T3 := Lib.hid t3
  rw [t3]
  clear t3
  have k_a := b_a_4.cell
  have l_a := b_a_4.lt
  have k_b := b_b_4.cell
  have l_b := b_b_4.lt
  go_wp2_with fail
  clear k_a l_a k_b l_b
  go_loopw [40] (fun i wr => ∃ k : Nat, k ≤ a.checks.length ∧ i = .int .i64 k ∧ Below w4.heap.size w4 wr ∧ Hid (eqL sameCkB a.checks b.checks = eqL sameCkB (a.checks.drop k) (b.checks.drop k))) (fun i _ => a.checks.length - (intOf i).toNat)
  case atStart => exact ⟨0, Nat.zero_le _, rfl, Below.refl _ _, rfl⟩
  case round =>
    obtain ⟨k, hk, rfl, hbw, HE⟩ := hrel
    have hBn : B ≤ w4.heap.size := Nat.le_trans hB HB4.out.size
    have hRk : (CkR d).k = 2 := rfl
    by_cases hlt : k < a.checks.length
    · have kk_a := (b_a_4.later hbw).cell
      have ll_a := (b_a_4.later hbw).lt
      have qq_a := (b_a_4.later hbw).regrown
      have kk_b := (b_b_4.later hbw).cell
      have ll_b := (b_b_4.later hbw).lt
      have qq_b := (b_b_4.later hbw).regrown
      have hlt2 : k < b.checks.length := by have := HN.out; omega
      have hl := HL2.out.keep HB4.out hB
      have hl' := HL2'.out.keep HB4.out hB
      obtain ⟨bq, off, rfl, hob⟩ := hl.base hbw hBn (by omega)
      obtain ⟨bq', off', rfl, hob'⟩ := hl'.base hbw hBn (by omega)
      obtain ⟨x, vs, hx, hlen, hcell, hr⟩ := hl.at_ hbw hBn hlt
      obtain ⟨_, rfl, A0x, c0x, rfl, _⟩ := id hr
      have p0 : wr.cell? ⟨bq, off + k * 2, none⟩ = some (.bool x.all) := by have := hcell 0 _ rfl; simpa [hRk] using this
      have p1 : wr.cell? ⟨bq, off + k * 2 + 1, none⟩ = some (.slice A0x x.queries.length c0x) := by have := hcell 1 _ rfl; simpa [hRk] using this
      clear hcell hlen
      obtain ⟨y, vs, hy, hlen, hcell, hr'⟩ := hl'.at_ hbw hBn hlt2
      obtain ⟨_, rfl, A0y, c0y, rfl, _⟩ := id hr'
      have e0 : wr.cell? ⟨bq', off' + k * 2, none⟩ = some (.bool y.all) := by have := hcell 0 _ rfl; simpa [hRk] using this
      have e1 : wr.cell? ⟨bq', off' + k * 2 + 1, none⟩ = some (.slice A0y y.queries.length c0y) := by have := hcell 1 _ rfl; simpa [hRk] using this
      clear hcell hlen
      have HE2 : Hid (eqL sameCkB a.checks b.checks = (sameCkB x y && eqL sameCkB (a.checks.drop (k + 1)) (b.checks.drop (k + 1)))) := by
        obtain ⟨h1, h2⟩ := List.getElem?_eq_some_iff.1 hx
        obtain ⟨h3, h4⟩ := List.getElem?_eq_some_iff.1 hy
        have := HE.out
        rw [List.drop_eq_getElem_cons h1, List.drop_eq_getElem_cons h3, h2, h4] at this
        exact this
      obtain ⟨_, ev1, _, _, rfl, gx, hx1, hlx⟩ := hr
      obtain ⟨_, ev2, _, _, rfl, gy, hy1, hly⟩ := hr'
      simp only [List.cons.injEq, Value.slice.injEq, true_and, and_true] at ev1 ev2
      obtain ⟨rfl, rfl⟩ := ev1
      obtain ⟨rfl, rfl⟩ := ev2
      simp only [RuR] at hx1 hy1
      have HLX := Lib.hid hlx
      have HLY := Lib.hid hly
      have HBw := Lib.hid hbw
      have hBr : B ≤ wr.heap.size := by have := hbw.size; omega
      clear hx hy HE hbw hl hl' hlx hly
      go_wp2_with fail
      have q0 := cell_regrown p0
      have q1 := cell_regrown p1
      have s0 := cell_regrown e0
      have s1 := cell_regrown e1
      clear p0 e0 p1 e1 kk_a ll_a kk_b ll_b
      by_cases ha : (x.all == y.all) = true
      · have HC : Hid (sameCkB x y = eqL sameRuB x.queries y.queries) := by
          unfold sameCkB
          rw [ha, Bool.true_and]
          exact rfl
        have hp : eqL sameRuB x.queries y.queries = true ∨ eqL sameRuB x.queries y.queries = false := by cases eqL sameRuB x.queries y.queries <;> simp
        rcases hp with hp | hp
        all_goals
          have HP := Lib.hid hp
          rw [HC.out, hp] at HE2
          clear hp
          refine wp_region_quiet_below (by kernel_rfl) (by kernel_rfl) ?_
          repeat (go_big_quiet_step ((go_at_call 60; exact Calls.regrown_of (as_bool HP.out (refSameRules_any d x.queries y.queries _ _ _ _ B _ (HLX.out.keep (below_regrown _ _ _) hBr) (HLY.out.keep (below_regrown _ _ _) hBr) (Nat.le_trans hBr (below_regrown _ _ _).size) (by omega) (by omega))))))
          refine wpQuiet_nil ?_
          intro w3_ hw3
          have hb3 : Below wr.heap.size wr w3_ := by obtain ⟨p, rfl⟩ := hw3; exact below_regrown _ _ _
          clear hw3 q0 s0 q1 s1 qq_a qq_b
          have HB3_ := Lib.hid (bthen HBw.out hb3)
          have HBf := Lib.hid (bthen HB4.out HB3_.out)
          clear hb3
        · go_wp2_with fail
          go_roundw
          case rel => exact ⟨k + 1, by omega, by go_num, HB3_.out, by have := HE2.out; rw [Bool.true_and] at this; exact this⟩
          case measure => simp [intOf]; omega
        · have HALL : Hid (eqL sameCkB a.checks b.checks = false) := by rw [HE2.out, Bool.false_and]; exact rfl
          go_wp2_with fail
          go_ret
          refine ⟨ret_bool ?_, HBf.out⟩
          simp [sameBkB, HALL.out]
      simp only [Bool.not_eq_true] at ha
      have HALL : Hid (eqL sameCkB a.checks b.checks = false) := by
        rw [HE2.out]
        unfold sameCkB
        rw [ha, Bool.false_and, Bool.false_and]
        exact rfl
      refine wp_region_quiet_below (by kernel_rfl) (by kernel_rfl) ?_
      repeat (go_big_quiet_step (fail))
      refine wpQuiet_nil ?_
      intro w3_ hw3
      have hb3 : Below wr.heap.size wr w3_ := by obtain ⟨p, rfl⟩ := hw3; exact below_regrown _ _ _
      clear hw3 q0 s0 q1 s1 qq_a qq_b
      have HB3_ := Lib.hid (bthen HBw.out hb3)
      have HBf := Lib.hid (bthen HB4.out HB3_.out)
      clear hb3
      go_wp2_with fail
      go_ret
      refine ⟨ret_bool ?_, HBf.out⟩
      simp [sameBkB, HALL.out]
    · have HALL_5 : Hid (eqL sameCkB a.checks b.checks = true) := by
        have := HE.out
        rw [List.drop_eq_nil_iff.2 (show a.checks.length ≤ k by omega), List.drop_eq_nil_iff.2 (show b.checks.length ≤ k by have := HN.out; omega)] at this
        exact this
      clear HE
      generalize wr = w5 at *
      have b_a_5 := b_a_4.later hbw
      have b_b_5 := b_b_4.later hbw
      have HB5 := Lib.hid (bthen HB4.out hbw)
      clear b_a_4 b_b_4
      clear hbw
      have k_a := b_a_5.cell
      have l_a := b_a_5.lt
      have k_b := b_b_5.cell
      have l_b := b_b_5.lt
      go_wp2_with fail
      clear k_a l_a k_b l_b
      go_ret
      exact ⟨ret_bool (by simp [sameBkB, T1.out, T2.out, T3.out, HALL_5.out]), HB5.out⟩

end Go.Proofs.YtfknlghegchbkabGreat
