/- The document's own answers: Same, SameTerms, SamePred .. SameBlock, SamePolicy, as the program's. Printed by wip/gen/mk_refsame.py. -/
import Derived.Test.YtfknlghegchbkabGreatSame
import Derived.Test.YtfknlghegchbkabGreatRef2
set_option linter.unusedVariables false
set_option linter.unusedSimpArgs false
namespace Go.Proofs.YtfknlghegchbkabGreat
open Go.ChangeShapes Go.WideShapes Go.ChangeAt Go.RowKit

set_option maxRecDepth 100000 in
set_option maxHeartbeats 2000000 in
theorem refSame_any {d : Nat} {a b : Tm} {va vb : List Value} {B : Nat} {w : World} (ha : (TmR d).rd w B a va) (hb : (TmR d).rd w B b vb) (hB : B ≤ w.heap.size) :
    Calls Tryz.prog 138 #[.agg va.toArray, .agg vb.toArray] w fun e w' => e = .returned (.bool (sameTB a b)) ∧ Below w.heap.size w w' := by
  have HA := Lib.hid (And.intro ha hb)
  obtain ⟨A0, c0, rfl, _⟩ := RTm.cells ha
  obtain ⟨A0', c0', rfl, _⟩ := RTm.cells hb
  clear ha hb
  go_enter Tryz.func138, Tryz.ntmps138
  go_wp2_with fail
  generalize hW : World.alloc _ _ = w1
  obtain ⟨hb, hz⟩ := al2 hW
  have HB1 := Lib.hid hb
  clear hW hz hb
  refine (refCompare_any (d := d) (B := B) (a := a) (b := b) (va := [_, _, _, _]) (vb := [_, _, _, _]) (RTm.below HB1.out hB HA.out.1) (RTm.below HB1.out hB HA.out.2) (Nat.le_trans hB HB1.out.size)).mono ?_
  rintro x w2 ⟨rfl, hb⟩
  have HB2 := Lib.hid (bthen HB1.out hb)
  clear hb
  go_wp2_with fail
  go_ret
  exact ⟨ret_bool (by rw [sameTB, Bool.eq_iff_iff]; simp), HB2.out⟩

set_option maxRecDepth 100000 in
set_option maxHeartbeats 2000000 in
theorem refSameTerms_any (d : Nat) (xs ys : List Tm) (A A' : Option Addr) (c c' B : Nat) (w : World) (hl : RL (TmR d) w B xs A) (hl' : RL (TmR d) w B ys A') (hB : B ≤ w.heap.size) (hn : xs.length ≤ 140737488351232) (hn' : ys.length ≤ 140737488351232) :
    Calls Tryz.prog 124 #[.slice A xs.length c, .slice A' ys.length c'] w fun e w' => e = .returned (.bool (eqL sameTB xs ys)) ∧ Below w.heap.size w w' := by
  have hRk : (TmR d).k = 4 := rfl
  by_cases hne : xs.length = ys.length
  rotate_left
  · have h1 : ((xs.length : Int) != (ys.length : Int)) = true := by simp; omega
    have HN := Lib.hid hne
    clear hne
    go_enter Tryz.func124, Tryz.ntmps124
    go_wp2_with fail
    go_ret
    exact ⟨ret_bool (eqL_len HN.out).symm, Below.refl _ _⟩
  have h1 : ((xs.length : Int) != (ys.length : Int)) = false := by simp; omega
  have HN := Lib.hid hne
  clear hne
  go_enter Tryz.func124, Tryz.ntmps124
  go_wp2_with fail
  go_loopw [13] (fun i wr => ∃ k : Nat, k ≤ xs.length ∧ i = .int .i64 k ∧ Below w.heap.size w wr ∧ Hid (eqL sameTB xs ys = eqL sameTB (xs.drop k) (ys.drop k))) (fun i _ => xs.length - (intOf i).toNat)
  case atStart => exact ⟨0, Nat.zero_le _, rfl, Below.refl _ _, rfl⟩
  case round =>
    obtain ⟨k, hk, rfl, hbw, HE⟩ := hrel
    by_cases hlt : k < xs.length
    · have hlt2 : k < ys.length := by have := HN.out; omega
      obtain ⟨b, off, rfl, hob⟩ := hl.base hbw hB (by omega)
      obtain ⟨b', off', rfl, hob'⟩ := hl'.base hbw hB (by omega)
      obtain ⟨x, vs, hx, hlen, hcell, hr⟩ := hl.at_ hbw hB hlt
      obtain ⟨A0x, c0x, rfl, _⟩ := RTm.cells hr
      have p0 : wr.cell? ⟨b, off + k * 4, none⟩ = some (.int .i64 x.kind) := by have := hcell 0 _ rfl; simpa [hRk] using this
      have p1 : wr.cell? ⟨b, off + k * 4 + 1, none⟩ = some (.int .i64 x.n) := by have := hcell 1 _ rfl; simpa [hRk] using this
      have p2 : wr.cell? ⟨b, off + k * 4 + 2, none⟩ = some (.string x.s) := by have := hcell 2 _ rfl; simpa [hRk] using this
      have p3 : wr.cell? ⟨b, off + k * 4 + 3, none⟩ = some (.slice A0x x.l.length c0x) := by have := hcell 3 _ rfl; simpa [hRk] using this
      clear hcell hlen
      obtain ⟨y, vs, hy, hlen, hcell, hr'⟩ := hl'.at_ hbw hB hlt2
      obtain ⟨A0y, c0y, rfl, _⟩ := RTm.cells hr'
      have e0 : wr.cell? ⟨b', off' + k * 4, none⟩ = some (.int .i64 y.kind) := by have := hcell 0 _ rfl; simpa [hRk] using this
      have e1 : wr.cell? ⟨b', off' + k * 4 + 1, none⟩ = some (.int .i64 y.n) := by have := hcell 1 _ rfl; simpa [hRk] using this
      have e2 : wr.cell? ⟨b', off' + k * 4 + 2, none⟩ = some (.string y.s) := by have := hcell 2 _ rfl; simpa [hRk] using this
      have e3 : wr.cell? ⟨b', off' + k * 4 + 3, none⟩ = some (.slice A0y y.l.length c0y) := by have := hcell 3 _ rfl; simpa [hRk] using this
      clear hcell hlen
      have HE2 : Hid (eqL sameTB xs ys = (sameTB x y && eqL sameTB (xs.drop (k + 1)) (ys.drop (k + 1)))) := by
        obtain ⟨h1, h2⟩ := List.getElem?_eq_some_iff.1 hx
        obtain ⟨h3, h4⟩ := List.getElem?_eq_some_iff.1 hy
        have := HE.out
        rw [List.drop_eq_getElem_cons h1, List.drop_eq_getElem_cons h3, h2, h4] at this
        exact this
      have HRR := Lib.hid (And.intro hr hr')
      have HBw := Lib.hid hbw
      have hBr : B ≤ wr.heap.size := by have := hbw.size; omega
      clear hx hy hr hr' HE hbw
      go_wp2_with fail
      have q0 := cell_regrown p0
      have q1 := cell_regrown p1
      have q2 := cell_regrown p2
      have q3 := cell_regrown p3
      have s0 := cell_regrown e0
      have s1 := cell_regrown e1
      have s2 := cell_regrown e2
      have s3 := cell_regrown e3
      clear p0 e0 p1 e1 p2 e2 p3 e3
      have hp : sameTB x y = true ∨ sameTB x y = false := by cases sameTB x y <;> simp
      rcases hp with hp | hp
      all_goals
        have HP := Lib.hid hp
        rw [hp] at HE2
        clear hp
        refine wp_region_quiet_below (by kernel_rfl) (by kernel_rfl) ?_
        repeat (go_big_quiet_step ((go_at_call 138; exact Calls.regrown_of (as_bool HP.out (refSame_any (d := d) (B := B) (a := x) (b := y) (va := [_, _, _, _]) (vb := [_, _, _, _]) ((TmR d).keep (below_regrown _ _ _) hBr HRR.out.1) ((TmR d).keep (below_regrown _ _ _) hBr HRR.out.2) (Nat.le_trans hBr (below_regrown _ _ _).size))))))
        refine wpQuiet_nil ?_
        intro w3 hw3
        have hb3 : Below wr.heap.size wr w3 := by obtain ⟨p, rfl⟩ := hw3; exact below_regrown _ _ _
        clear hw3 q0 s0 q1 s1 q2 s2 q3 s3
        have HB3 := Lib.hid (bthen HBw.out hb3)
        clear hb3
      · go_wp2_with fail
        go_roundw
        case rel => exact ⟨k + 1, by omega, by go_num, HB3.out, by have := HE2.out; rw [Bool.true_and] at this; exact this⟩
        case measure => simp [intOf]; omega
      · go_wp2_with fail
        go_ret
        exact ⟨ret_bool (by rw [HE2.out]; rfl), HB3.out⟩
    · have HE2 : Hid (eqL sameTB xs ys = true) := by
        have := HE.out
        rw [List.drop_eq_nil_iff.2 (show xs.length ≤ k by omega), List.drop_eq_nil_iff.2 (show ys.length ≤ k by have := HN.out; omega)] at this
        exact this
      clear HE
      go_wp2_with fail
      go_ret
      exact ⟨ret_bool HE2.out.symm, hbw⟩

set_option maxRecDepth 100000 in
set_option maxHeartbeats 2000000 in
theorem refSamePred_any {d : Nat} {a b : Pr} {va vb : List Value} {B : Nat} {w : World} (ha : (PrR d).rd w B a va) (hb : (PrR d).rd w B b vb) (hB : B ≤ w.heap.size) :
    Calls Tryz.prog 95 #[.agg va.toArray, .agg vb.toArray] w fun e w' => e = .returned (.bool (samePrB a b)) ∧ Below w.heap.size w w' := by
  have HA := Lib.hid (And.intro ha hb)
  obtain ⟨_, rfl, hs, ⟨A0, c0, rfl, g0, h0, hl0⟩⟩ := id ha
  obtain ⟨_, rfl, hs', ⟨A0', c0', rfl, g0', h0', hl0'⟩⟩ := id hb
  simp only [TmR] at *
  have HL0 := Lib.hid hl0
  have HL0' := Lib.hid hl0'
  clear ha hb hl0 hl0'
  by_cases t1 : (a.name.toList == b.name.toList) = true
  rotate_left
  · simp only [Bool.not_eq_true] at t1
    have T1 := Lib.hid t1
    go_enter Tryz.func95, Tryz.ntmps95
    go_wp2_with fail
    go_ret
    refine ⟨ret_bool ?_, ((Below.refl _ _).alloc (Nat.le_refl _) _).alloc (by simp) _⟩
    unfold samePrB
    rw [and_f (by first | exact T1.out | simpa using T1.out)]
  have T1 := Lib.hid t1
  go_enter Tryz.func95, Tryz.ntmps95
  go_wp2_with fail
  generalize hW : World.alloc _ _ = w1
  obtain ⟨hb, hz⟩ := al2 hW
  have b_a_1 := n21 hW
  have b_b_1 := n22 hW
  have HB1 := Lib.hid hb
  clear hW hz hb
  refine (refSameTerms_any d a.terms b.terms A0 A0' c0 c0' B _ (HL0.out.keep HB1.out hB) (HL0'.out.keep HB1.out hB) (Nat.le_trans hB HB1.out.size) (by omega) (by omega)).mono ?_
  rintro x w2 ⟨rfl, hb⟩
  have b_a_2 := b_a_1.later hb
  have b_b_2 := b_b_1.later hb
  have HB2 := Lib.hid (bthen HB1.out hb)
  clear b_a_1 b_b_1
  clear hb
  obtain ⟨bb, hbb⟩ : ∃ bb, bb = eqL sameTB a.terms b.terms := ⟨_, rfl⟩
  have HBB := Lib.hid hbb
  rw [← hbb]
  clear hbb
  have k_a := b_a_2.cell
  have l_a := b_a_2.lt
  have k_b := b_b_2.cell
  have l_b := b_b_2.lt
  go_wp2_with fail
  clear k_a l_a k_b l_b
  go_ret
  refine ⟨ret_bool ?_, HB2.out⟩
  unfold samePrB
  rw [and_t (by first | exact T1.out | simpa using T1.out), HBB.out]

set_option maxRecDepth 100000 in
set_option maxHeartbeats 2000000 in
theorem refSamePreds_any (d : Nat) (xs ys : List Pr) (A A' : Option Addr) (c c' B : Nat) (w : World) (hl : RL (PrR d) w B xs A) (hl' : RL (PrR d) w B ys A') (hB : B ≤ w.heap.size) (hn : xs.length ≤ 140737488351232) (hn' : ys.length ≤ 140737488351232) :
    Calls Tryz.prog 59 #[.slice A xs.length c, .slice A' ys.length c'] w fun e w' => e = .returned (.bool (eqL samePrB xs ys)) ∧ Below w.heap.size w w' := by
  have hRk : (PrR d).k = 2 := rfl
  by_cases hne : xs.length = ys.length
  rotate_left
  · have h1 : ((xs.length : Int) != (ys.length : Int)) = true := by simp; omega
    have HN := Lib.hid hne
    clear hne
    go_enter Tryz.func59, Tryz.ntmps59
    go_wp2_with fail
    go_ret
    exact ⟨ret_bool (eqL_len HN.out).symm, Below.refl _ _⟩
  have h1 : ((xs.length : Int) != (ys.length : Int)) = false := by simp; omega
  have HN := Lib.hid hne
  clear hne
  go_enter Tryz.func59, Tryz.ntmps59
  go_wp2_with fail
  go_loopw [13] (fun i wr => ∃ k : Nat, k ≤ xs.length ∧ i = .int .i64 k ∧ Below w.heap.size w wr ∧ Hid (eqL samePrB xs ys = eqL samePrB (xs.drop k) (ys.drop k))) (fun i _ => xs.length - (intOf i).toNat)
  case atStart => exact ⟨0, Nat.zero_le _, rfl, Below.refl _ _, rfl⟩
  case round =>
    obtain ⟨k, hk, rfl, hbw, HE⟩ := hrel
    by_cases hlt : k < xs.length
    · have hlt2 : k < ys.length := by have := HN.out; omega
      obtain ⟨b, off, rfl, hob⟩ := hl.base hbw hB (by omega)
      obtain ⟨b', off', rfl, hob'⟩ := hl'.base hbw hB (by omega)
      obtain ⟨x, vs, hx, hlen, hcell, hr⟩ := hl.at_ hbw hB hlt
      obtain ⟨_, rfl, _, A0x, c0x, rfl, _⟩ := id hr
      have p0 : wr.cell? ⟨b, off + k * 2, none⟩ = some (.string x.name) := by have := hcell 0 _ rfl; simpa [hRk] using this
      have p1 : wr.cell? ⟨b, off + k * 2 + 1, none⟩ = some (.slice A0x x.terms.length c0x) := by have := hcell 1 _ rfl; simpa [hRk] using this
      clear hcell hlen
      obtain ⟨y, vs, hy, hlen, hcell, hr'⟩ := hl'.at_ hbw hB hlt2
      obtain ⟨_, rfl, _, A0y, c0y, rfl, _⟩ := id hr'
      have e0 : wr.cell? ⟨b', off' + k * 2, none⟩ = some (.string y.name) := by have := hcell 0 _ rfl; simpa [hRk] using this
      have e1 : wr.cell? ⟨b', off' + k * 2 + 1, none⟩ = some (.slice A0y y.terms.length c0y) := by have := hcell 1 _ rfl; simpa [hRk] using this
      clear hcell hlen
      have HE2 : Hid (eqL samePrB xs ys = (samePrB x y && eqL samePrB (xs.drop (k + 1)) (ys.drop (k + 1)))) := by
        obtain ⟨h1, h2⟩ := List.getElem?_eq_some_iff.1 hx
        obtain ⟨h3, h4⟩ := List.getElem?_eq_some_iff.1 hy
        have := HE.out
        rw [List.drop_eq_getElem_cons h1, List.drop_eq_getElem_cons h3, h2, h4] at this
        exact this
      have HRR := Lib.hid (And.intro hr hr')
      have HBw := Lib.hid hbw
      have hBr : B ≤ wr.heap.size := by have := hbw.size; omega
      clear hx hy hr hr' HE hbw
      go_wp2_with fail
      have q0 := cell_regrown p0
      have q1 := cell_regrown p1
      have s0 := cell_regrown e0
      have s1 := cell_regrown e1
      clear p0 e0 p1 e1
      have hp : samePrB x y = true ∨ samePrB x y = false := by cases samePrB x y <;> simp
      rcases hp with hp | hp
      all_goals
        have HP := Lib.hid hp
        rw [hp] at HE2
        clear hp
        refine wp_region_quiet_below (by kernel_rfl) (by kernel_rfl) ?_
        repeat (go_big_quiet_step ((go_at_call 95; exact Calls.regrown_of (as_bool HP.out (refSamePred_any (d := d) (B := B) (a := x) (b := y) (va := [_, _]) (vb := [_, _]) ((PrR d).keep (below_regrown _ _ _) hBr HRR.out.1) ((PrR d).keep (below_regrown _ _ _) hBr HRR.out.2) (Nat.le_trans hBr (below_regrown _ _ _).size))))))
        refine wpQuiet_nil ?_
        intro w3 hw3
        have hb3 : Below wr.heap.size wr w3 := by obtain ⟨p, rfl⟩ := hw3; exact below_regrown _ _ _
        clear hw3 q0 s0 q1 s1
        have HB3 := Lib.hid (bthen HBw.out hb3)
        clear hb3
      · go_wp2_with fail
        go_roundw
        case rel => exact ⟨k + 1, by omega, by go_num, HB3.out, by have := HE2.out; rw [Bool.true_and] at this; exact this⟩
        case measure => simp [intOf]; omega
      · go_wp2_with fail
        go_ret
        exact ⟨ret_bool (by rw [HE2.out]; rfl), HB3.out⟩
    · have HE2 : Hid (eqL samePrB xs ys = true) := by
        have := HE.out
        rw [List.drop_eq_nil_iff.2 (show xs.length ≤ k by omega), List.drop_eq_nil_iff.2 (show ys.length ≤ k by have := HN.out; omega)] at this
        exact this
      clear HE
      go_wp2_with fail
      go_ret
      exact ⟨ret_bool HE2.out.symm, hbw⟩

set_option maxRecDepth 100000 in
set_option maxHeartbeats 2000000 in
theorem refSameScopes_any (xs ys : List Sc) (A A' : Option Addr) (c c' B : Nat) (w : World) (hl : RL ScR w B xs A) (hl' : RL ScR w B ys A') (hB : B ≤ w.heap.size) (hn : xs.length ≤ 140737488351232) (hn' : ys.length ≤ 140737488351232) :
    Calls Tryz.prog 61 #[.slice A xs.length c, .slice A' ys.length c'] w fun e w' => e = .returned (.bool (eqL sameScB xs ys)) ∧ Below w.heap.size w w' := by
  by_cases hne : xs.length = ys.length
  rotate_left
  · have h1 : ((xs.length : Int) != (ys.length : Int)) = true := by simp; omega
    have HN := Lib.hid hne
    clear hne
    go_enter Tryz.func61, Tryz.ntmps61
    go_wp2_with fail
    go_ret
    exact ⟨ret_bool (eqL_len HN.out).symm, Below.refl _ _⟩
  have h1 : ((xs.length : Int) != (ys.length : Int)) = false := by simp; omega
  have HN := Lib.hid hne
  clear hne
  go_enter Tryz.func61, Tryz.ntmps61
  go_wp2_with fail
  go_loopw [13] (fun i wr => ∃ k : Nat, k ≤ xs.length ∧ i = .int .i64 k ∧ Below w.heap.size w wr ∧ Hid (eqL sameScB xs ys = eqL sameScB (xs.drop k) (ys.drop k))) (fun i _ => xs.length - (intOf i).toNat)
  case atStart => exact ⟨0, Nat.zero_le _, rfl, Below.refl _ _, rfl⟩
  case round =>
    obtain ⟨k, hk, rfl, hbw, HE⟩ := hrel
    by_cases hlt : k < xs.length
    · have hlt2 : k < ys.length := by have := HN.out; omega
      obtain ⟨b, off, rfl, hb⟩ := hl.base hbw hB (by omega)
      obtain ⟨b', off', rfl, hb'⟩ := hl'.base hbw hB (by omega)
      obtain ⟨x, vs, hx, hlen, hcell, hr⟩ := hl.at_ hbw hB hlt
      obtain ⟨rfl, _⟩ := id hr
      have p0 : wr.cell? ⟨b, off + k * 2, none⟩ = some (.int .i64 x.kind) := hcell 0 _ rfl
      have p1 : wr.cell? ⟨b, off + k * 2 + 1, none⟩ = some (.string x.key) := hcell 1 _ rfl
      clear hcell hlen hr
      obtain ⟨y, vs, hy, hlen, hcell, hr⟩ := hl'.at_ hbw hB hlt2
      obtain ⟨rfl, _⟩ := id hr
      have e0 : wr.cell? ⟨b', off' + k * 2, none⟩ = some (.int .i64 y.kind) := hcell 0 _ rfl
      have e1 : wr.cell? ⟨b', off' + k * 2 + 1, none⟩ = some (.string y.key) := hcell 1 _ rfl
      clear hcell hlen hr
      have HE2 : Hid (eqL sameScB xs ys = (sameScB x y && eqL sameScB (xs.drop (k + 1)) (ys.drop (k + 1)))) := by
        obtain ⟨h1, h2⟩ := List.getElem?_eq_some_iff.1 hx
        obtain ⟨h3, h4⟩ := List.getElem?_eq_some_iff.1 hy
        have := HE.out
        rw [List.drop_eq_getElem_cons h1, List.drop_eq_getElem_cons h3, h2, h4] at this
        exact this
      clear hx hy HE
      go_wp2_with fail
      have q0 := cell_regrown p0
      have q1 := cell_regrown p1
      have q2 := cell_regrown e0
      have q3 := cell_regrown e1
      clear p0 p1 e0 e1
      have g1 := fun w => run_neq_scope x y w
      have g2 := fun w o p q => run_guard_scope x y w o p q
      refine wp_region_quiet_below (by kernel_rfl) (by kernel_rfl) ?_
      repeat (go_big_quiet_step (fail))
      refine wpQuiet_nil ?_
      intro w3 hw3
      have hb3 : Below wr.heap.size wr w3 := by obtain ⟨p, rfl⟩ := hw3; exact below_regrown _ _ _
      clear hw3 q0 q1 q2 q3 g1 g2
      have HB3 := Lib.hid (bthen hbw hb3)
      clear hb3
      by_cases hp : sameScB x y = true
      · rw [hp] at HE2
        rw [hp]
        clear hp
        go_wp2_with fail
        go_roundw
        case rel => exact ⟨k + 1, by omega, by go_num, HB3.out, by have := HE2.out; rw [Bool.true_and] at this; exact this⟩
        case measure => simp [intOf]; omega
      · simp only [Bool.not_eq_true] at hp
        rw [hp] at HE2
        rw [hp]
        clear hp
        go_wp2_with fail
        go_ret
        exact ⟨ret_bool (by rw [HE2.out]; rfl), HB3.out⟩
    · have HE2 : Hid (eqL sameScB xs ys = true) := by
        have := HE.out
        rw [List.drop_eq_nil_iff.2 (show xs.length ≤ k by omega), List.drop_eq_nil_iff.2 (show ys.length ≤ k by have := HN.out; omega)] at this
        exact this
      clear HE
      go_wp2_with fail
      go_ret
      exact ⟨ret_bool HE2.out.symm, hbw⟩

end Go.Proofs.YtfknlghegchbkabGreat
