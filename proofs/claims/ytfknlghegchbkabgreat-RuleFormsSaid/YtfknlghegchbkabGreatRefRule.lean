/- viaticumref11: MayScope(s), MayFact, ExprNames, mayBody, MayQuery, MayRule, mayQueries, MayCheck, MayBlock: as the program's. Printed by wip/gen/mk_refrule.py. -/
import Derived.Test.YtfknlghegchbkabGreatRefExpr
import Derived.Test.YtfknlghegchbkabGreatMay
set_option linter.unusedVariables false
set_option linter.unusedSimpArgs false
namespace Go.Proofs.YtfknlghegchbkabGreat
open Go.ChangeShapes Go.WideShapes Go.ChangeAt Go.RowKit

theorem all_false {α : Type} {l : List α} {p : α → Bool} {k : Nat} {x : α} (h : l[k]? = some x) (hp : p x = false) : l.all p = false := by
  rw [Bool.eq_false_iff]
  intro h2
  rw [List.all_eq_true] at h2
  have := h2 x (List.mem_of_getElem? h)
  rw [hp] at this
  cases this
theorem all_true {α : Type} {l : List α} {p : α → Bool} {k : Nat} (hk : l.length ≤ k) (h : ∀ i (hi : i < k) (hi' : i < l.length), p l[i] = true) : l.all p = true := by
  rw [List.all_eq_true]
  intro x hx
  obtain ⟨i, hi, rfl⟩ := List.getElem_of_mem hx
  exact h i (by omega) hi

set_option maxRecDepth 100000 in
set_option maxHeartbeats 1000000 in
theorem refMayScope_any {s : Sc} {vs : List Value} {B : Nat} {w : World} (hp : ScR.rd w B s vs) :
    Calls Tryz.prog 27 #[.agg vs.toArray] w fun e w' => e = .returned (.bool (mayScopeB s)) ∧ Below w.heap.size w w' := by
  obtain ⟨rfl, hk, hs⟩ := hp
  have HB := Lib.hid (fun o : Obj => (Below.refl w.heap.size w).alloc (Nat.le_refl _) o)
  obtain ⟨kind, key⟩ := s
  dsimp only at *
  have hcases : kind = 1 ∨ kind = 2 ∨ kind = 3 ∨ ((kind == 1) = false ∧ (kind == 2) = false ∧ (kind == 3) = false) := by simp only [beq_eq_false_iff_ne]; omega
  rcases hcases with rfl | rfl | rfl | ⟨k1, k2, k3⟩
  all_goals
    go_enter Tryz.func27, Tryz.ntmps27
    go_wp2_with fail
    all_goals go_ret
    all_goals refine ⟨ret_bool ?_, HB.out _⟩
    all_goals
      try simp only [toList_empty, isEmpty_empty, beq_eq_false_iff_ne] at *
      rw [Bool.eq_iff_iff]
      simp [mayScopeB, isEmpty_empty, *]
      try omega

set_option maxRecDepth 100000 in
set_option maxHeartbeats 4000000 in
theorem refMayScopes_any (l : List Sc) (A : Option Addr) (c B : Nat) (w : World) (hl : RL ScR w B l A) (hn : l.length ≤ 140737488351232) (hB : B ≤ w.heap.size) :
    Calls Tryz.prog 58 #[.slice A l.length c] w fun e w' => e = .returned (.bool (decide ((l.length : Int) ≤ 4) && l.all mayScopeB)) ∧ Below w.heap.size w w' := by
  have HL := Lib.hid hl
  have HB0 := Lib.hid (Below.refl w.heap.size w)
  go_enter Tryz.func58, Tryz.ntmps58
  go_wp2_with fail
  go_loopw [7] (fun i wr => ∃ k : Nat, k ≤ l.length ∧ i = .int .i64 k ∧ Below w.heap.size w wr ∧ ∀ i (hi : i < k) (hi' : i < l.length), mayScopeB l[i] = true) (fun i _ => l.length - (intOf i).toNat)
  case atStart => exact ⟨0, Nat.zero_le _, rfl, Below.refl _ _, fun i h => absurd h (by omega)⟩
  case round =>
    obtain ⟨k, hk, rfl, hbw, hall⟩ := hrel
    have HA := Lib.hid hall
    have hBn : B ≤ w.heap.size := Nat.le_trans hB HB0.out.size
    clear hall
    by_cases hlt : k < l.length
    · have hl := HL.out.keep HB0.out hB
      obtain ⟨b, off, rfl, hob⟩ := hl.base hbw hBn (by omega)
      obtain ⟨x, vs, hx, hlen, hcell, hr⟩ := hl.at_ hbw hBn hlt
      obtain ⟨rfl, _⟩ := id hr
      have p0 : wr.cell? ⟨b, off + k * 2, none⟩ = some (.int .i64 x.kind) := hcell 0 _ rfl
      have p1 : wr.cell? ⟨b, off + k * 2 + 1, none⟩ = some (.string x.key) := hcell 1 _ rfl
      have HR := Lib.hid hr
      have HBw := Lib.hid hbw
      have HX := Lib.hid hx
      have hszr := hbw.size
      clear hl hcell hlen hr hx hbw
      go_wp2_with fail
      generalize hW2 : World.alloc _ _ = W2
      obtain ⟨hb2, hz2⟩ := al1 hW2
      clear hW2 p0 p1
      refine (refMayScope_any (s := x) (B := B) (vs := [_, _]) (ScR.keep hb2 (by omega) HR.out)).mono ?_
      rintro e w3_ ⟨rfl, hb3⟩
      have HB3_ := Lib.hid (bthen HBw.out (bthen hb2 hb3))
      have HBf := Lib.hid (bthen HB0.out HB3_.out)
      clear hb2 hb3 hz2
      by_cases hm : mayScopeB x = true
      · have HM := Lib.hid hm
        rw [hm]
        clear hm
        go_wp2_with fail
        go_roundw
        case rel => exact ⟨k + 1, by omega, by go_num, HB3_.out, fun i hi hi' => by
            rcases Nat.lt_or_ge i k with h1 | h1
            · exact HA.out i h1 hi'
            · obtain rfl : i = k := by omega
              rw [(List.getElem?_eq_some_iff.1 HX.out).2]; exact HM.out⟩
        case measure => simp [intOf]; omega
      · simp only [Bool.not_eq_true] at hm
        have HALL := Lib.hid (all_false HX.out hm)
        rw [hm]
        clear hm
        go_wp2_with fail
        go_ret
        refine ⟨ret_bool ?_, HBf.out⟩
        rw [HALL.out, Bool.and_false]
    · have HALL_1 := Lib.hid (all_true (show l.length ≤ k by omega) HA.out)
      generalize wr = w1 at *
      have HB1 := Lib.hid (bthen HB0.out hbw)
      clear hbw HA
      go_wp2_with fail
      go_ret
      exact ⟨ret_bool (by rw [HALL_1.out, Bool.and_true]), HB1.out⟩

theorem mayFactB_eq (p : Pr) : mayFactB p = (p.terms.all (fun t => !(t.kind == 1)) && mayPredB p) := by
  unfold mayFactB
  rw [Bool.eq_iff_iff]
  simp only [Bool.and_eq_true, List.all_eq_true, Bool.not_eq_true', beq_eq_false_iff_ne, decide_eq_true_eq]
  constructor
  · rintro ⟨h1, h2, h3⟩
    refine ⟨fun t ht => ?_, h1⟩
    have := h3 t ht
    unfold fixedB at this
    simp only [Bool.and_eq_true, decide_eq_true_eq] at this
    exact this.1
  · rintro ⟨h1, h2⟩
    have h3 := h2
    unfold mayPredB at h3
    simp only [Bool.and_eq_true, List.all_eq_true, decide_eq_true_eq] at h3
    refine ⟨h2, h3.2.1, fun t ht => ?_⟩
    unfold fixedB
    rw [h3.2.2 t ht, decide_eq_true (h1 t ht)]
    rfl

set_option maxRecDepth 100000 in
set_option maxHeartbeats 2000000 in
theorem refMayFact_any {d B : Nat} {p : Pr} {vs : List Value} {w : World} (hp : (PrR d).rd w B p vs) (hB : B ≤ w.heap.size) :
    Calls Tryz.prog 16 #[.agg vs.toArray] w fun e w' => e = .returned (.bool (mayFactB p)) ∧ Below w.heap.size w w' := by
  have HP := Lib.hid hp
  obtain ⟨_, rfl, hs, A, c, rfl, h1, h2, hl⟩ := hp
  simp only [TmR] at h2
  have HL := Lib.hid hl
  clear hl
  go_enter Tryz.func16, Tryz.ntmps16
  go_wp2_with fail
  generalize hW : World.alloc _ _ = W
  obtain ⟨hb, hz⟩ := al1 hW
  have ba := n11 hW
  have HB1 := Lib.hid hb
  have hB1 : B ≤ W.heap.size := by omega
  clear hW hz hb
  go_loopw [8] (fun i wr => ∃ k : Nat, k ≤ p.terms.length ∧ i = .int .i64 k ∧ Below W.heap.size W wr ∧ ∀ i (hi : i < k) (hi' : i < p.terms.length), (fun t : Tm => !(t.kind == 1)) p.terms[i] = true) (fun i _ => p.terms.length - (intOf i).toNat)
  case atStart => exact ⟨0, Nat.zero_le _, rfl, Below.refl _ _, fun i h => absurd h (by omega)⟩
  case round =>
    obtain ⟨k, hk, rfl, hbw, hall⟩ := hrel
    have HA := Lib.hid hall
    clear hall
    by_cases hlt : k < p.terms.length
    · have hl := HL.out.keep HB1.out hB
      obtain ⟨b, off, rfl, hob⟩ := hl.base hbw hB1 (by omega)
      obtain ⟨x, vs, hx, hlen, hcell, hr⟩ := hl.at_ hbw hB1 hlt
      obtain ⟨Ax, cx, rfl, _⟩ := RTm.cells hr
      have p0 : wr.cell? ⟨b, off + k * 4, none⟩ = some (.int .i64 x.kind) := hcell 0 _ rfl
      have p1 : wr.cell? ⟨b, off + k * 4 + 1, none⟩ = some (.int .i64 x.n) := hcell 1 _ rfl
      have p2 : wr.cell? ⟨b, off + k * 4 + 2, none⟩ = some (.string x.s) := hcell 2 _ rfl
      have p3 : wr.cell? ⟨b, off + k * 4 + 3, none⟩ = some (.slice Ax x.l.length cx) := hcell 3 _ rfl
      have HBa := Lib.hid (fun o : Obj => bthen hbw ((Below.refl wr.heap.size wr).alloc (Nat.le_refl _) o))
      have HX := Lib.hid hx
      clear hl hcell hlen hr hx hbw
      by_cases hk1 : (x.kind == 1) = true
      · have HALL := Lib.hid (all_false (p := fun t : Tm => !(t.kind == 1)) HX.out (by show (!(x.kind == 1)) = false; rw [hk1]; rfl))
        go_wp2_with fail
        go_ret
        exact ⟨ret_bool (by rw [mayFactB_eq, HALL.out]; rfl), bthen HB1.out (HBa.out _)⟩
      · have hk1 : (x.kind == 1) = false := by simpa using hk1
        have HK := Lib.hid hk1
        go_wp2_with fail
        go_roundw
        case rel => exact ⟨k + 1, by omega, by go_num, HBa.out _, fun i hi hi' => by
          rcases Nat.lt_or_ge i k with h1 | h1
          · exact HA.out i h1 hi'
          · obtain rfl : i = k := by omega
            rw [(List.getElem?_eq_some_iff.1 HX.out).2]
            show (!(x.kind == 1)) = true
            rw [HK.out]; rfl⟩
        case measure => simp [intOf]; omega
    · have HALL := Lib.hid (all_true (p := fun t : Tm => !(t.kind == 1)) (show p.terms.length ≤ k by omega) HA.out)
      have HB2 := Lib.hid (bthen HB1.out hbw)
      have ca := (ba.later hbw).cell
      have la := (ba.later hbw).lt
      clear hbw
      go_wp2_with fail
      refine (refMayPred_any (d := d) (B := B) (p := p) (vs := [_, _]) ((PrR d).keep HB2.out hB HP.out) (Nat.le_trans hB HB2.out.size)).mono ?_
      rintro e w3 ⟨rfl, hb3⟩
      have HB3 := Lib.hid (bthen HB2.out hb3)
      clear hb3
      go_wp2_with fail
      go_ret
      exact ⟨ret_bool (by rw [mayFactB_eq, HALL.out, Bool.true_and]), HB3.out⟩

set_option maxRecDepth 100000 in
set_option maxHeartbeats 2000000 in
theorem refExprNames_any {d B : Nat} {e : List OpD} {vs : List Value} {w : World} (he : (ExR d).rd w B e vs) (hB : B ≤ w.heap.size) :
    Calls Tryz.prog 92 #[.agg vs.toArray] w fun x w' => (∃ v, x = .returned v ∧ ReadsS w' (namesE e) v) ∧ Below w.heap.size w w' := by
  have HP := Lib.hid he
  obtain ⟨_, rfl, A, c, rfl, h1, h2, hl⟩ := he
  simp only [OpR] at h2
  have HL := Lib.hid hl
  clear hl
  go_enter Tryz.func92, Tryz.ntmps92
  go_wp2_with fail
  generalize hW : World.alloc _ _ = W
  obtain ⟨hb, hz⟩ := al1 hW
  have ba := n11 hW
  refine (refMayExpr_any (d := d) (B := B) (e := e) (vs := [_]) ((ExR d).keep hb hB HP.out) (by omega)).mono ?_
  rintro x w2 ⟨rfl, hb2⟩
  have HB2 := Lib.hid (bthen hb hb2)
  have ca := (ba.later hb2).cell
  have la := (ba.later hb2).lt
  clear hW hb hz hb2 ba
  by_cases hm : mayExprB e = true
  rotate_left
  · simp only [Bool.not_eq_true] at hm
    have HM := Lib.hid hm
    rw [hm]
    clear hm
    go_wp2_with fail
    go_ret
    exact ⟨⟨_, rfl, by unfold namesE; rw [HM.out]; exact ReadsS.nil _⟩, HB2.out⟩
  have HM := Lib.hid hm
  have hel : e.length ≤ 32 := by
    unfold mayExprB at hm
    simp only [Bool.and_eq_true, decide_eq_true_eq] at hm
    exact hm.1
  rw [hm]
  clear hm
  have hB2 : B ≤ w2.heap.size := Nat.le_trans hB HB2.out.size
  go_wp2_with fail
  go_loopw [3, 12] (fun v i wr => ∃ k : Nat, k ≤ e.length ∧ i = .int .i64 k ∧ ReadsS wr (uniqL (exprVars (e.take k))) v ∧ Below w2.heap.size w2 wr) (fun _ i _ => e.length - (intOf i).toNat)
  case atStart => exact ⟨0, Nat.zero_le _, rfl, by rw [List.take_zero, show uniqL (exprVars []) = [] from List.eq_nil_of_length_eq_zero (Nat.le_zero.1 (uniqL_length []))]; exact ReadsS.nil w2, Below.refl _ _⟩
  case round =>
    obtain ⟨k, hk, rfl, hown, hbw⟩ := hrel
    have HO := Lib.hid hown
    clear hown
    by_cases hlt : k < e.length
    · have hl := HL.out.keep HB2.out hB
      obtain ⟨b, off, rfl, hob⟩ := hl.base hbw hB2 (by omega)
      obtain ⟨o, vs, hx, hlen, hcell, hr⟩ := hl.at_ hbw hB2 hlt
      obtain ⟨Ao, co, rfl, hk1, hk2, hk3, ht⟩ := OpR.cells hr
      obtain ⟨_, _, _, _, _, hsx, _⟩ := RTm.cells ht
      have c0 : wr.cell? ⟨b, off + k * 7, none⟩ = some (.int .i64 o.kind) := hcell 0 _ rfl
      have c1 : wr.cell? ⟨b, off + k * 7 + 1, none⟩ = some (.int .i64 o.term.kind) := hcell 1 _ rfl
      have c2 : wr.cell? ⟨b, off + k * 7 + 2, none⟩ = some (.int .i64 o.term.n) := hcell 2 _ rfl
      have c3 : wr.cell? ⟨b, off + k * 7 + 3, none⟩ = some (.string o.term.s) := hcell 3 _ rfl
      have c4 : wr.cell? ⟨b, off + k * 7 + 4, none⟩ = some (.slice Ao o.term.l.length co) := hcell 4 _ rfl
      have c5 : wr.cell? ⟨b, off + k * 7 + 5, none⟩ = some (.int .i64 o.code) := hcell 5 _ rfl
      have c6 : wr.cell? ⟨b, off + k * 7 + 6, none⟩ = some (.int .i64 o.skip) := hcell 6 _ rfl
      have HX := Lib.hid (exprVars_succ hx)
      have HLN : Hid ((uniqL (exprVars (e.take k))).length ≤ 1000000) := by
        have h3 := uniqL_length (exprVars (e.take k))
        have h4 := exprVars_le (e.take k)
        have h5 := List.length_take_le k e
        exact (by omega : (uniqL (exprVars (e.take k))).length ≤ 1000000)
      have HBw := Lib.hid hbw
      have hszr := hbw.size
      clear hl hcell hlen hx hr ht hbw
      have hc : ((o.kind == 1) = true ∧ (o.term.kind == 1) = true) ∨ ((o.kind == 1) = true ∧ (o.term.kind == 1) = false) ∨ (o.kind == 1) = false := by
        cases (o.kind == 1) <;> cases (o.term.kind == 1) <;> simp
      rcases hc with ⟨q1, q2⟩ | hc
      · have HV : Hid (isVar o = true) := by
          rw [beq_iff_eq] at q1 q2
          unfold isVar
          rw [decide_eq_true q1, decide_eq_true q2]
          exact rfl
        go_wp2_with fail
        generalize hW2 : World.alloc _ _ = W2
        obtain ⟨hb2, hz2⟩ := al1 hW2
        refine (withV_any (HO.out.later hb2) HLN.out hsx).mono ?_
        rintro x w4 ⟨⟨v4, rfl, h4⟩, hb4⟩
        have HN : Hid (ReadsS w4 (uniqL (exprVars (e.take (k + 1)))) v4) := by
          rw [HX.out, if_pos HV.out, ← withL_uniq]
          exact h4
        have HB4 := Lib.hid (bthen HBw.out (bthen hb2 hb4))
        clear hW2 hb2 hz2 hb4 h4
        go_wp2_with fail
        go_roundw
        case rel => exact ⟨k + 1, by omega, by go_num, HN.out, HB4.out⟩
        case measure => simp [intOf]; omega
      · have HV : Hid (isVar o = false) := by
          unfold isVar
          rcases hc with ⟨q1, q2⟩ | q1
          · rw [beq_eq_false_iff_ne] at q2
            rw [decide_eq_false q2, Bool.and_false]
            exact rfl
          · rw [beq_eq_false_iff_ne] at q1
            rw [decide_eq_false q1, Bool.false_and]
            exact rfl
        have HN : Hid (uniqL (exprVars (e.take (k + 1))) = uniqL (exprVars (e.take k))) := by
          rw [HX.out, if_neg (by rw [HV.out]; simp), List.append_nil]
          exact rfl
        have HBel := Lib.hid (fun o : Obj => (Below.refl wr.heap.size wr).alloc (Nat.le_refl _) o)
        rcases hc with ⟨q1, q2⟩ | q1
        all_goals
          go_wp2_with fail
          go_roundw
          case rel => exact ⟨k + 1, by omega, by go_num, by rw [HN.out]; exact HO.out.later (HBel.out _), bthen HBw.out (HBel.out _)⟩
          case measure => simp [intOf]; omega
    · have HE : Hid (e.take k = e) := List.take_of_length_le (by omega)
      have HB3 := Lib.hid (bthen HB2.out hbw)
      clear hbw
      go_wp2_with fail
      go_ret
      exact ⟨⟨_, rfl, by have := HO.out; rw [HE.out] at this; unfold namesE; rw [HM.out]; exact this⟩, HB3.out⟩

end Go.Proofs.YtfknlghegchbkabGreat
