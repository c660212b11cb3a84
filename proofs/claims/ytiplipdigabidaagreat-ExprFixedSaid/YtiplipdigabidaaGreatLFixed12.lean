/- viaticumlaw12.ExprFixed. -/
import Derived.Test.YtiplipdigabidaaGreatAwake12
import Derived.Test.YtiplipdigabidaaGreatLight12
import Derived.Test.YtiplipdigabidaaGreatEvLaw2
import Derived.Test.YtiplipdigabidaaGreatOwnS
set_option linter.unusedVariables false
set_option linter.unusedSimpArgs false
namespace Go.Proofs.YtiplipdigabidaaGreat
open Go.ChangeShapes Go.WideShapes Go.ChangeAt Go.RowKit

def allIn (b : Bd) (L : List Bytes) : Bool := L.all fun n => (lookR b n).isSome
theorem allIn_succ {b : Bd} {L : List Bytes} {k : Nat} (h : k < L.length) : allIn b (L.take (k + 1)) = (allIn b (L.take k) && (lookR b L[k]).isSome) := by
  unfold allIn
  rw [List.take_succ_eq_append_getElem h, List.all_append]
  simp
theorem allIn_no {b : Bd} {L : List Bytes} {n : Bytes} (h : n ∈ L) (hn : lookR b n = none) : allIn b L = false := by
  unfold allIn
  rw [List.all_eq_false]
  exact ⟨n, h, by simp [hn]⟩
/-- What Eval tells. -/
theorem fixed_cases {b : Bd} {l : List OpD} {t : Tm} {e : Int} (h : evalE b l = (t, e)) :
    (e = 0 ∧ mayExprB l = true ∧ bindB b = true ∧ fixedB t = true) ∨ (e = 1 ∧ t = noT ∧ mayExprB l = false) ∨ (e = 1 ∧ t = noT ∧ mayExprB l = true ∧ bindB b = false) ∨ (e ≠ 0 ∧ t = noT ∧ mayExprB l = true ∧ bindB b = true ∧ (e = 8 → allIn b (namesE l) = false)) := by
  rcases Bool.eq_false_or_eq_true (mayExprB l) with hm | hm
  · rcases Bool.eq_false_or_eq_true (bindB b) with hb | hb
    · rw [evalE_of hm hb] at h
      rcases evT_parts (bindB_parts hb).1 (may_whole hm).2 with ⟨u, h1, _, h3⟩ | ⟨f, ts, h0, h1, _⟩
      · rw [h1] at h
        simp only [Prod.mk.injEq] at h
        exact .inl ⟨h.2.symm, hm, hb, h.1 ▸ h3⟩
      · refine .inr (.inr (.inr ?_))
        have hn := name_law (b := b) hm
        rw [h1] at h hn
        simp only [Prod.mk.injEq] at h hn
        obtain ⟨rfl, rfl⟩ := h
        refine ⟨h0, rfl, hm, hb, fun h8 => ?_⟩
        obtain ⟨n, hn1, hn2⟩ := hn h8
        exact allIn_no hn1 hn2
    · rw [evalE_no (.inr hb)] at h
      simp only [Prod.mk.injEq] at h
      exact .inr (.inr (.inl ⟨h.2.symm, h.1.symm, hm, hb⟩))
  · rw [evalE_no (.inl hm)] at h
    simp only [Prod.mk.injEq] at h
    exact .inr (.inl ⟨h.2.symm, h.1.symm, hm⟩)

set_option maxRecDepth 100000 in
set_option maxHeartbeats 16000000 in
theorem exprFixed_any {D B cn ct : Nat} {ops : List OpD} {evs : List Value} {b : Bd} {An At : Option Addr} {w : World} {m : Int} (he : (ExR (D + 1)).rd w B ops evs) (hn : RL StrR w B (b.names.map mkS) An) (ht : RL (TmR (D + 1)) w B b.terms At) (hn1 : b.names.length * 8 ≤ 140737488351232) (ht1 : b.terms.length * 32 ≤ 140737488351232) (hB : B ≤ w.heap.size) (hm : w.cell? ⟨0, 0, none⟩ = some (.int .i64 m)) (h0 : 0 < w.heap.size) :
    Calls Tryz.prog 6 #[.agg evs.toArray, .agg (bdV An b.names.length cn At b.terms.length ct)] w fun z w' => z = .returned (.bool true) ∧ Below w.heap.size w w' := by
  have HE := Lib.hid he
  have HN := Lib.hid hn
  have HT := Lib.hid ht
  have HM := Lib.hid hm
  have HN1 := Lib.hid hn1
  have HT1 := Lib.hid ht1
  obtain ⟨_, rfl, Ao, co, rfl, hc1, hc2, hl⟩ := he
  have HL := Lib.hid hl
  simp only [OpR] at hc2
  clear hl hn ht hm hn1 ht1
  unfold bdV
  go_enter Tryz.func6, Tryz.ntmps6
  go_wp2_with fail
  generalize hW : World.alloc _ _ = w1
  obtain ⟨hb, hz⟩ := al2 hW
  have b_e_1 := n21 hW
  have b_b_1 := n22 hW
  have HB1 := Lib.hid hb
  clear hW hz hb
  refine (light12_any (vs := [_]) ((ExR (D + 1)).keep HB1.out hB HE.out) (Nat.le_trans hB HB1.out.size)).mono ?_
  rintro x w2 ⟨⟨q1, rfl⟩, hb⟩
  have b_e_2 := b_e_1.later hb
  have b_b_2 := b_b_1.later hb
  have HB2 := Lib.hid (bthen HB1.out hb)
  clear b_e_1 b_b_1
  clear hb
  cases q1
  · have k_e := b_e_2.cell
    have l_e := b_e_2.lt
    have k_b := b_b_2.cell
    have l_b := b_b_2.lt
    go_wp2_with fail
    clear k_e l_e k_b l_b
    refine (awake12_any ((HB2.out.cell (p := ⟨0, 0, none⟩) h0).trans HM.out) (Nat.lt_of_lt_of_le h0 HB2.out.size)).mono ?_
    rintro x w3 ⟨rfl, hb⟩
    have b_e_3 := b_e_2.later hb
    have b_b_3 := b_b_2.later hb
    have HB3 := Lib.hid (bthen HB2.out hb)
    clear b_e_2 b_b_2
    clear hb
    have k_e := b_e_3.cell
    have l_e := b_e_3.lt
    have k_b := b_b_3.cell
    have l_b := b_b_3.lt
    go_wp2_with fail
    clear k_e l_e k_b l_b
    go_ret
    exact ⟨rfl, HB3.out⟩
  · have k_e := b_e_2.cell
    have l_e := b_e_2.lt
    have k_b := b_b_2.cell
    have l_b := b_b_2.lt
    go_wp2_with fail
    clear k_e l_e k_b l_b
    refine (lightBind_any (cn := cn) (ct := ct) (d := D + 1) HN1.out (HT.out.keep HB2.out hB) HT1.out (Nat.le_trans hB HB2.out.size)).mono ?_
    rintro x w3 ⟨⟨q2, rfl⟩, hb⟩
    have b_e_3 := b_e_2.later hb
    have b_b_3 := b_b_2.later hb
    have HB3 := Lib.hid (bthen HB2.out hb)
    clear b_e_2 b_b_2
    clear hb
    cases q2
    · have k_e := b_e_3.cell
      have l_e := b_e_3.lt
      have k_b := b_b_3.cell
      have l_b := b_b_3.lt
      go_wp2_with fail
      clear k_e l_e k_b l_b
      refine (awake12_any ((HB3.out.cell (p := ⟨0, 0, none⟩) h0).trans HM.out) (Nat.lt_of_lt_of_le h0 HB3.out.size)).mono ?_
      rintro x w4 ⟨rfl, hb⟩
      have b_e_4 := b_e_3.later hb
      have b_b_4 := b_b_3.later hb
      have HB4 := Lib.hid (bthen HB3.out hb)
      clear b_e_3 b_b_3
      clear hb
      have k_e := b_e_4.cell
      have l_e := b_e_4.lt
      have k_b := b_b_4.cell
      have l_b := b_b_4.lt
      go_wp2_with fail
      clear k_e l_e k_b l_b
      go_ret
      exact ⟨rfl, HB4.out⟩
    · have k_e := b_e_3.cell
      have l_e := b_e_3.lt
      have k_b := b_b_3.cell
      have l_b := b_b_3.lt
      go_wp2_with fail
      clear k_e l_e k_b l_b
      refine (eval_any (evs := [_]) (D := D) (cn := cn) (ct := ct) ((ExR (D + 1)).keep HB3.out hB HE.out) (HN.out.keep HB3.out hB) (HT.out.keep HB3.out hB) (Nat.le_trans hB HB3.out.size) ((HB3.out.cell (p := ⟨0, 0, none⟩) h0).trans HM.out) (Nat.lt_of_lt_of_le h0 HB3.out.size)).mono ?_
      rintro x w4 ⟨⟨Ax, cx, rfl, hrd⟩, hb⟩
      have b_e_4 := b_e_3.later hb
      have b_b_4 := b_b_3.later hb
      have HB4 := Lib.hid (bthen HB3.out hb)
      clear b_e_3 b_b_3
      clear hb
      have hev : (if (mayExprB ops && bindB b) = true then evalT b ops else (noT, 1)) = evalE b ops := rfl
      rw [hev] at hrd ⊢
      clear hev
      have HCS : ∀ u f, evalE b ops = (u, f) → _ := fun u f h => fixed_cases h
      generalize evalE b ops = r at *
      obtain ⟨x, f⟩ := r
      have HC := Lib.hid (HCS x f rfl)
      have HX4 := Lib.hid hrd
      clear hrd HCS
      simp only at HX4
      have k_e := b_e_4.cell
      have l_e := b_e_4.lt
      have k_b := b_b_4.cell
      have l_b := b_b_4.lt
      go_upto_region 4 with fail
      clear k_e l_e k_b l_b
      generalize hW : World.alloc _ _ = w5
      obtain ⟨hb, hz⟩ := al1 hW
      have b_x_5 := n11 hW
      have b_e_5 := b_e_4.later hb
      have b_b_5 := b_b_4.later hb
      have HB5 := Lib.hid (bthen HB4.out hb)
      have HZ5 := Lib.hid hb
      clear b_e_4 b_b_4
      clear hW hz hb
      have HX := Lib.hid ((TmR (D + 1)).keep HZ5.out (Nat.le_refl _) HX4.out)
      rcases HC.out with ⟨rfl, h1, h2, h3⟩ | ⟨rfl, rfl, h1⟩ | ⟨rfl, rfl, h1, h2⟩ | ⟨h0e, rfl, h1, h2, h3⟩
      · have HMAY := Lib.hid h1
        have HBND := Lib.hid h2
        have HFX := Lib.hid h3
        clear h1 h2 h3 HC
        have k_e := b_e_5.cell
        have l_e := b_e_5.lt
        have k_b := b_b_5.cell
        have l_b := b_b_5.lt
        have k_x := b_x_5.cell
        have l_x := b_x_5.lt
        go_wp2_with fail
        clear k_e l_e k_b l_b k_x l_x
        refine (refFixed_any (d := D + 1) (t := x) (vs := [_, _, _, _]) HX.out HZ5.out.size).mono ?_
        rintro x w6 ⟨rfl, hb⟩
        have b_e_6 := b_e_5.later hb
        have b_b_6 := b_b_5.later hb
        have b_x_6 := b_x_5.later hb
        have HB6 := Lib.hid (bthen HB5.out hb)
        have HZ6 := Lib.hid (bthen HZ5.out hb)
        clear b_e_5 b_b_5 b_x_5
        clear hb
        rw [HFX.out]
        have k_e := b_e_6.cell
        have l_e := b_e_6.lt
        have k_b := b_b_6.cell
        have l_b := b_b_6.lt
        have k_x := b_x_6.cell
        have l_x := b_x_6.lt
        go_wp2_with fail
        clear k_e l_e k_b l_b k_x l_x
        refine (mayExpr_any (vs := [_]) ((ExR (D + 1)).keep HB6.out hB HE.out) (Nat.le_trans hB HB6.out.size)).mono ?_
        rintro x w7 ⟨rfl, hb⟩
        have b_e_7 := b_e_6.later hb
        have b_b_7 := b_b_6.later hb
        have b_x_7 := b_x_6.later hb
        have HB7 := Lib.hid (bthen HB6.out hb)
        have HZ7 := Lib.hid (bthen HZ6.out hb)
        clear b_e_6 b_b_6 b_x_6
        clear hb
        rw [HMAY.out]
        have k_e := b_e_7.cell
        have l_e := b_e_7.lt
        have k_b := b_b_7.cell
        have l_b := b_b_7.lt
        have k_x := b_x_7.cell
        have l_x := b_x_7.lt
        go_wp2_with fail
        clear k_e l_e k_b l_b k_x l_x
        refine (maybind_any (cn := cn) (ct := ct) (d := D) (HN.out.keep HB7.out hB) (HT.out.keep HB7.out hB) (Nat.le_trans hB HB7.out.size)).mono ?_
        rintro x w8 ⟨rfl, hb⟩
        have b_e_8 := b_e_7.later hb
        have b_b_8 := b_b_7.later hb
        have b_x_8 := b_x_7.later hb
        have HB8 := Lib.hid (bthen HB7.out hb)
        have HZ8 := Lib.hid (bthen HZ7.out hb)
        clear b_e_7 b_b_7 b_x_7
        clear hb
        rw [HBND.out]
        have k_e := b_e_8.cell
        have l_e := b_e_8.lt
        have k_b := b_b_8.cell
        have l_b := b_b_8.lt
        have k_x := b_x_8.cell
        have l_x := b_x_8.lt
        go_wp2_with fail
        clear k_e l_e k_b l_b k_x l_x
        refine (awake12_any ((HB8.out.cell (p := ⟨0, 0, none⟩) h0).trans HM.out) (Nat.lt_of_lt_of_le h0 HB8.out.size)).mono ?_
        rintro x w9 ⟨rfl, hb⟩
        have b_e_9 := b_e_8.later hb
        have b_b_9 := b_b_8.later hb
        have b_x_9 := b_x_8.later hb
        have HB9 := Lib.hid (bthen HB8.out hb)
        have HZ9 := Lib.hid (bthen HZ8.out hb)
        clear b_e_8 b_b_8 b_x_8
        clear hb
        have k_e := b_e_9.cell
        have l_e := b_e_9.lt
        have k_b := b_b_9.cell
        have l_b := b_b_9.lt
        have k_x := b_x_9.cell
        have l_x := b_x_9.lt
        go_wp2_with fail
        clear k_e l_e k_b l_b k_x l_x
        go_ret
        exact ⟨rfl, HB9.out⟩
      · have HMAY := Lib.hid h1
        clear h1 HC
        have k_e := b_e_5.cell
        have l_e := b_e_5.lt
        have k_b := b_b_5.cell
        have l_b := b_b_5.lt
        have k_x := b_x_5.cell
        have l_x := b_x_5.lt
        go_wp2_with fail
        clear k_e l_e k_b l_b k_x l_x
        refine (mayExpr_any (vs := [_]) ((ExR (D + 1)).keep HB5.out hB HE.out) (Nat.le_trans hB HB5.out.size)).mono ?_
        rintro x w6 ⟨rfl, hb⟩
        have b_e_6 := b_e_5.later hb
        have b_b_6 := b_b_5.later hb
        have b_x_6 := b_x_5.later hb
        have HB6 := Lib.hid (bthen HB5.out hb)
        have HZ6 := Lib.hid (bthen HZ5.out hb)
        clear b_e_5 b_b_5 b_x_5
        clear hb
        rw [HMAY.out]
        have k_e := b_e_6.cell
        have l_e := b_e_6.lt
        have k_b := b_b_6.cell
        have l_b := b_b_6.lt
        have k_x := b_x_6.cell
        have l_x := b_x_6.lt
        go_wp2_with fail
        clear k_e l_e k_b l_b k_x l_x
        refine (awake12_any ((HB6.out.cell (p := ⟨0, 0, none⟩) h0).trans HM.out) (Nat.lt_of_lt_of_le h0 HB6.out.size)).mono ?_
        rintro x w7 ⟨rfl, hb⟩
        have b_e_7 := b_e_6.later hb
        have b_b_7 := b_b_6.later hb
        have b_x_7 := b_x_6.later hb
        have HB7 := Lib.hid (bthen HB6.out hb)
        have HZ7 := Lib.hid (bthen HZ6.out hb)
        clear b_e_6 b_b_6 b_x_6
        clear hb
        have k_e := b_e_7.cell
        have l_e := b_e_7.lt
        have k_b := b_b_7.cell
        have l_b := b_b_7.lt
        have k_x := b_x_7.cell
        have l_x := b_x_7.lt
        go_wp2_with fail
        clear k_e l_e k_b l_b k_x l_x
        go_ret
        exact ⟨rfl, HB7.out⟩
      · have HMAY := Lib.hid h1
        have HBND := Lib.hid h2
        clear h1 h2 HC
        have k_e := b_e_5.cell
        have l_e := b_e_5.lt
        have k_b := b_b_5.cell
        have l_b := b_b_5.lt
        have k_x := b_x_5.cell
        have l_x := b_x_5.lt
        go_wp2_with fail
        clear k_e l_e k_b l_b k_x l_x
        refine (mayExpr_any (vs := [_]) ((ExR (D + 1)).keep HB5.out hB HE.out) (Nat.le_trans hB HB5.out.size)).mono ?_
        rintro x w6 ⟨rfl, hb⟩
        have b_e_6 := b_e_5.later hb
        have b_b_6 := b_b_5.later hb
        have b_x_6 := b_x_5.later hb
        have HB6 := Lib.hid (bthen HB5.out hb)
        have HZ6 := Lib.hid (bthen HZ5.out hb)
        clear b_e_5 b_b_5 b_x_5
        clear hb
        rw [HMAY.out]
        have k_e := b_e_6.cell
        have l_e := b_e_6.lt
        have k_b := b_b_6.cell
        have l_b := b_b_6.lt
        have k_x := b_x_6.cell
        have l_x := b_x_6.lt
        go_wp2_with fail
        clear k_e l_e k_b l_b k_x l_x
        refine (maybind_any (cn := cn) (ct := ct) (d := D) (HN.out.keep HB6.out hB) (HT.out.keep HB6.out hB) (Nat.le_trans hB HB6.out.size)).mono ?_
        rintro x w7 ⟨rfl, hb⟩
        have b_e_7 := b_e_6.later hb
        have b_b_7 := b_b_6.later hb
        have b_x_7 := b_x_6.later hb
        have HB7 := Lib.hid (bthen HB6.out hb)
        have HZ7 := Lib.hid (bthen HZ6.out hb)
        clear b_e_6 b_b_6 b_x_6
        clear hb
        rw [HBND.out]
        have k_e := b_e_7.cell
        have l_e := b_e_7.lt
        have k_b := b_b_7.cell
        have l_b := b_b_7.lt
        have k_x := b_x_7.cell
        have l_x := b_x_7.lt
        go_wp2_with fail
        clear k_e l_e k_b l_b k_x l_x
        refine (awake12_any ((HB7.out.cell (p := ⟨0, 0, none⟩) h0).trans HM.out) (Nat.lt_of_lt_of_le h0 HB7.out.size)).mono ?_
        rintro x w8 ⟨rfl, hb⟩
        have b_e_8 := b_e_7.later hb
        have b_b_8 := b_b_7.later hb
        have b_x_8 := b_x_7.later hb
        have HB8 := Lib.hid (bthen HB7.out hb)
        have HZ8 := Lib.hid (bthen HZ7.out hb)
        clear b_e_7 b_b_7 b_x_7
        clear hb
        have k_e := b_e_8.cell
        have l_e := b_e_8.lt
        have k_b := b_b_8.cell
        have l_b := b_b_8.lt
        have k_x := b_x_8.cell
        have l_x := b_x_8.lt
        go_wp2_with fail
        clear k_e l_e k_b l_b k_x l_x
        go_ret
        exact ⟨rfl, HB8.out⟩
      · have HMAY := Lib.hid h1
        have HBND := Lib.hid h2
        have H8 := Lib.hid h3
        have H0E := Lib.hid h0e
        have p0 : (f == 0) = false := by simpa using h0e
        clear h1 h2 h3 h0e HC
        have k_e := b_e_5.cell
        have l_e := b_e_5.lt
        have k_b := b_b_5.cell
        have l_b := b_b_5.lt
        have k_x := b_x_5.cell
        have l_x := b_x_5.lt
        go_wp2_with fail
        clear k_e l_e k_b l_b k_x l_x
        refine (mayExpr_any (vs := [_]) ((ExR (D + 1)).keep HB5.out hB HE.out) (Nat.le_trans hB HB5.out.size)).mono ?_
        rintro x w6 ⟨rfl, hb⟩
        have b_e_6 := b_e_5.later hb
        have b_b_6 := b_b_5.later hb
        have b_x_6 := b_x_5.later hb
        have HB6 := Lib.hid (bthen HB5.out hb)
        have HZ6 := Lib.hid (bthen HZ5.out hb)
        clear b_e_5 b_b_5 b_x_5
        clear hb
        rw [HMAY.out]
        have k_e := b_e_6.cell
        have l_e := b_e_6.lt
        have k_b := b_b_6.cell
        have l_b := b_b_6.lt
        have k_x := b_x_6.cell
        have l_x := b_x_6.lt
        go_wp2_with fail
        clear k_e l_e k_b l_b k_x l_x
        refine (maybind_any (cn := cn) (ct := ct) (d := D) (HN.out.keep HB6.out hB) (HT.out.keep HB6.out hB) (Nat.le_trans hB HB6.out.size)).mono ?_
        rintro x w7 ⟨rfl, hb⟩
        have b_e_7 := b_e_6.later hb
        have b_b_7 := b_b_6.later hb
        have b_x_7 := b_x_6.later hb
        have HB7 := Lib.hid (bthen HB6.out hb)
        have HZ7 := Lib.hid (bthen HZ6.out hb)
        clear b_e_6 b_b_6 b_x_6
        clear hb
        rw [HBND.out]
        have k_e := b_e_7.cell
        have l_e := b_e_7.lt
        have k_b := b_b_7.cell
        have l_b := b_b_7.lt
        have k_x := b_x_7.cell
        have l_x := b_x_7.lt
        go_wp2_with fail
        clear k_e l_e k_b l_b k_x l_x
        refine (exprNames_any (vs := [_]) ((ExR (D + 1)).keep HB7.out hB HE.out) (Nat.le_trans hB HB7.out.size)).mono ?_
        rintro x w8 ⟨v, rfl, hown, hb⟩
        have b_e_8 := b_e_7.later hb
        have b_b_8 := b_b_7.later hb
        have b_x_8 := b_x_7.later hb
        have HB8 := Lib.hid (bthen HB7.out hb)
        have HZ8 := Lib.hid (bthen HZ7.out hb)
        clear b_e_7 b_b_7 b_x_7
        clear hb
        obtain ⟨AN, cN, rfl, hcN, hrl⟩ := hown.reads (names_sizes HE.out) (Nat.le_trans (namesE_len (may_whole HMAY.out).1) (by omega))
        have HNL := Lib.hid (namesE_len (may_whole HMAY.out).1)
        have hnl := HNL.out
        have HRN := Lib.hid hrl
        clear hown hrl
        have k_e := b_e_8.cell
        have l_e := b_e_8.lt
        have k_b := b_b_8.cell
        have l_b := b_b_8.lt
        have k_x := b_x_8.cell
        have l_x := b_x_8.lt
        go_wp2_with fail
        go_loopw [7, 58] (fun v i wr => ∃ k : Nat, k ≤ (namesE ops).length ∧ i = .int .i64 k ∧ v = .bool (allIn b ((namesE ops).take k)) ∧ Below w8.heap.size w8 wr) (fun _ i _ => (namesE ops).length - (intOf i).toNat)
        case atStart => exact ⟨0, Nat.zero_le _, rfl, rfl, Below.refl _ _⟩
        case round =>
          obtain ⟨k, hk, rfl, rfl, hbw⟩ := hrel
          have HBW := Lib.hid hbw
          clear k_e l_e
          clear k_b l_b
          clear k_x l_x
          have k_e := (b_e_8.later hbw).cell
          have l_e := (b_e_8.later hbw).lt
          have k_b := (b_b_8.later hbw).cell
          have l_b := (b_b_8.later hbw).lt
          have k_x := (b_x_8.later hbw).cell
          have l_x := (b_x_8.later hbw).lt
          have HBR := Lib.hid (bthen HB8.out hbw)
          by_cases hlt : k < (namesE ops).length
          · obtain ⟨bo, oo, rfl, hbo, hcell⟩ := strs_at HRN.out hbw (Nat.le_refl _) (by omega)
            have c0 := hcell k hlt
            have HSU := Lib.hid (allIn_succ (b := b) hlt)
            clear hcell hbw
            go_wp2_with fail
            refine (look_any (cn := cn) (ct := ct) (d := D) (HN.out.keep HBR.out hB) (HT.out.keep HBR.out hB) (Nat.le_trans hB HBR.out.size)).mono ?_
            intro z w2_ hz
            rw [if_pos HBND.out, bs_mkS] at hz
            obtain ⟨⟨A9, c9, rfl, _⟩, hb2⟩ := hz
            generalize lookR b (namesE ops)[k] = r at *
            have HB2_ := Lib.hid (bthen HBW.out hb2)
            have HSU2 := HSU.out
            clear hb2 c0 k_e l_e k_b l_b k_x l_x
            go_upto_region 13 with fail
            generalize hW : World.alloc _ _ = w3_
            obtain ⟨hb3, hz3⟩ := al1 hW
            have HB3_ := Lib.hid (bthen HB2_.out hb3)
            clear hb3 hW hz3
            generalize hq : allIn b ((namesE ops).take k) = q at *
            have HQ := Lib.hid HSU2
            clear HSU2
            rcases Bool.eq_false_or_eq_true q with rfl | rfl
            all_goals
              go_wp2_with fail
              go_roundw
              case rel => exact ⟨k + 1, by omega, by go_num, by rw [HQ.out]; rfl, HB3_.out⟩
              case measure => simp [intOf]; omega
          · have hkk : k = (namesE ops).length := by omega
            have HAL : Hid (∃ q, allIn b ((namesE ops).take k) = q ∧ (f = 8 → q = false)) := Lib.hid ⟨_, rfl, fun h => by rw [hkk, List.take_length]; exact H8.out h⟩
            obtain ⟨q, hq, h8⟩ := HAL.out
            rw [hq]
            have HQ8 := Lib.hid h8
            clear hq h8 hkk HBW
            generalize wr = w9 at *
            clear k_e l_e
            clear k_b l_b
            clear k_x l_x
            have b_e_9 := b_e_8.later hbw
            have b_b_9 := b_b_8.later hbw
            have b_x_9 := b_x_8.later hbw
            have HB9 := Lib.hid (bthen HB8.out hbw)
            have HZ9 := Lib.hid (bthen HZ8.out hbw)
            clear hbw HBR b_e_8 b_b_8 b_x_8
            rcases Bool.eq_false_or_eq_true q with rfl | rfl
            · have p8 : (f != 8) = true := by
                have := HQ8.out
                simp only [Bool.true_eq_false, imp_false] at this
                simpa using this
              have k_e := b_e_9.cell
              have l_e := b_e_9.lt
              have k_b := b_b_9.cell
              have l_b := b_b_9.lt
              have k_x := b_x_9.cell
              have l_x := b_x_9.lt
              go_wp2_with fail
              clear k_e l_e k_b l_b k_x l_x
              refine (awake12_any ((HB9.out.cell (p := ⟨0, 0, none⟩) h0).trans HM.out) (Nat.lt_of_lt_of_le h0 HB9.out.size)).mono ?_
              rintro x w10 ⟨rfl, hb⟩
              have b_e_10 := b_e_9.later hb
              have b_b_10 := b_b_9.later hb
              have b_x_10 := b_x_9.later hb
              have HB10 := Lib.hid (bthen HB9.out hb)
              have HZ10 := Lib.hid (bthen HZ9.out hb)
              clear b_e_9 b_b_9 b_x_9
              clear hb
              have k_e := b_e_10.cell
              have l_e := b_e_10.lt
              have k_b := b_b_10.cell
              have l_b := b_b_10.lt
              have k_x := b_x_10.cell
              have l_x := b_x_10.lt
              go_wp2_with fail
              clear k_e l_e k_b l_b k_x l_x
              go_ret
              exact ⟨rfl, HB10.out⟩
            · by_cases hf8 : f = 8
              · have p8 : (f != 8) = false := by simp [hf8]
                clear hf8
                have k_e := b_e_9.cell
                have l_e := b_e_9.lt
                have k_b := b_b_9.cell
                have l_b := b_b_9.lt
                have k_x := b_x_9.cell
                have l_x := b_x_9.lt
                go_wp2_with fail
                clear k_e l_e k_b l_b k_x l_x
                refine (awake12_any ((HB9.out.cell (p := ⟨0, 0, none⟩) h0).trans HM.out) (Nat.lt_of_lt_of_le h0 HB9.out.size)).mono ?_
                rintro x w10 ⟨rfl, hb⟩
                have b_e_10 := b_e_9.later hb
                have b_b_10 := b_b_9.later hb
                have b_x_10 := b_x_9.later hb
                have HB10 := Lib.hid (bthen HB9.out hb)
                have HZ10 := Lib.hid (bthen HZ9.out hb)
                clear b_e_9 b_b_9 b_x_9
                clear hb
                have k_e := b_e_10.cell
                have l_e := b_e_10.lt
                have k_b := b_b_10.cell
                have l_b := b_b_10.lt
                have k_x := b_x_10.cell
                have l_x := b_x_10.lt
                go_wp2_with fail
                clear k_e l_e k_b l_b k_x l_x
                go_ret
                exact ⟨rfl, HB10.out⟩
              · have p8 : (f != 8) = true := by simpa using hf8
                clear hf8
                have k_e := b_e_9.cell
                have l_e := b_e_9.lt
                have k_b := b_b_9.cell
                have l_b := b_b_9.lt
                have k_x := b_x_9.cell
                have l_x := b_x_9.lt
                go_wp2_with fail
                clear k_e l_e k_b l_b k_x l_x
                refine (awake12_any ((HB9.out.cell (p := ⟨0, 0, none⟩) h0).trans HM.out) (Nat.lt_of_lt_of_le h0 HB9.out.size)).mono ?_
                rintro x w10 ⟨rfl, hb⟩
                have b_e_10 := b_e_9.later hb
                have b_b_10 := b_b_9.later hb
                have b_x_10 := b_x_9.later hb
                have HB10 := Lib.hid (bthen HB9.out hb)
                have HZ10 := Lib.hid (bthen HZ9.out hb)
                clear b_e_9 b_b_9 b_x_9
                clear hb
                have k_e := b_e_10.cell
                have l_e := b_e_10.lt
                have k_b := b_b_10.cell
                have l_b := b_b_10.lt
                have k_x := b_x_10.cell
                have l_x := b_x_10.lt
                go_wp2_with fail
                clear k_e l_e k_b l_b k_x l_x
                go_ret
                exact ⟨rfl, HB10.out⟩
end Go.Proofs.YtiplipdigabidaaGreat
