/- viaticumlaw12.ExprOne. -/
import Derived.Test.YtiplipdigabidaaGreatAwake12
import Derived.Test.YtiplipdigabidaaGreatLight12
import Derived.Test.YtiplipdigabidaaGreatEvLaw2
import Derived.Test.YtiplipdigabidaaGreatOwnS
import Derived.Test.YtiplipdigabidaaGreatRefHas
import Derived.Lib.QuietBelow
import Derived.BigQuiet
set_option linter.unusedVariables false
set_option linter.unusedSimpArgs false
namespace Go.Proofs.YtiplipdigabidaaGreat
open Go.ChangeShapes Go.WideShapes Go.ChangeAt Go.RowKit

theorem sameB_self (a : Tm) : sameB a a = true := by unfold sameB; rw [(cmpT_ord 3).self a]; rfl
def oneE (t : Tm) : List OpD := [⟨1, t, 0, 0⟩]
theorem oneE_rd {D B : Nat} {t : Tm} {vs : List Value} {w : World} {s : Nat} (ht : RTm w B (D + 1) t vs) (hs : Blk w s (#[.int .i64 1] ++ vs.toArray ++ #[.int .i64 0, .int .i64 0])) (hb : s < B) : (ExR (D + 1)).rd w B (oneE t) [.slice (some ⟨s, 0, none⟩) 1 1] := by
  obtain ⟨A, c, rfl, _⟩ := id ht.cells
  exact ⟨_, rfl, _, _, rfl, Nat.le_refl _, ⟨by simp [OpR, oneE], by omega⟩, hs.rls (Flat.one (R := OpR (D + 1)) (x := ⟨1, t, 0, 0⟩) ⟨_, rfl, i64_lit (by simp) (by simp), i64_lit (by simp) (by simp), i64_lit (by simp) (by simp), ht⟩) hb⟩

set_option maxRecDepth 100000 in
set_option maxHeartbeats 16000000 in
theorem exprOne_any {D B cn ct : Nat} {t : Tm} {vs : List Value} {b : Bd} {An At : Option Addr} {w : World} {m : Int} (ha : RTm w B (D + 1) t vs) (hn : RL StrR w B (b.names.map mkS) An) (ht : RL (TmR (D + 1)) w B b.terms At) (hn1 : b.names.length * 8 ≤ 140737488351232) (ht1 : b.terms.length * 32 ≤ 140737488351232) (hB : B ≤ w.heap.size) (hm : w.cell? ⟨0, 0, none⟩ = some (.int .i64 m)) (h0 : 0 < w.heap.size) :
    Calls Tryz.prog 7 #[.agg vs.toArray, .agg (bdV An b.names.length cn At b.terms.length ct)] w fun z w' => z = .returned (.bool true) ∧ Below w.heap.size w w' := by
  have HA := Lib.hid ha
  have HN := Lib.hid hn
  have HT := Lib.hid ht
  have HM := Lib.hid hm
  have HN1 := Lib.hid hn1
  have HT1 := Lib.hid ht1
  obtain ⟨A, c, rfl, q1, q2, q3, q4, q5, _⟩ := ha.cells
  clear hn ht hm hn1 ht1 ha
  unfold bdV
  go_enter Tryz.func7, Tryz.ntmps7
  go_wp2_with fail
  generalize hW : World.alloc _ _ = w1
  obtain ⟨hb, hz⟩ := al4 hW
  have b_t_1 := n41 hW
  have b_b_1 := n42 hW
  have b_s_1 := n43 hW
  have b_e_1 := n44 hW
  have HB1 := Lib.hid hb
  clear hW hz hb
  have HEX := Lib.hid (oneE_rd (D := D) (B := w1.heap.size) (vs := [_, _, _, _]) ((HA.out.below HB1.out hB).more (Nat.le_trans hB HB1.out.size)) b_s_1 b_s_1.lt)
  have HZ1 := Lib.hid (Below.refl w1.heap.size w1)
  refine (light12_any (vs := [_]) ((ExR (D + 1)).keep HZ1.out (Nat.le_refl _) HEX.out) HZ1.out.size).mono ?_
  rintro x w2 ⟨⟨q1_, rfl⟩, hb⟩
  have b_t_2 := b_t_1.later hb
  have b_b_2 := b_b_1.later hb
  have b_s_2 := b_s_1.later hb
  have b_e_2 := b_e_1.later hb
  have HB2 := Lib.hid (bthen HB1.out hb)
  have HZ2 := Lib.hid (bthen HZ1.out hb)
  clear b_t_1 b_b_1 b_s_1 b_e_1
  clear hb
  cases q1_
  · have k_t := b_t_2.cell
    have l_t := b_t_2.lt
    have k_b := b_b_2.cell
    have l_b := b_b_2.lt
    have k_s := b_s_2.cell
    have l_s := b_s_2.lt
    have k_e := b_e_2.cell
    have l_e := b_e_2.lt
    go_wp2_with fail
    clear k_t l_t k_b l_b k_s l_s k_e l_e
    refine (awake12_any ((HB2.out.cell (p := ⟨0, 0, none⟩) h0).trans HM.out) (Nat.lt_of_lt_of_le h0 HB2.out.size)).mono ?_
    rintro x w3 ⟨rfl, hb⟩
    have b_t_3 := b_t_2.later hb
    have b_b_3 := b_b_2.later hb
    have b_s_3 := b_s_2.later hb
    have b_e_3 := b_e_2.later hb
    have HB3 := Lib.hid (bthen HB2.out hb)
    have HZ3 := Lib.hid (bthen HZ2.out hb)
    clear b_t_2 b_b_2 b_s_2 b_e_2
    clear hb
    have k_t := b_t_3.cell
    have l_t := b_t_3.lt
    have k_b := b_b_3.cell
    have l_b := b_b_3.lt
    have k_s := b_s_3.cell
    have l_s := b_s_3.lt
    have k_e := b_e_3.cell
    have l_e := b_e_3.lt
    go_wp2_with fail
    clear k_t l_t k_b l_b k_s l_s k_e l_e
    go_ret
    exact ⟨rfl, HB3.out⟩
  · have k_t := b_t_2.cell
    have l_t := b_t_2.lt
    have k_b := b_b_2.cell
    have l_b := b_b_2.lt
    have k_s := b_s_2.cell
    have l_s := b_s_2.lt
    have k_e := b_e_2.cell
    have l_e := b_e_2.lt
    go_wp2_with fail
    clear k_t l_t k_b l_b k_s l_s k_e l_e
    refine (lightBind_any (cn := cn) (ct := ct) (d := D + 1) HN1.out ((HT.out.keep HB2.out hB).wide (Nat.le_trans hB HB1.out.size)) HT1.out HZ2.out.size).mono ?_
    rintro x w3 ⟨⟨q2_, rfl⟩, hb⟩
    have b_t_3 := b_t_2.later hb
    have b_b_3 := b_b_2.later hb
    have b_s_3 := b_s_2.later hb
    have b_e_3 := b_e_2.later hb
    have HB3 := Lib.hid (bthen HB2.out hb)
    have HZ3 := Lib.hid (bthen HZ2.out hb)
    clear b_t_2 b_b_2 b_s_2 b_e_2
    clear hb
    cases q2_
    · have k_t := b_t_3.cell
      have l_t := b_t_3.lt
      have k_b := b_b_3.cell
      have l_b := b_b_3.lt
      have k_s := b_s_3.cell
      have l_s := b_s_3.lt
      have k_e := b_e_3.cell
      have l_e := b_e_3.lt
      go_wp2_with fail
      clear k_t l_t k_b l_b k_s l_s k_e l_e
      refine (awake12_any ((HB3.out.cell (p := ⟨0, 0, none⟩) h0).trans HM.out) (Nat.lt_of_lt_of_le h0 HB3.out.size)).mono ?_
      rintro x w4 ⟨rfl, hb⟩
      have b_t_4 := b_t_3.later hb
      have b_b_4 := b_b_3.later hb
      have b_s_4 := b_s_3.later hb
      have b_e_4 := b_e_3.later hb
      have HB4 := Lib.hid (bthen HB3.out hb)
      have HZ4 := Lib.hid (bthen HZ3.out hb)
      clear b_t_3 b_b_3 b_s_3 b_e_3
      clear hb
      have k_t := b_t_4.cell
      have l_t := b_t_4.lt
      have k_b := b_b_4.cell
      have l_b := b_b_4.lt
      have k_s := b_s_4.cell
      have l_s := b_s_4.lt
      have k_e := b_e_4.cell
      have l_e := b_e_4.lt
      go_wp2_with fail
      clear k_t l_t k_b l_b k_s l_s k_e l_e
      go_ret
      exact ⟨rfl, HB4.out⟩
    · have k_t := b_t_3.cell
      have l_t := b_t_3.lt
      have k_b := b_b_3.cell
      have l_b := b_b_3.lt
      have k_s := b_s_3.cell
      have l_s := b_s_3.lt
      have k_e := b_e_3.cell
      have l_e := b_e_3.lt
      go_wp2_with fail
      clear k_t l_t k_b l_b k_s l_s k_e l_e
      refine (refMay_any (d := D + 1) (t := t) (vs := [_, _, _, _]) ((HA.out.below HB3.out hB).more (Nat.le_trans hB HB1.out.size)) HZ3.out.size).mono ?_
      rintro x w4 ⟨rfl, hb⟩
      have b_t_4 := b_t_3.later hb
      have b_b_4 := b_b_3.later hb
      have b_s_4 := b_s_3.later hb
      have b_e_4 := b_e_3.later hb
      have HB4 := Lib.hid (bthen HB3.out hb)
      have HZ4 := Lib.hid (bthen HZ3.out hb)
      clear b_t_3 b_b_3 b_s_3 b_e_3
      clear hb
      by_cases hm1 : mayB t = true
      · have HM1 := Lib.hid hm1
        rw [hm1]
        clear hm1
        have k_t := b_t_4.cell
        have l_t := b_t_4.lt
        have k_b := b_b_4.cell
        have l_b := b_b_4.lt
        have k_s := b_s_4.cell
        have l_s := b_s_4.lt
        have k_e := b_e_4.cell
        have l_e := b_e_4.lt
        go_wp2_with fail
        clear k_t l_t k_b l_b k_s l_s k_e l_e
        refine (maybind_any (cn := cn) (ct := ct) (d := D) ((HN.out.keep HB4.out hB).wide (Nat.le_trans hB HB1.out.size)) ((HT.out.keep HB4.out hB).wide (Nat.le_trans hB HB1.out.size)) HZ4.out.size).mono ?_
        rintro x w5 ⟨rfl, hb⟩
        have b_t_5 := b_t_4.later hb
        have b_b_5 := b_b_4.later hb
        have b_s_5 := b_s_4.later hb
        have b_e_5 := b_e_4.later hb
        have HB5 := Lib.hid (bthen HB4.out hb)
        have HZ5 := Lib.hid (bthen HZ4.out hb)
        clear b_t_4 b_b_4 b_s_4 b_e_4
        clear hb
        by_cases hb1 : bindB b = true
        · have HB_ := Lib.hid hb1
          rw [hb1]
          clear hb1
          have hone := one_law (b := b) HM1.out
          by_cases hk : t.kind = 1
          · rw [if_pos hk, if_pos hk] at hone
            have g1 : (t.kind != 1) = false := by simp [hk]
            cases hl : lookR b (bs t.s)
            · rw [hl] at hone
              have HEV : Hid ((if (mayExprB (oneE t) && bindB b) = true then evalT b (oneE t) else (noT, 1)) = (noT, (8 : Int))) := Lib.hid (by rw [show mayExprB (oneE t) = true from hone.1, HB_.out]; exact hone.2.1)
              have HNE := Lib.hid hone.2.2
              have HLK := Lib.hid hl
              clear hone hk hl
              have k_t := b_t_5.cell
              have l_t := b_t_5.lt
              have k_b := b_b_5.cell
              have l_b := b_b_5.lt
              have k_s := b_s_5.cell
              have l_s := b_s_5.lt
              have k_e := b_e_5.cell
              have l_e := b_e_5.lt
              go_wp2_with fail
              clear k_t l_t k_b l_b k_s l_s k_e l_e
              refine (eval_any (evs := [_]) (D := D) (cn := cn) (ct := ct) ((ExR (D + 1)).keep HZ5.out (Nat.le_refl _) HEX.out) ((HN.out.keep HB5.out hB).wide (Nat.le_trans hB HB1.out.size)) ((HT.out.keep HB5.out hB).wide (Nat.le_trans hB HB1.out.size)) HZ5.out.size ((HB5.out.cell (p := ⟨0, 0, none⟩) h0).trans HM.out) (Nat.lt_of_lt_of_le h0 HB5.out.size)).mono ?_
              rintro x w6 ⟨⟨Ax, cx, rfl, hrd⟩, hb⟩
              have b_t_6 := b_t_5.later hb
              have b_b_6 := b_b_5.later hb
              have b_s_6 := b_s_5.later hb
              have b_e_6 := b_e_5.later hb
              have HB6 := Lib.hid (bthen HB5.out hb)
              have HZ6 := Lib.hid (bthen HZ5.out hb)
              clear b_t_5 b_b_5 b_s_5 b_e_5
              clear hb
              have hev : (if (mayExprB (oneE t) && bindB b) = true then evalT b (oneE t) else (noT, 1)) = (noT, (8 : Int)) := HEV.out
              rw [hev] at hrd ⊢
              clear hev
              have HX6 := Lib.hid hrd
              clear hrd
              have HY6 := Lib.hid (Below.refl w6.heap.size w6)
              have k_t := b_t_6.cell
              have l_t := b_t_6.lt
              have k_b := b_b_6.cell
              have l_b := b_b_6.lt
              have k_s := b_s_6.cell
              have l_s := b_s_6.lt
              have k_e := b_e_6.cell
              have l_e := b_e_6.lt
              go_upto_region 5 with fail
              clear k_t l_t k_b l_b k_s l_s k_e l_e
              generalize hW : World.alloc _ _ = w7
              obtain ⟨hb, hz⟩ := al1 hW
              have b_x_7 := n11 hW
              have b_t_7 := b_t_6.later hb
              have b_b_7 := b_b_6.later hb
              have b_s_7 := b_s_6.later hb
              have b_e_7 := b_e_6.later hb
              have HB7 := Lib.hid (bthen HB6.out hb)
              have HZ7 := Lib.hid (bthen HZ6.out hb)
              have HY7 := Lib.hid (bthen HY6.out hb)
              clear b_t_6 b_b_6 b_s_6 b_e_6
              clear hW hz hb
              have k_t := b_t_7.cell
              have l_t := b_t_7.lt
              have k_b := b_b_7.cell
              have l_b := b_b_7.lt
              have k_s := b_s_7.cell
              have l_s := b_s_7.lt
              have k_e := b_e_7.cell
              have l_e := b_e_7.lt
              have k_x := b_x_7.cell
              have l_x := b_x_7.lt
              go_wp2_with fail
              clear k_t l_t k_b l_b k_s l_s k_e l_e k_x l_x
              refine (look_any (cn := cn) (ct := ct) (d := D) ((HN.out.keep HB7.out hB).wide (Nat.le_trans hB HB1.out.size)) ((HT.out.keep HB7.out hB).wide (Nat.le_trans hB HB1.out.size)) HZ7.out.size).mono ?_
              intro z w8 hz
              rw [if_pos HB_.out, HLK.out] at hz
              obtain ⟨⟨A9, c9, rfl, hown⟩, hb⟩ := hz
              have b_t_8 := b_t_7.later hb
              have b_b_8 := b_b_7.later hb
              have b_s_8 := b_s_7.later hb
              have b_e_8 := b_e_7.later hb
              have b_x_8 := b_x_7.later hb
              have HB8 := Lib.hid (bthen HB7.out hb)
              have HZ8 := Lib.hid (bthen HZ7.out hb)
              have HY8 := Lib.hid (bthen HY7.out hb)
              clear b_t_7 b_b_7 b_s_7 b_e_7 b_x_7 hb
              have HU8 := Lib.hid hown.rtm
              clear hown
              have HV8 := Lib.hid (Below.refl w8.heap.size w8)
              simp only [Option.getD_some, Option.isSome_some, Option.getD_none, Option.isSome_none] at HU8 ⊢
              have k_t := b_t_8.cell
              have l_t := b_t_8.lt
              have k_b := b_b_8.cell
              have l_b := b_b_8.lt
              have k_s := b_s_8.cell
              have l_s := b_s_8.lt
              have k_e := b_e_8.cell
              have l_e := b_e_8.lt
              have k_x := b_x_8.cell
              have l_x := b_x_8.lt
              go_upto_region 8 with fail
              clear k_t l_t k_b l_b k_s l_s k_e l_e k_x l_x
              generalize hW : World.alloc _ _ = w9
              obtain ⟨hb, hz⟩ := al1 hW
              have b_y_9 := n11 hW
              have b_t_9 := b_t_8.later hb
              have b_b_9 := b_b_8.later hb
              have b_s_9 := b_s_8.later hb
              have b_e_9 := b_e_8.later hb
              have b_x_9 := b_x_8.later hb
              have HB9 := Lib.hid (bthen HB8.out hb)
              have HZ9 := Lib.hid (bthen HZ8.out hb)
              have HY9 := Lib.hid (bthen HY8.out hb)
              have HV9 := Lib.hid (bthen HV8.out hb)
              clear b_t_8 b_b_8 b_s_8 b_e_8 b_x_8
              clear hW hz hb
              have k_t := b_t_9.cell
              have l_t := b_t_9.lt
              have k_b := b_b_9.cell
              have l_b := b_b_9.lt
              have k_s := b_s_9.cell
              have l_s := b_s_9.lt
              have k_e := b_e_9.cell
              have l_e := b_e_9.lt
              have k_x := b_x_9.cell
              have l_x := b_x_9.lt
              have k_y := b_y_9.cell
              have l_y := b_y_9.lt
              go_wp2_with fail
              clear k_t l_t k_b l_b k_s l_s k_e l_e k_x l_x k_y l_y
              refine (exprNames_any (vs := [_]) ((ExR (D + 1)).keep HZ9.out (Nat.le_refl _) HEX.out) HZ9.out.size).mono ?_
              rintro x w10 ⟨v, rfl, hown, hb⟩
              have b_t_10 := b_t_9.later hb
              have b_b_10 := b_b_9.later hb
              have b_s_10 := b_s_9.later hb
              have b_e_10 := b_e_9.later hb
              have b_x_10 := b_x_9.later hb
              have b_y_10 := b_y_9.later hb
              have HB10 := Lib.hid (bthen HB9.out hb)
              have HZ10 := Lib.hid (bthen HZ9.out hb)
              have HY10 := Lib.hid (bthen HY9.out hb)
              have HV10 := Lib.hid (bthen HV9.out hb)
              clear b_t_9 b_b_9 b_s_9 b_e_9 b_x_9 b_y_9
              clear hb
              rw [show namesE (oneE t) = [bs t.s] from HNE.out] at hown
              obtain ⟨AN, cN, rfl, _, hrl⟩ := hown.reads (fun l h => by rw [List.mem_singleton] at h; subst h; rw [← Lib.size_eq]; exact q3) (by simp)
              obtain ⟨bo, oo, rfl, hbo, hcell⟩ := strs_at hrl (Below.refl _ _) (Nat.le_refl _) (by simp)
              have c0 := hcell 0 (by simp)
              rw [Nat.add_zero, List.getElem_cons_zero, mkS_bs] at c0
              clear hown hrl hcell
              rw [List.length_singleton]
              have k_t := b_t_10.cell
              have l_t := b_t_10.lt
              have k_b := b_b_10.cell
              have l_b := b_b_10.lt
              have k_s := b_s_10.cell
              have l_s := b_s_10.lt
              have k_e := b_e_10.cell
              have l_e := b_e_10.lt
              have k_x := b_x_10.cell
              have l_x := b_x_10.lt
              have k_y := b_y_10.cell
              have l_y := b_y_10.lt
              go_upto_region 9 with fail
              have qq_t := b_t_10.regrown
              have qq_b := b_b_10.regrown
              have qq_s := b_s_10.regrown
              have qq_e := b_e_10.regrown
              have qq_x := b_x_10.regrown
              have qq_y := b_y_10.regrown
              have c1 := cell_regrown c0
              clear k_t l_t k_b l_b k_s l_s k_e l_e k_x l_x k_y l_y
              have HXX := Lib.hid ((TmR (D + 1)).wide HY10.out.size ((TmR (D + 1)).keep HY10.out (Nat.le_refl _) HX6.out))
              have HUU := Lib.hid ((TmR (D + 1)).wide HV10.out.size ((TmR (D + 1)).keep HV10.out (Nat.le_refl _) HU8.out))
              clear c0
              refine wp_region_quiet_below (by kernel_rfl) (by kernel_rfl) ?_
              repeat (go_big_quiet_step (first
                | (go_at_call 15; exact Calls.regrown_of (as_bool (sameB_self noT) (refSame_any (d := D + 1) (d' := D + 1) (B := w10.heap.size) (vs := [_, _, _, _]) (ws := [_, _, _, _]) ((TmR (D + 1)).keep (below_regrown _ _ _) (Nat.le_refl _) HXX.out) ((TmR (D + 1)).keep (below_regrown _ _ _) (Nat.le_refl _) HUU.out) (below_regrown _ _ _).size)))
                | (go_at_call 13; exact Calls.regrown_of (awake12_any ((((below_regrown _ _ _).cell (p := ⟨0, 0, none⟩) (Nat.lt_of_lt_of_le h0 HB10.out.size)).trans ((HB10.out.cell (p := ⟨0, 0, none⟩) h0).trans HM.out))) (Nat.lt_of_lt_of_le h0 (Nat.le_trans HB10.out.size (below_regrown _ _ _).size))))))
              refine wpQuiet_nil ?_
              intro w_ hw_
              have hb_ : Below w10.heap.size w10 w_ := by obtain ⟨p, rfl⟩ := hw_; exact below_regrown _ _ _
              have HBf := Lib.hid (bthen HB10.out hb_)
              clear hw_ hb_
              go_wp2_with fail
              go_ret
              exact ⟨rfl, HBf.out⟩
            · rename_i u
              rw [hl] at hone
              have HEV : Hid ((if (mayExprB (oneE t) && bindB b) = true then evalT b (oneE t) else (noT, 1)) = (u, (0 : Int))) := Lib.hid (by rw [show mayExprB (oneE t) = true from hone.1, HB_.out]; exact hone.2.1)
              have HNE := Lib.hid hone.2.2
              have HLK := Lib.hid hl
              clear hone hk hl
              have k_t := b_t_5.cell
              have l_t := b_t_5.lt
              have k_b := b_b_5.cell
              have l_b := b_b_5.lt
              have k_s := b_s_5.cell
              have l_s := b_s_5.lt
              have k_e := b_e_5.cell
              have l_e := b_e_5.lt
              go_wp2_with fail
              clear k_t l_t k_b l_b k_s l_s k_e l_e
              refine (eval_any (evs := [_]) (D := D) (cn := cn) (ct := ct) ((ExR (D + 1)).keep HZ5.out (Nat.le_refl _) HEX.out) ((HN.out.keep HB5.out hB).wide (Nat.le_trans hB HB1.out.size)) ((HT.out.keep HB5.out hB).wide (Nat.le_trans hB HB1.out.size)) HZ5.out.size ((HB5.out.cell (p := ⟨0, 0, none⟩) h0).trans HM.out) (Nat.lt_of_lt_of_le h0 HB5.out.size)).mono ?_
              rintro x w6 ⟨⟨Ax, cx, rfl, hrd⟩, hb⟩
              have b_t_6 := b_t_5.later hb
              have b_b_6 := b_b_5.later hb
              have b_s_6 := b_s_5.later hb
              have b_e_6 := b_e_5.later hb
              have HB6 := Lib.hid (bthen HB5.out hb)
              have HZ6 := Lib.hid (bthen HZ5.out hb)
              clear b_t_5 b_b_5 b_s_5 b_e_5
              clear hb
              have hev : (if (mayExprB (oneE t) && bindB b) = true then evalT b (oneE t) else (noT, 1)) = (u, (0 : Int)) := HEV.out
              rw [hev] at hrd ⊢
              clear hev
              have HX6 := Lib.hid hrd
              clear hrd
              have HY6 := Lib.hid (Below.refl w6.heap.size w6)
              have k_t := b_t_6.cell
              have l_t := b_t_6.lt
              have k_b := b_b_6.cell
              have l_b := b_b_6.lt
              have k_s := b_s_6.cell
              have l_s := b_s_6.lt
              have k_e := b_e_6.cell
              have l_e := b_e_6.lt
              go_upto_region 5 with fail
              clear k_t l_t k_b l_b k_s l_s k_e l_e
              generalize hW : World.alloc _ _ = w7
              obtain ⟨hb, hz⟩ := al1 hW
              have b_x_7 := n11 hW
              have b_t_7 := b_t_6.later hb
              have b_b_7 := b_b_6.later hb
              have b_s_7 := b_s_6.later hb
              have b_e_7 := b_e_6.later hb
              have HB7 := Lib.hid (bthen HB6.out hb)
              have HZ7 := Lib.hid (bthen HZ6.out hb)
              have HY7 := Lib.hid (bthen HY6.out hb)
              clear b_t_6 b_b_6 b_s_6 b_e_6
              clear hW hz hb
              have k_t := b_t_7.cell
              have l_t := b_t_7.lt
              have k_b := b_b_7.cell
              have l_b := b_b_7.lt
              have k_s := b_s_7.cell
              have l_s := b_s_7.lt
              have k_e := b_e_7.cell
              have l_e := b_e_7.lt
              have k_x := b_x_7.cell
              have l_x := b_x_7.lt
              go_wp2_with fail
              clear k_t l_t k_b l_b k_s l_s k_e l_e k_x l_x
              refine (look_any (cn := cn) (ct := ct) (d := D) ((HN.out.keep HB7.out hB).wide (Nat.le_trans hB HB1.out.size)) ((HT.out.keep HB7.out hB).wide (Nat.le_trans hB HB1.out.size)) HZ7.out.size).mono ?_
              intro z w8 hz
              rw [if_pos HB_.out, HLK.out] at hz
              obtain ⟨⟨A9, c9, rfl, hown⟩, hb⟩ := hz
              have b_t_8 := b_t_7.later hb
              have b_b_8 := b_b_7.later hb
              have b_s_8 := b_s_7.later hb
              have b_e_8 := b_e_7.later hb
              have b_x_8 := b_x_7.later hb
              have HB8 := Lib.hid (bthen HB7.out hb)
              have HZ8 := Lib.hid (bthen HZ7.out hb)
              have HY8 := Lib.hid (bthen HY7.out hb)
              clear b_t_7 b_b_7 b_s_7 b_e_7 b_x_7 hb
              have HU8 := Lib.hid hown.rtm
              clear hown
              have HV8 := Lib.hid (Below.refl w8.heap.size w8)
              simp only [Option.getD_some, Option.isSome_some, Option.getD_none, Option.isSome_none] at HU8 ⊢
              have k_t := b_t_8.cell
              have l_t := b_t_8.lt
              have k_b := b_b_8.cell
              have l_b := b_b_8.lt
              have k_s := b_s_8.cell
              have l_s := b_s_8.lt
              have k_e := b_e_8.cell
              have l_e := b_e_8.lt
              have k_x := b_x_8.cell
              have l_x := b_x_8.lt
              go_upto_region 8 with fail
              clear k_t l_t k_b l_b k_s l_s k_e l_e k_x l_x
              generalize hW : World.alloc _ _ = w9
              obtain ⟨hb, hz⟩ := al1 hW
              have b_y_9 := n11 hW
              have b_t_9 := b_t_8.later hb
              have b_b_9 := b_b_8.later hb
              have b_s_9 := b_s_8.later hb
              have b_e_9 := b_e_8.later hb
              have b_x_9 := b_x_8.later hb
              have HB9 := Lib.hid (bthen HB8.out hb)
              have HZ9 := Lib.hid (bthen HZ8.out hb)
              have HY9 := Lib.hid (bthen HY8.out hb)
              have HV9 := Lib.hid (bthen HV8.out hb)
              clear b_t_8 b_b_8 b_s_8 b_e_8 b_x_8
              clear hW hz hb
              have k_t := b_t_9.cell
              have l_t := b_t_9.lt
              have k_b := b_b_9.cell
              have l_b := b_b_9.lt
              have k_s := b_s_9.cell
              have l_s := b_s_9.lt
              have k_e := b_e_9.cell
              have l_e := b_e_9.lt
              have k_x := b_x_9.cell
              have l_x := b_x_9.lt
              have k_y := b_y_9.cell
              have l_y := b_y_9.lt
              go_wp2_with fail
              clear k_t l_t k_b l_b k_s l_s k_e l_e k_x l_x k_y l_y
              refine (exprNames_any (vs := [_]) ((ExR (D + 1)).keep HZ9.out (Nat.le_refl _) HEX.out) HZ9.out.size).mono ?_
              rintro x w10 ⟨v, rfl, hown, hb⟩
              have b_t_10 := b_t_9.later hb
              have b_b_10 := b_b_9.later hb
              have b_s_10 := b_s_9.later hb
              have b_e_10 := b_e_9.later hb
              have b_x_10 := b_x_9.later hb
              have b_y_10 := b_y_9.later hb
              have HB10 := Lib.hid (bthen HB9.out hb)
              have HZ10 := Lib.hid (bthen HZ9.out hb)
              have HY10 := Lib.hid (bthen HY9.out hb)
              have HV10 := Lib.hid (bthen HV9.out hb)
              clear b_t_9 b_b_9 b_s_9 b_e_9 b_x_9 b_y_9
              clear hb
              rw [show namesE (oneE t) = [bs t.s] from HNE.out] at hown
              obtain ⟨AN, cN, rfl, _, hrl⟩ := hown.reads (fun l h => by rw [List.mem_singleton] at h; subst h; rw [← Lib.size_eq]; exact q3) (by simp)
              obtain ⟨bo, oo, rfl, hbo, hcell⟩ := strs_at hrl (Below.refl _ _) (Nat.le_refl _) (by simp)
              have c0 := hcell 0 (by simp)
              rw [Nat.add_zero, List.getElem_cons_zero, mkS_bs] at c0
              clear hown hrl hcell
              rw [List.length_singleton]
              have k_t := b_t_10.cell
              have l_t := b_t_10.lt
              have k_b := b_b_10.cell
              have l_b := b_b_10.lt
              have k_s := b_s_10.cell
              have l_s := b_s_10.lt
              have k_e := b_e_10.cell
              have l_e := b_e_10.lt
              have k_x := b_x_10.cell
              have l_x := b_x_10.lt
              have k_y := b_y_10.cell
              have l_y := b_y_10.lt
              go_upto_region 9 with fail
              have qq_t := b_t_10.regrown
              have qq_b := b_b_10.regrown
              have qq_s := b_s_10.regrown
              have qq_e := b_e_10.regrown
              have qq_x := b_x_10.regrown
              have qq_y := b_y_10.regrown
              have c1 := cell_regrown c0
              clear k_t l_t k_b l_b k_s l_s k_e l_e k_x l_x k_y l_y
              have HXX := Lib.hid ((TmR (D + 1)).wide HY10.out.size ((TmR (D + 1)).keep HY10.out (Nat.le_refl _) HX6.out))
              have HUU := Lib.hid ((TmR (D + 1)).wide HV10.out.size ((TmR (D + 1)).keep HV10.out (Nat.le_refl _) HU8.out))
              clear c0
              refine wp_region_quiet_below (by kernel_rfl) (by kernel_rfl) ?_
              repeat (go_big_quiet_step (first
                | (go_at_call 15; exact Calls.regrown_of (as_bool (sameB_self u) (refSame_any (d := D + 1) (d' := D + 1) (B := w10.heap.size) (vs := [_, _, _, _]) (ws := [_, _, _, _]) ((TmR (D + 1)).keep (below_regrown _ _ _) (Nat.le_refl _) HXX.out) ((TmR (D + 1)).keep (below_regrown _ _ _) (Nat.le_refl _) HUU.out) (below_regrown _ _ _).size)))
                | (go_at_call 13; exact Calls.regrown_of (awake12_any ((((below_regrown _ _ _).cell (p := ⟨0, 0, none⟩) (Nat.lt_of_lt_of_le h0 HB10.out.size)).trans ((HB10.out.cell (p := ⟨0, 0, none⟩) h0).trans HM.out))) (Nat.lt_of_lt_of_le h0 (Nat.le_trans HB10.out.size (below_regrown _ _ _).size))))))
              refine wpQuiet_nil ?_
              intro w_ hw_
              have hb_ : Below w10.heap.size w10 w_ := by obtain ⟨p, rfl⟩ := hw_; exact below_regrown _ _ _
              have HBf := Lib.hid (bthen HB10.out hb_)
              clear hw_ hb_
              go_wp2_with fail
              go_ret
              exact ⟨rfl, HBf.out⟩
          · rw [if_neg hk, if_neg hk] at hone
            have HEV : Hid ((if (mayExprB (oneE t) && bindB b) = true then evalT b (oneE t) else (noT, 1)) = (t, 0)) := Lib.hid (by rw [show mayExprB (oneE t) = true from hone.1, HB_.out]; exact hone.2.1)
            have HNE := Lib.hid hone.2.2
            have g1 : (t.kind != 1) = true := by simpa using hk
            clear hone hk
            have k_t := b_t_5.cell
            have l_t := b_t_5.lt
            have k_b := b_b_5.cell
            have l_b := b_b_5.lt
            have k_s := b_s_5.cell
            have l_s := b_s_5.lt
            have k_e := b_e_5.cell
            have l_e := b_e_5.lt
            go_wp2_with fail
            clear k_t l_t k_b l_b k_s l_s k_e l_e
            refine (eval_any (evs := [_]) (D := D) (cn := cn) (ct := ct) ((ExR (D + 1)).keep HZ5.out (Nat.le_refl _) HEX.out) ((HN.out.keep HB5.out hB).wide (Nat.le_trans hB HB1.out.size)) ((HT.out.keep HB5.out hB).wide (Nat.le_trans hB HB1.out.size)) HZ5.out.size ((HB5.out.cell (p := ⟨0, 0, none⟩) h0).trans HM.out) (Nat.lt_of_lt_of_le h0 HB5.out.size)).mono ?_
            rintro x w6 ⟨⟨Ax, cx, rfl, hrd⟩, hb⟩
            have b_t_6 := b_t_5.later hb
            have b_b_6 := b_b_5.later hb
            have b_s_6 := b_s_5.later hb
            have b_e_6 := b_e_5.later hb
            have HB6 := Lib.hid (bthen HB5.out hb)
            have HZ6 := Lib.hid (bthen HZ5.out hb)
            clear b_t_5 b_b_5 b_s_5 b_e_5
            clear hb
            have hev : (if (mayExprB (oneE t) && bindB b) = true then evalT b (oneE t) else (noT, 1)) = (t, 0) := HEV.out
            rw [hev] at hrd ⊢
            clear hev
            have HX6 := Lib.hid hrd
            clear hrd
            have HY6 := Lib.hid (Below.refl w6.heap.size w6)
            have k_t := b_t_6.cell
            have l_t := b_t_6.lt
            have k_b := b_b_6.cell
            have l_b := b_b_6.lt
            have k_s := b_s_6.cell
            have l_s := b_s_6.lt
            have k_e := b_e_6.cell
            have l_e := b_e_6.lt
            go_upto_region 5 with fail
            clear k_t l_t k_b l_b k_s l_s k_e l_e
            generalize hW : World.alloc _ _ = w7
            obtain ⟨hb, hz⟩ := al1 hW
            have b_x_7 := n11 hW
            have b_t_7 := b_t_6.later hb
            have b_b_7 := b_b_6.later hb
            have b_s_7 := b_s_6.later hb
            have b_e_7 := b_e_6.later hb
            have HB7 := Lib.hid (bthen HB6.out hb)
            have HZ7 := Lib.hid (bthen HZ6.out hb)
            have HY7 := Lib.hid (bthen HY6.out hb)
            clear b_t_6 b_b_6 b_s_6 b_e_6
            clear hW hz hb
            have k_t := b_t_7.cell
            have l_t := b_t_7.lt
            have k_b := b_b_7.cell
            have l_b := b_b_7.lt
            have k_s := b_s_7.cell
            have l_s := b_s_7.lt
            have k_e := b_e_7.cell
            have l_e := b_e_7.lt
            have k_x := b_x_7.cell
            have l_x := b_x_7.lt
            go_wp2_with fail
            clear k_t l_t k_b l_b k_s l_s k_e l_e k_x l_x
            refine (refSame_any (d := D + 1) (d' := D + 1) (vs := [_, _, _, _]) (ws := [_, _, _, _]) ((TmR (D + 1)).keep HY7.out (Nat.le_refl _) HX6.out) ((HA.out.below HB7.out hB).more (Nat.le_trans hB HB6.out.size)) HY7.out.size).mono ?_
            rintro x w8 ⟨rfl, hb⟩
            have b_t_8 := b_t_7.later hb
            have b_b_8 := b_b_7.later hb
            have b_s_8 := b_s_7.later hb
            have b_e_8 := b_e_7.later hb
            have b_x_8 := b_x_7.later hb
            have HB8 := Lib.hid (bthen HB7.out hb)
            have HZ8 := Lib.hid (bthen HZ7.out hb)
            have HY8 := Lib.hid (bthen HY7.out hb)
            clear b_t_7 b_b_7 b_s_7 b_e_7 b_x_7
            clear hb
            rw [sameB_self]
            have k_t := b_t_8.cell
            have l_t := b_t_8.lt
            have k_b := b_b_8.cell
            have l_b := b_b_8.lt
            have k_s := b_s_8.cell
            have l_s := b_s_8.lt
            have k_e := b_e_8.cell
            have l_e := b_e_8.lt
            have k_x := b_x_8.cell
            have l_x := b_x_8.lt
            go_wp2_with fail
            clear k_t l_t k_b l_b k_s l_s k_e l_e k_x l_x
            refine (exprNames_any (vs := [_]) ((ExR (D + 1)).keep HZ8.out (Nat.le_refl _) HEX.out) HZ8.out.size).mono ?_
            rintro x w9 ⟨v, rfl, hown, hb⟩
            have b_t_9 := b_t_8.later hb
            have b_b_9 := b_b_8.later hb
            have b_s_9 := b_s_8.later hb
            have b_e_9 := b_e_8.later hb
            have b_x_9 := b_x_8.later hb
            have HB9 := Lib.hid (bthen HB8.out hb)
            have HZ9 := Lib.hid (bthen HZ8.out hb)
            have HY9 := Lib.hid (bthen HY8.out hb)
            clear b_t_8 b_b_8 b_s_8 b_e_8 b_x_8
            clear hb
            rw [show namesE (oneE t) = [] from HNE.out] at hown
            obtain ⟨AN, cN, rfl, _, _⟩ := hown.reads (fun _ h => (List.not_mem_nil h).elim) (by simp)
            clear hown
            rw [List.length_nil]
            have k_t := b_t_9.cell
            have l_t := b_t_9.lt
            have k_b := b_b_9.cell
            have l_b := b_b_9.lt
            have k_s := b_s_9.cell
            have l_s := b_s_9.lt
            have k_e := b_e_9.cell
            have l_e := b_e_9.lt
            have k_x := b_x_9.cell
            have l_x := b_x_9.lt
            go_wp2_with fail
            clear k_t l_t k_b l_b k_s l_s k_e l_e k_x l_x
            refine (awake12_any ((HB9.out.cell (p := ⟨0, 0, none⟩) h0).trans HM.out) (Nat.lt_of_lt_of_le h0 HB9.out.size)).mono ?_
            rintro x w10 ⟨rfl, hb⟩
            have b_t_10 := b_t_9.later hb
            have b_b_10 := b_b_9.later hb
            have b_s_10 := b_s_9.later hb
            have b_e_10 := b_e_9.later hb
            have b_x_10 := b_x_9.later hb
            have HB10 := Lib.hid (bthen HB9.out hb)
            have HZ10 := Lib.hid (bthen HZ9.out hb)
            have HY10 := Lib.hid (bthen HY9.out hb)
            clear b_t_9 b_b_9 b_s_9 b_e_9 b_x_9
            clear hb
            have k_t := b_t_10.cell
            have l_t := b_t_10.lt
            have k_b := b_b_10.cell
            have l_b := b_b_10.lt
            have k_s := b_s_10.cell
            have l_s := b_s_10.lt
            have k_e := b_e_10.cell
            have l_e := b_e_10.lt
            have k_x := b_x_10.cell
            have l_x := b_x_10.lt
            go_wp2_with fail
            clear k_t l_t k_b l_b k_s l_s k_e l_e k_x l_x
            go_ret
            exact ⟨rfl, HB10.out⟩
        · simp only [Bool.not_eq_true] at hb1
          rw [hb1]
          have k_t := b_t_5.cell
          have l_t := b_t_5.lt
          have k_b := b_b_5.cell
          have l_b := b_b_5.lt
          have k_s := b_s_5.cell
          have l_s := b_s_5.lt
          have k_e := b_e_5.cell
          have l_e := b_e_5.lt
          go_wp2_with fail
          clear k_t l_t k_b l_b k_s l_s k_e l_e
          refine (awake12_any ((HB5.out.cell (p := ⟨0, 0, none⟩) h0).trans HM.out) (Nat.lt_of_lt_of_le h0 HB5.out.size)).mono ?_
          rintro x w6 ⟨rfl, hb⟩
          have b_t_6 := b_t_5.later hb
          have b_b_6 := b_b_5.later hb
          have b_s_6 := b_s_5.later hb
          have b_e_6 := b_e_5.later hb
          have HB6 := Lib.hid (bthen HB5.out hb)
          have HZ6 := Lib.hid (bthen HZ5.out hb)
          clear b_t_5 b_b_5 b_s_5 b_e_5
          clear hb
          have k_t := b_t_6.cell
          have l_t := b_t_6.lt
          have k_b := b_b_6.cell
          have l_b := b_b_6.lt
          have k_s := b_s_6.cell
          have l_s := b_s_6.lt
          have k_e := b_e_6.cell
          have l_e := b_e_6.lt
          go_wp2_with fail
          clear k_t l_t k_b l_b k_s l_s k_e l_e
          go_ret
          exact ⟨rfl, HB6.out⟩
      · simp only [Bool.not_eq_true] at hm1
        rw [hm1]
        have k_t := b_t_4.cell
        have l_t := b_t_4.lt
        have k_b := b_b_4.cell
        have l_b := b_b_4.lt
        have k_s := b_s_4.cell
        have l_s := b_s_4.lt
        have k_e := b_e_4.cell
        have l_e := b_e_4.lt
        go_wp2_with fail
        clear k_t l_t k_b l_b k_s l_s k_e l_e
        refine (awake12_any ((HB4.out.cell (p := ⟨0, 0, none⟩) h0).trans HM.out) (Nat.lt_of_lt_of_le h0 HB4.out.size)).mono ?_
        rintro x w5 ⟨rfl, hb⟩
        have b_t_5 := b_t_4.later hb
        have b_b_5 := b_b_4.later hb
        have b_s_5 := b_s_4.later hb
        have b_e_5 := b_e_4.later hb
        have HB5 := Lib.hid (bthen HB4.out hb)
        have HZ5 := Lib.hid (bthen HZ4.out hb)
        clear b_t_4 b_b_4 b_s_4 b_e_4
        clear hb
        have k_t := b_t_5.cell
        have l_t := b_t_5.lt
        have k_b := b_b_5.cell
        have l_b := b_b_5.lt
        have k_s := b_s_5.cell
        have l_s := b_s_5.lt
        have k_e := b_e_5.cell
        have l_e := b_e_5.lt
        go_wp2_with fail
        clear k_t l_t k_b l_b k_s l_s k_e l_e
        go_ret
        exact ⟨rfl, HB5.out⟩
end Go.Proofs.YtiplipdigabidaaGreat
