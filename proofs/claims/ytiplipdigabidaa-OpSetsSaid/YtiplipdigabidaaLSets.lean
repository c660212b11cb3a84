/- viaticumlaw11.OpSets. -/
import Derived.Test.YtiplipdigabidaaRefSet
import Derived.Test.YtiplipdigabidaaOp5
set_option linter.unusedVariables false
set_option linter.unusedSimpArgs false
namespace Go.Proofs.Ytiplipdigabidaa
open Go.ChangeShapes Go.WideShapes Go.ChangeAt Go.RowKit

theorem rl_deeper {d D B : Nat} {l : List Tm} {A : Option Addr} {w : World} (h : d ≤ D) (hl : RL (TmR d) w B l A) : RL (TmR D) w B l A := RowOf.mono hl fun _ _ _ ⟨x, hx, hr⟩ => ⟨x, hx, RTm.deeper h hr⟩
theorem refSet_of {d B c : Nat} {l : List Tm} {A : Option Addr} {w : World} {r : Tm × Int} (h : setR l = r) (hl : RL (TmR d) w B l A) (hB : B ≤ w.heap.size) (hn : l.length ≤ 140737488351232) :
    Calls Try.prog 5 #[.slice A l.length c] w fun e w' => TermE d w w' r e := h ▸ refSet_any hl hB hn
abbrev setOf (L : List Tm) : Tm := ⟨7, 0, emptyS, L⟩
theorem setR_no {l : List Tm} (h : setArgB l = false) : setR l = (noT, 1) := by unfold setR; rw [h]; rfl
theorem setR_yes {l : List Tm} (h : setArgB l = true) : setR l = (setOf (setL (cmpT 3) l), 0) := by unfold setR; rw [h]; rfl
theorem join_form (A B : List Tm) : (∃ e : Int, (e != 0) = true ∧ joinR (setOf A) (setOf B) = (noT, e)) ∨ ∃ LY, joinR (setOf A) (setOf B) = (setOf LY, 0) := by
  unfold joinR
  split
  · exact .inl ⟨7, by decide, rfl⟩
  · split
    · exact .inl ⟨4, by decide, rfl⟩
    · unfold setR
      split
      · exact .inr ⟨_, rfl⟩
      · exact .inl ⟨1, by decide, rfl⟩
section
variable {d B : Nat} {LA LB : List Tm} {vs ws : List Value} {w : World}
theorem binMeet_of {r : List Tm} (h : (meetT (setOf LA) (setOf LB)).l = r) (ha : RTm w B (d + 1) (setOf LA) vs) (hb : RTm w B (d + 1) (setOf LB) ws) (hB : B ≤ w.heap.size) (fa : OkL LA) (fb : OkL LB) :
    Calls Try.prog 8 #[.int .i64 15, .agg vs.toArray, .agg ws.toArray] w fun z w' => TermE d w w' (setOf r, 0) z := by
  subst h
  exact bin_meet ha hb hB (ok_fixed fa) (ok_fixed fb)
theorem binJoin_of {r : Tm × Int} (h : joinR (setOf LA) (setOf LB) = r) (ha : RTm w B (d + 1) (setOf LA) vs) (hb : RTm w B (d + 1) (setOf LB) ws) (hB : B ≤ w.heap.size) (fa : OkL LA) (fb : OkL LB) :
    Calls Try.prog 8 #[.int .i64 16, .agg vs.toArray, .agg ws.toArray] w fun z w' => TermE d w w' r z := by
  subst h
  exact bin_join ha hb hB (ok_fixed fa) (ok_fixed fb)
theorem binCont_of (h : containsS (setOf LA) (setOf LB) = true) (ha : RTm w B (d + 1) (setOf LA) vs) (hb : RTm w B (d + 1) (setOf LB) ws) (hB : B ≤ w.heap.size) (fa : fixedB (setOf LA) = true) (fb : OkL LB) :
    Calls Try.prog 8 #[.int .i64 11, .agg vs.toArray, .agg ws.toArray] w fun z w' => z = flatR 6 1 emp 0 ∧ Below w.heap.size w w' := by
  have := bin_contset ha hb hB fa (ok_fixed fb) (by decide)
  rw [h] at this
  exact this
end

set_option maxRecDepth 100000 in
set_option maxHeartbeats 16000000 in
theorem opSets_any {d d' B : Nat} {l m : List Tm} {v v' : Value} {w : World} (hl : RSl (TmR d) w B l v) (hm : RSl (TmR d') w B m v') (hB : B ≤ w.heap.size) :
    Calls Try.prog 3 #[v, v'] w fun z w' => z = .returned (.bool true) ∧ Below w.heap.size w w' := by
  obtain ⟨A, c, rfl, _, ⟨hn, _⟩, hl⟩ := hl
  obtain ⟨A', c', rfl, _, ⟨hn', _⟩, hm⟩ := hm
  have hn : l.length * (8 * 4) ≤ 140737488351232 := hn
  have hn' : m.length * (8 * 4) ≤ 140737488351232 := hn'
  have HL : Hid (RL (TmR (d + d')) w B l A) := Lib.hid (rl_deeper (by omega) hl)
  have HM : Hid (RL (TmR (d + d')) w B m A') := Lib.hid (rl_deeper (by omega) hm)
  have HNL := Lib.hid (show l.length ≤ 140737488351232 by omega)
  have HNM := Lib.hid (show m.length ≤ 140737488351232 by omega)
  clear hl hm hn hn'
  generalize d + d' = D at *
  rcases Bool.eq_false_or_eq_true (setArgB l) with hal | hal
  rotate_left
  · have HSL := Lib.hid (setR_no hal)
    generalize hsm : setR m = rm
    have HSM := Lib.hid hsm
    obtain ⟨tb, eb⟩ := rm
    clear hsm hal
    go_enter Try.func3, Try.ntmps3
    go_wp2_with fail
    refine (refSet_of (d := D) (B := B) HSL.out HL.out hB HNL.out).mono ?_
    rintro x w1 ⟨⟨A1, c1, rfl, hta⟩, hb⟩
    have HB1 := Lib.hid hb
    clear hb
    have HTA := Lib.hid hta
    clear hta
    go_wp2_with fail
    generalize hW : World.alloc _ _ = w2
    obtain ⟨hb, hz⟩ := al1 hW
    have b_a_2 := n11 hW
    have HB2 := Lib.hid (bthen HB1.out hb)
    have HX2 := Lib.hid hb
    clear hW hz hb
    refine (refSet_of (d := D) (B := B) HSM.out (HM.out.keep HB2.out hB) (Nat.le_trans hB HB2.out.size) HNM.out).mono ?_
    rintro x w3 ⟨⟨A2, c2, rfl, htb⟩, hb⟩
    have b_a_3 := b_a_2.later hb
    have HB3 := Lib.hid (bthen HB2.out hb)
    have HX3 := Lib.hid (bthen HX2.out hb)
    clear b_a_2
    clear hb
    have HTB := Lib.hid htb
    clear htb
    have k_a := b_a_3.cell
    have l_a := b_a_3.lt
    go_wp2_with fail
    clear k_a l_a
    generalize hW : World.alloc _ _ = w4
    obtain ⟨hb, hz⟩ := al1 hW
    have b_b_4 := n11 hW
    have b_a_4 := b_a_3.later hb
    have HB4 := Lib.hid (bthen HB3.out hb)
    have HX4 := Lib.hid (bthen HX3.out hb)
    have HY4 := Lib.hid hb
    clear b_a_3
    clear hW hz hb
    refine (awake_any _).mono ?_
    rintro x w5 ⟨rfl, hb⟩
    have b_a_5 := b_a_4.later hb
    have b_b_5 := b_b_4.later hb
    have HB5 := Lib.hid (bthen HB4.out hb)
    have HX5 := Lib.hid (bthen HX4.out hb)
    have HY5 := Lib.hid (bthen HY4.out hb)
    clear b_a_4 b_b_4
    clear hb
    have k_a := b_a_5.cell
    have l_a := b_a_5.lt
    have k_b := b_b_5.cell
    have l_b := b_b_5.lt
    go_wp2_with fail
    clear k_a l_a k_b l_b
    go_ret
    exact ⟨rfl, HB5.out⟩
  rcases Bool.eq_false_or_eq_true (setArgB m) with ham | ham
  rotate_left
  · have HSL := Lib.hid (setR_yes hal)
    have HSM := Lib.hid (setR_no ham)
    generalize setL (cmpT 3) l = LA at *
    clear hal ham
    go_enter Try.func3, Try.ntmps3
    go_wp2_with fail
    refine (refSet_of (d := D) (B := B) HSL.out HL.out hB HNL.out).mono ?_
    rintro x w1 ⟨⟨A1, c1, rfl, hta⟩, hb⟩
    have HB1 := Lib.hid hb
    clear hb
    have HTA := Lib.hid hta
    clear hta
    go_wp2_with fail
    generalize hW : World.alloc _ _ = w2
    obtain ⟨hb, hz⟩ := al1 hW
    have b_a_2 := n11 hW
    have HB2 := Lib.hid (bthen HB1.out hb)
    have HX2 := Lib.hid hb
    clear hW hz hb
    refine (refSet_of (d := D) (B := B) HSM.out (HM.out.keep HB2.out hB) (Nat.le_trans hB HB2.out.size) HNM.out).mono ?_
    rintro x w3 ⟨⟨A2, c2, rfl, htb⟩, hb⟩
    have b_a_3 := b_a_2.later hb
    have HB3 := Lib.hid (bthen HB2.out hb)
    have HX3 := Lib.hid (bthen HX2.out hb)
    clear b_a_2
    clear hb
    have HTB := Lib.hid htb
    clear htb
    have k_a := b_a_3.cell
    have l_a := b_a_3.lt
    go_wp2_with fail
    clear k_a l_a
    generalize hW : World.alloc _ _ = w4
    obtain ⟨hb, hz⟩ := al1 hW
    have b_b_4 := n11 hW
    have b_a_4 := b_a_3.later hb
    have HB4 := Lib.hid (bthen HB3.out hb)
    have HX4 := Lib.hid (bthen HX3.out hb)
    have HY4 := Lib.hid hb
    clear b_a_3
    clear hW hz hb
    refine (awake_any _).mono ?_
    rintro x w5 ⟨rfl, hb⟩
    have b_a_5 := b_a_4.later hb
    have b_b_5 := b_b_4.later hb
    have HB5 := Lib.hid (bthen HB4.out hb)
    have HX5 := Lib.hid (bthen HX4.out hb)
    have HY5 := Lib.hid (bthen HY4.out hb)
    clear b_a_4 b_b_4
    clear hb
    have k_a := b_a_5.cell
    have l_a := b_a_5.lt
    have k_b := b_b_5.cell
    have l_b := b_b_5.lt
    go_wp2_with fail
    clear k_a l_a k_b l_b
    go_ret
    exact ⟨rfl, HB5.out⟩
  have HSL := Lib.hid (setR_yes hal)
  have HSM := Lib.hid (setR_yes ham)
  have HOA := Lib.hid (set_ok hal)
  have HOB := Lib.hid (set_ok ham)
  clear hal ham
  generalize setL (cmpT 3) l = LA at *
  generalize setL (cmpT 3) m = LB at *
  generalize hmx : (meetT (setOf LA) (setOf LB)).l = LX
  have HMX := Lib.hid hmx
  have HMM : Hid (∀ t ∈ LX, hasB (setOf LA) t = true ∧ hasB (setOf LB) t = true) := Lib.hid (hmx ▸ meet_mem HOA.out HOB.out)
  have HXN : Hid (LX.length ≤ 16) := Lib.hid (hmx ▸ Nat.le_trans (List.length_filter_le _ _) HOA.out.few)
  generalize hj : joinR (setOf LA) (setOf LB) = rj
  have HJ := Lib.hid hj
  obtain ⟨ty, ey⟩ := rj
  have HJF : Hid ((ey != 0) = true ∨ ∃ LY, ty = setOf LY ∧ ey = 0 ∧ fixedB (setOf LY) = true ∧ containsS (setOf LY) (setOf LA) = true ∧ LX.length + LY.length = LA.length + LB.length) := Lib.hid (by
    rcases join_form LA LB with ⟨e, he, h⟩ | ⟨LY, h⟩
    · rw [hj] at h
      simp only [Prod.mk.injEq] at h
      exact .inl (h.2 ▸ he)
    · have h2 := h
      rw [hj] at h2
      simp only [Prod.mk.injEq] at h2
      obtain ⟨g1, g2, g3, g4⟩ := join_law HOA.out HOB.out h
      exact .inr ⟨LY, h2.1, h2.2, g1, g3, by rw [← hmx]; exact g4⟩)
  clear hmx hj
  go_enter Try.func3, Try.ntmps3
  go_wp2_with fail
  refine (refSet_of (d := D) (B := B) HSL.out HL.out hB HNL.out).mono ?_
  rintro x w1 ⟨⟨A1, c1, rfl, hta⟩, hb⟩
  have HB1 := Lib.hid hb
  clear hb
  have HTA := Lib.hid hta
  clear hta
  go_wp2_with fail
  generalize hW : World.alloc _ _ = w2
  obtain ⟨hb, hz⟩ := al1 hW
  have b_a_2 := n11 hW
  have HB2 := Lib.hid (bthen HB1.out hb)
  have HX2 := Lib.hid hb
  clear hW hz hb
  refine (refSet_of (d := D) (B := B) HSM.out (HM.out.keep HB2.out hB) (Nat.le_trans hB HB2.out.size) HNM.out).mono ?_
  rintro x w3 ⟨⟨A2, c2, rfl, htb⟩, hb⟩
  have b_a_3 := b_a_2.later hb
  have HB3 := Lib.hid (bthen HB2.out hb)
  have HX3 := Lib.hid (bthen HX2.out hb)
  clear b_a_2
  clear hb
  have HTB := Lib.hid htb
  clear htb
  have k_a := b_a_3.cell
  have l_a := b_a_3.lt
  go_wp2_with fail
  clear k_a l_a
  generalize hW : World.alloc _ _ = w4
  obtain ⟨hb, hz⟩ := al2 hW
  have b_b_4 := n21 hW
  have b_s_4 := n22 hW
  have b_a_4 := b_a_3.later hb
  have HB4 := Lib.hid (bthen HB3.out hb)
  have HX4 := Lib.hid (bthen HX3.out hb)
  have HY4 := Lib.hid hb
  clear b_a_3
  clear hW hz hb
  have HA := Lib.hid ((HTA.out.later HX4.out).rtm)
  have HB_ := Lib.hid ((HTB.out.later HY4.out).rtm)
  refine (light_any (d := D + 1) (B := w4.heap.size) (ts := [setOf LA, setOf LB]) (A := some ⟨w3.heap.size + 1, 0, none⟩) (c := 2) (b_s_4.rl2 (R := TmR (D + 1)) (us := [_, _, _, _]) (vs := [_, _, _, _]) rfl HA.out HB_.out b_s_4.lt) (Nat.le_refl _) (by simp)).mono ?_
  rintro x w5 ⟨⟨q, rfl⟩, hb⟩
  have b_a_5 := b_a_4.later hb
  have b_b_5 := b_b_4.later hb
  have b_s_5 := b_s_4.later hb
  have HB5 := Lib.hid (bthen HB4.out hb)
  have HX5 := Lib.hid (bthen HX4.out hb)
  have HY5 := Lib.hid (bthen HY4.out hb)
  have HZ5 := Lib.hid hb
  clear b_a_4 b_b_4 b_s_4
  clear hb
  rcases q with _ | _
  · have k_a := b_a_5.cell
    have l_a := b_a_5.lt
    have k_b := b_b_5.cell
    have l_b := b_b_5.lt
    go_wp2_with fail
    clear k_a l_a k_b l_b
    refine (awake_any _).mono ?_
    rintro x w6 ⟨rfl, hb⟩
    have b_a_6 := b_a_5.later hb
    have b_b_6 := b_b_5.later hb
    have HB6 := Lib.hid (bthen HB5.out hb)
    have HX6 := Lib.hid (bthen HX5.out hb)
    have HY6 := Lib.hid (bthen HY5.out hb)
    have HZ6 := Lib.hid (bthen HZ5.out hb)
    clear b_a_5 b_b_5
    clear hb
    have k_a := b_a_6.cell
    have l_a := b_a_6.lt
    have k_b := b_b_6.cell
    have l_b := b_b_6.lt
    go_wp2_with fail
    clear k_a l_a k_b l_b
    go_ret
    exact ⟨rfl, HB6.out⟩
  have k_a := b_a_5.cell
  have l_a := b_a_5.lt
  have k_b := b_b_5.cell
  have l_b := b_b_5.lt
  go_wp2_with fail
  clear k_a l_a k_b l_b
  refine (binMeet_of (vs := [_, _, _, _]) (ws := [_, _, _, _]) (d := D) (B := w4.heap.size) HMX.out (HA.out.below HZ5.out (Nat.le_refl _)) (HB_.out.below HZ5.out (Nat.le_refl _)) HZ5.out.size HOA.out HOB.out).mono ?_
  rintro x w6 ⟨⟨Ax, cx, rfl, htx⟩, hb⟩
  have b_a_6 := b_a_5.later hb
  have b_b_6 := b_b_5.later hb
  have HB6 := Lib.hid (bthen HB5.out hb)
  have HX6 := Lib.hid (bthen HX5.out hb)
  have HY6 := Lib.hid (bthen HY5.out hb)
  have HZ6 := Lib.hid (bthen HZ5.out hb)
  clear b_a_5 b_b_5
  clear hb
  have HTx := Lib.hid htx
  clear htx
  have k_a := b_a_6.cell
  have l_a := b_a_6.lt
  have k_b := b_b_6.cell
  have l_b := b_b_6.lt
  go_wp2_with fail
  clear k_a l_a k_b l_b
  generalize hW : World.alloc _ _ = w7
  obtain ⟨hb, hz⟩ := al1 hW
  have b_x_7 := n11 hW
  have b_a_7 := b_a_6.later hb
  have b_b_7 := b_b_6.later hb
  have HB7 := Lib.hid (bthen HB6.out hb)
  have HX7 := Lib.hid (bthen HX6.out hb)
  have HY7 := Lib.hid (bthen HY6.out hb)
  have HZ7 := Lib.hid (bthen HZ6.out hb)
  have HP7 := Lib.hid hb
  clear b_a_6 b_b_6
  clear hW hz hb
  refine (binJoin_of (vs := [_, _, _, _]) (ws := [_, _, _, _]) (d := D) (B := w4.heap.size) HJ.out (HA.out.below HZ7.out (Nat.le_refl _)) (HB_.out.below HZ7.out (Nat.le_refl _)) HZ7.out.size HOA.out HOB.out).mono ?_
  rintro x w8 ⟨⟨Ay, cy, rfl, hty⟩, hb⟩
  have b_a_8 := b_a_7.later hb
  have b_b_8 := b_b_7.later hb
  have b_x_8 := b_x_7.later hb
  have HB8 := Lib.hid (bthen HB7.out hb)
  have HX8 := Lib.hid (bthen HX7.out hb)
  have HY8 := Lib.hid (bthen HY7.out hb)
  have HZ8 := Lib.hid (bthen HZ7.out hb)
  have HP8 := Lib.hid (bthen HP7.out hb)
  clear b_a_7 b_b_7 b_x_7
  clear hb
  have HTy := Lib.hid hty
  clear hty
  have k_a := b_a_8.cell
  have l_a := b_a_8.lt
  have k_b := b_b_8.cell
  have l_b := b_b_8.lt
  have k_x := b_x_8.cell
  have l_x := b_x_8.lt
  go_wp2_with fail
  clear k_a l_a k_b l_b k_x l_x
  generalize hW : World.alloc _ _ = w9
  obtain ⟨hb, hz⟩ := al1 hW
  have b_y_9 := n11 hW
  have b_a_9 := b_a_8.later hb
  have b_b_9 := b_b_8.later hb
  have b_x_9 := b_x_8.later hb
  have HB9 := Lib.hid (bthen HB8.out hb)
  have HX9 := Lib.hid (bthen HX8.out hb)
  have HY9 := Lib.hid (bthen HY8.out hb)
  have HZ9 := Lib.hid (bthen HZ8.out hb)
  have HP9 := Lib.hid (bthen HP8.out hb)
  have HQ9 := Lib.hid hb
  clear b_a_8 b_b_8 b_x_8
  clear hW hz hb
  have HXR := Lib.hid ((HTx.out.later HP9.out).rtm)
  obtain ⟨A0_, c0_, e0_, _, _, _, _, _, hxl⟩ := HXR.out
  simp only [List.cons.injEq, Value.slice.injEq, and_true, true_and] at e0_
  obtain ⟨rfl, rfl⟩ := e0_
  have HXL : Hid (RL (TmR D) w9 w9.heap.size LX Ax) := Lib.hid hxl
  clear hxl
  go_loopw [62] (fun i wr => ∃ k : Nat, k ≤ LX.length ∧ i = .int .i64 k ∧ Hid (Below w9.heap.size w9 wr)) (fun i _ => LX.length - (intOf i).toNat)
  case atStart => exact ⟨0, Nat.zero_le _, rfl, Lib.hid (Below.refl _ _)⟩
  case round =>
    obtain ⟨k, hk, rfl, HBW⟩ := hrel
    by_cases hlt : k < LX.length
    · obtain ⟨bb, off, rfl, hob⟩ := HXL.out.base HBW.out (Nat.le_refl _) (by omega)
      obtain ⟨x, vs, hx, hlen, hcell, hr⟩ := HXL.out.at_ HBW.out (Nat.le_refl _) hlt
      obtain ⟨Ax_, cx_, rfl, _⟩ := RTm.cells (show RTm wr _ D x vs from hr)
      have e0 : wr.cell? ⟨bb, off + k * 4, none⟩ = some (.int .i64 x.kind) := hcell 0 _ rfl
      have e1 : wr.cell? ⟨bb, off + k * 4 + 1, none⟩ = some (.int .i64 x.n) := hcell 1 _ rfl
      have e2 : wr.cell? ⟨bb, off + k * 4 + 2, none⟩ = some (.string x.s) := hcell 2 _ rfl
      have e3 : wr.cell? ⟨bb, off + k * 4 + 3, none⟩ = some (.slice Ax_ x.l.length cx_) := hcell 3 _ rfl
      have HM_ := Lib.hid (HMM.out x (List.mem_of_getElem? hx))
      have HR : Hid (RTm wr w9.heap.size D x _) := Lib.hid hr
      have b_a_w := b_a_9.later HBW.out
      have b_b_w := b_b_9.later HBW.out
      have k_a := b_a_w.cell
      have l_a := b_a_w.lt
      clear hcell hlen hx hr
      go_wp2_with fail
      generalize hW : World.alloc _ _ = W1
      obtain ⟨hb1, hz⟩ := al1 hW
      have b_t := n11 hW
      have b_b_v := b_b_w.later hb1
      have HB1_ := Lib.hid (bthen HBW.out hb1)
      have HZ1_ := Lib.hid (bthen HZ9.out HB1_.out)
      have HR1 := Lib.hid ((HR.out.more (show w9.heap.size ≤ wr.heap.size from HBW.out.size)).below hb1 (Nat.le_refl _))
      have hle := hb1.size
      clear hW hb1 hz k_a l_a e0 e1 e2 e3
      refine (refHas_any (d := D) (d' := D) (s := setOf LA) (t := x) (B := W1.heap.size) (vs := [_, _, _, _]) (ws := [_, _, _, _]) ((HA.out.below HZ1_.out (Nat.le_refl _)).more HZ1_.out.size) (HR1.out.more hle) (Nat.le_refl _)).mono ?_
      rintro e W2 ⟨rfl, hb2⟩
      have b_t2 := b_t.later hb2
      have b_b_u := b_b_v.later hb2
      have HB2_ := Lib.hid (bthen HB1_.out hb2)
      have HZ2_ := Lib.hid (bthen HZ1_.out hb2)
      have HR2 := Lib.hid ((HR1.out.more hle).below hb2 (Nat.le_refl _))
      have hle2 := hb2.size
      rw [HM_.out.1]
      clear hb2 b_t b_b_v
      have k_b := b_b_u.cell
      have l_b := b_b_u.lt
      have k_t := b_t2.cell
      have l_t := b_t2.lt
      go_wp2_with fail
      refine (refHas_any (d := D) (d' := D) (s := setOf LB) (t := x) (B := W2.heap.size) (vs := [_, _, _, _]) (ws := [_, _, _, _]) ((HB_.out.below HZ2_.out (Nat.le_refl _)).more HZ2_.out.size) (HR2.out.more hle2) (Nat.le_refl _)).mono ?_
      rintro e W3 ⟨rfl, hb3⟩
      have HB3_ := Lib.hid (bthen HB2_.out hb3)
      rw [HM_.out.2]
      clear hb3 k_b l_b k_t l_t
      go_wp2_with fail
      go_roundw
      case rel => exact ⟨k + 1, by omega, by go_num, HB3_⟩
      case measure => simp [intOf]; omega
    · have hbw := HBW.out
      generalize wr = w10 at *
      have b_a_10 := b_a_9.later hbw
      have b_b_10 := b_b_9.later hbw
      have b_x_10 := b_x_9.later hbw
      have b_y_10 := b_y_9.later hbw
      have HB10 := Lib.hid (bthen HB9.out hbw)
      have HX10 := Lib.hid (bthen HX9.out hbw)
      have HY10 := Lib.hid (bthen HY9.out hbw)
      have HZ10 := Lib.hid (bthen HZ9.out hbw)
      have HP10 := Lib.hid (bthen HP9.out hbw)
      have HQ10 := Lib.hid (bthen HQ9.out hbw)
      clear b_a_9 b_b_9 b_x_9 b_y_9
      clear hbw HBW
      have k_a := b_a_10.cell
      have l_a := b_a_10.lt
      have k_b := b_b_10.cell
      have l_b := b_b_10.lt
      have k_x := b_x_10.cell
      have l_x := b_x_10.lt
      have k_y := b_y_10.cell
      have l_y := b_y_10.lt
      go_wp2_with fail
      clear k_a l_a k_b l_b k_x l_x k_y l_y
      refine (binMeet_of (vs := [_, _, _, _]) (ws := [_, _, _, _]) (d := D) (B := w4.heap.size) (show (meetT (setOf LA) (setOf LA)).l = LA by rw [meet_self HOA.out]) (HA.out.below HZ10.out (Nat.le_refl _)) (HA.out.below HZ10.out (Nat.le_refl _)) HZ10.out.size HOA.out HOA.out).mono ?_
      rintro x w11 ⟨⟨Az, cz, rfl, htz⟩, hb⟩
      have b_a_11 := b_a_10.later hb
      have b_b_11 := b_b_10.later hb
      have b_x_11 := b_x_10.later hb
      have b_y_11 := b_y_10.later hb
      have HB11 := Lib.hid (bthen HB10.out hb)
      have HX11 := Lib.hid (bthen HX10.out hb)
      have HY11 := Lib.hid (bthen HY10.out hb)
      have HZ11 := Lib.hid (bthen HZ10.out hb)
      have HP11 := Lib.hid (bthen HP10.out hb)
      have HQ11 := Lib.hid (bthen HQ10.out hb)
      clear b_a_10 b_b_10 b_x_10 b_y_10
      clear hb
      have HTz := Lib.hid htz
      clear htz
      have k_a := b_a_11.cell
      have l_a := b_a_11.lt
      have k_b := b_b_11.cell
      have l_b := b_b_11.lt
      have k_x := b_x_11.cell
      have l_x := b_x_11.lt
      have k_y := b_y_11.cell
      have l_y := b_y_11.lt
      go_wp2_with fail
      clear k_a l_a k_b l_b k_x l_x k_y l_y
      generalize hW : World.alloc _ _ = w12
      obtain ⟨hb, hz⟩ := al1 hW
      have b_z_12 := n11 hW
      have b_a_12 := b_a_11.later hb
      have b_b_12 := b_b_11.later hb
      have b_x_12 := b_x_11.later hb
      have b_y_12 := b_y_11.later hb
      have HB12 := Lib.hid (bthen HB11.out hb)
      have HX12 := Lib.hid (bthen HX11.out hb)
      have HY12 := Lib.hid (bthen HY11.out hb)
      have HZ12 := Lib.hid (bthen HZ11.out hb)
      have HP12 := Lib.hid (bthen HP11.out hb)
      have HQ12 := Lib.hid (bthen HQ11.out hb)
      have HR12 := Lib.hid hb
      clear b_a_11 b_b_11 b_x_11 b_y_11
      clear hW hz hb
      refine (binJoin_of (vs := [_, _, _, _]) (ws := [_, _, _, _]) (d := D) (B := w4.heap.size) (join_self HOA.out) (HA.out.below HZ12.out (Nat.le_refl _)) (HA.out.below HZ12.out (Nat.le_refl _)) HZ12.out.size HOA.out HOA.out).mono ?_
      rintro x w13 ⟨⟨Au, cu, rfl, htu⟩, hb⟩
      have b_a_13 := b_a_12.later hb
      have b_b_13 := b_b_12.later hb
      have b_x_13 := b_x_12.later hb
      have b_y_13 := b_y_12.later hb
      have b_z_13 := b_z_12.later hb
      have HB13 := Lib.hid (bthen HB12.out hb)
      have HX13 := Lib.hid (bthen HX12.out hb)
      have HY13 := Lib.hid (bthen HY12.out hb)
      have HZ13 := Lib.hid (bthen HZ12.out hb)
      have HP13 := Lib.hid (bthen HP12.out hb)
      have HQ13 := Lib.hid (bthen HQ12.out hb)
      have HR13 := Lib.hid (bthen HR12.out hb)
      clear b_a_12 b_b_12 b_x_12 b_y_12 b_z_12
      clear hb
      have HTu := Lib.hid htu
      clear htu
      have k_a := b_a_13.cell
      have l_a := b_a_13.lt
      have k_b := b_b_13.cell
      have l_b := b_b_13.lt
      have k_x := b_x_13.cell
      have l_x := b_x_13.lt
      have k_y := b_y_13.cell
      have l_y := b_y_13.lt
      have k_z := b_z_13.cell
      have l_z := b_z_13.lt
      go_wp2_with fail
      clear k_a l_a k_b l_b k_x l_x k_y l_y k_z l_z
      generalize hW : World.alloc _ _ = w14
      obtain ⟨hb, hz⟩ := al1 hW
      have b_u_14 := n11 hW
      have b_a_14 := b_a_13.later hb
      have b_b_14 := b_b_13.later hb
      have b_x_14 := b_x_13.later hb
      have b_y_14 := b_y_13.later hb
      have b_z_14 := b_z_13.later hb
      have HB14 := Lib.hid (bthen HB13.out hb)
      have HX14 := Lib.hid (bthen HX13.out hb)
      have HY14 := Lib.hid (bthen HY13.out hb)
      have HZ14 := Lib.hid (bthen HZ13.out hb)
      have HP14 := Lib.hid (bthen HP13.out hb)
      have HQ14 := Lib.hid (bthen HQ13.out hb)
      have HR14 := Lib.hid (bthen HR13.out hb)
      have HS14 := Lib.hid hb
      clear b_a_13 b_b_13 b_x_13 b_y_13 b_z_13
      clear hW hz hb
      refine (refSame_any (d := D + 1) (d' := D + 1) (a := setOf LA) (b := setOf LA) (B := w14.heap.size) (vs := [_, _, _, _]) (ws := [_, _, _, _]) (HTz.out.later HR14.out).rtm ((HA.out.below HZ14.out (Nat.le_refl _)).more HZ14.out.size) (Nat.le_refl _)).mono ?_
      rintro x w15 ⟨rfl, hb⟩
      have b_a_15 := b_a_14.later hb
      have b_b_15 := b_b_14.later hb
      have b_x_15 := b_x_14.later hb
      have b_y_15 := b_y_14.later hb
      have b_z_15 := b_z_14.later hb
      have b_u_15 := b_u_14.later hb
      have HB15 := Lib.hid (bthen HB14.out hb)
      have HX15 := Lib.hid (bthen HX14.out hb)
      have HY15 := Lib.hid (bthen HY14.out hb)
      have HZ15 := Lib.hid (bthen HZ14.out hb)
      have HP15 := Lib.hid (bthen HP14.out hb)
      have HQ15 := Lib.hid (bthen HQ14.out hb)
      have HR15 := Lib.hid (bthen HR14.out hb)
      have HS15 := Lib.hid (bthen HS14.out hb)
      clear b_a_14 b_b_14 b_x_14 b_y_14 b_z_14 b_u_14
      clear hb
      rw [same_self]
      have k_a := b_a_15.cell
      have l_a := b_a_15.lt
      have k_b := b_b_15.cell
      have l_b := b_b_15.lt
      have k_x := b_x_15.cell
      have l_x := b_x_15.lt
      have k_y := b_y_15.cell
      have l_y := b_y_15.lt
      have k_z := b_z_15.cell
      have l_z := b_z_15.lt
      have k_u := b_u_15.cell
      have l_u := b_u_15.lt
      go_wp2_with fail
      clear k_a l_a k_b l_b k_x l_x k_y l_y k_z l_z k_u l_u
      refine (refSame_any (d := D + 1) (d' := D + 1) (a := setOf LA) (b := setOf LA) (B := w15.heap.size) (vs := [_, _, _, _]) (ws := [_, _, _, _]) (HTu.out.later HS15.out).rtm ((HA.out.below HZ15.out (Nat.le_refl _)).more HZ15.out.size) (Nat.le_refl _)).mono ?_
      rintro x w16 ⟨rfl, hb⟩
      have b_a_16 := b_a_15.later hb
      have b_b_16 := b_b_15.later hb
      have b_x_16 := b_x_15.later hb
      have b_y_16 := b_y_15.later hb
      have b_z_16 := b_z_15.later hb
      have b_u_16 := b_u_15.later hb
      have HB16 := Lib.hid (bthen HB15.out hb)
      have HX16 := Lib.hid (bthen HX15.out hb)
      have HY16 := Lib.hid (bthen HY15.out hb)
      have HZ16 := Lib.hid (bthen HZ15.out hb)
      have HP16 := Lib.hid (bthen HP15.out hb)
      have HQ16 := Lib.hid (bthen HQ15.out hb)
      have HR16 := Lib.hid (bthen HR15.out hb)
      have HS16 := Lib.hid (bthen HS15.out hb)
      clear b_a_15 b_b_15 b_x_15 b_y_15 b_z_15 b_u_15
      clear hb
      rw [same_self]
      rcases HJF.out with hey | ⟨LY, rfl, rfl, hfy, hcy, hly⟩
      · have k_a := b_a_16.cell
        have l_a := b_a_16.lt
        have k_b := b_b_16.cell
        have l_b := b_b_16.lt
        have k_x := b_x_16.cell
        have l_x := b_x_16.lt
        have k_y := b_y_16.cell
        have l_y := b_y_16.lt
        have k_z := b_z_16.cell
        have l_z := b_z_16.lt
        have k_u := b_u_16.cell
        have l_u := b_u_16.lt
        go_wp2_with fail
        clear k_a l_a k_b l_b k_x l_x k_y l_y k_z l_z k_u l_u
        refine (awake_any _).mono ?_
        rintro x w17 ⟨rfl, hb⟩
        have b_a_17 := b_a_16.later hb
        have b_b_17 := b_b_16.later hb
        have b_x_17 := b_x_16.later hb
        have b_y_17 := b_y_16.later hb
        have b_z_17 := b_z_16.later hb
        have b_u_17 := b_u_16.later hb
        have HB17 := Lib.hid (bthen HB16.out hb)
        have HX17 := Lib.hid (bthen HX16.out hb)
        have HY17 := Lib.hid (bthen HY16.out hb)
        have HZ17 := Lib.hid (bthen HZ16.out hb)
        have HP17 := Lib.hid (bthen HP16.out hb)
        have HQ17 := Lib.hid (bthen HQ16.out hb)
        have HR17 := Lib.hid (bthen HR16.out hb)
        have HS17 := Lib.hid (bthen HS16.out hb)
        clear b_a_16 b_b_16 b_x_16 b_y_16 b_z_16 b_u_16
        clear hb
        have k_a := b_a_17.cell
        have l_a := b_a_17.lt
        have k_b := b_b_17.cell
        have l_b := b_b_17.lt
        have k_x := b_x_17.cell
        have l_x := b_x_17.lt
        have k_y := b_y_17.cell
        have l_y := b_y_17.lt
        have k_z := b_z_17.cell
        have l_z := b_z_17.lt
        have k_u := b_u_17.cell
        have l_u := b_u_17.lt
        go_wp2_with fail
        clear k_a l_a k_b l_b k_x l_x k_y l_y k_z l_z k_u l_u
        go_ret
        exact ⟨rfl, HB17.out⟩
      have k_a := b_a_16.cell
      have l_a := b_a_16.lt
      have k_b := b_b_16.cell
      have l_b := b_b_16.lt
      have k_x := b_x_16.cell
      have l_x := b_x_16.lt
      have k_y := b_y_16.cell
      have l_y := b_y_16.lt
      have k_z := b_z_16.cell
      have l_z := b_z_16.lt
      have k_u := b_u_16.cell
      have l_u := b_u_16.lt
      go_wp2_with fail
      clear k_a l_a k_b l_b k_x l_x k_y l_y k_z l_z k_u l_u
      refine (binCont_of (d := D) (B := w16.heap.size) (vs := [_, _, _, _]) (ws := [_, _, _, _]) hcy (HTy.out.later HQ16.out).rtm ((HA.out.below HZ16.out (Nat.le_refl _)).more HZ16.out.size) (Nat.le_refl _) hfy HOA.out).mono ?_
      rintro x w17 ⟨rfl, hb⟩
      have b_a_17 := b_a_16.later hb
      have b_b_17 := b_b_16.later hb
      have b_x_17 := b_x_16.later hb
      have b_y_17 := b_y_16.later hb
      have b_z_17 := b_z_16.later hb
      have b_u_17 := b_u_16.later hb
      have HB17 := Lib.hid (bthen HB16.out hb)
      have HX17 := Lib.hid (bthen HX16.out hb)
      have HY17 := Lib.hid (bthen HY16.out hb)
      have HZ17 := Lib.hid (bthen HZ16.out hb)
      have HP17 := Lib.hid (bthen HP16.out hb)
      have HQ17 := Lib.hid (bthen HQ16.out hb)
      have HR17 := Lib.hid (bthen HR16.out hb)
      have HS17 := Lib.hid (bthen HS16.out hb)
      clear b_a_16 b_b_16 b_x_16 b_y_16 b_z_16 b_u_16
      clear hb
      have hwr : wrap64 ((LX.length : Int) + (LY.length : Int)) = wrap64 ((LA.length : Int) + (LB.length : Int)) := by rw [show (LX.length : Int) + (LY.length : Int) = (LA.length : Int) + (LB.length : Int) by omega]
      have k_a := b_a_17.cell
      have l_a := b_a_17.lt
      have k_b := b_b_17.cell
      have l_b := b_b_17.lt
      have k_x := b_x_17.cell
      have l_x := b_x_17.lt
      have k_y := b_y_17.cell
      have l_y := b_y_17.lt
      have k_z := b_z_17.cell
      have l_z := b_z_17.lt
      have k_u := b_u_17.cell
      have l_u := b_u_17.lt
      go_wp2_with fail
      clear k_a l_a k_b l_b k_x l_x k_y l_y k_z l_z k_u l_u
      generalize hW : World.alloc _ _ = w18
      obtain ⟨hb, hz⟩ := al1 hW
      have b_c_18 := n11 hW
      have b_a_18 := b_a_17.later hb
      have b_b_18 := b_b_17.later hb
      have b_x_18 := b_x_17.later hb
      have b_y_18 := b_y_17.later hb
      have b_z_18 := b_z_17.later hb
      have b_u_18 := b_u_17.later hb
      have HB18 := Lib.hid (bthen HB17.out hb)
      have HX18 := Lib.hid (bthen HX17.out hb)
      have HY18 := Lib.hid (bthen HY17.out hb)
      have HZ18 := Lib.hid (bthen HZ17.out hb)
      have HP18 := Lib.hid (bthen HP17.out hb)
      have HQ18 := Lib.hid (bthen HQ17.out hb)
      have HR18 := Lib.hid (bthen HR17.out hb)
      have HS18 := Lib.hid (bthen HS17.out hb)
      clear b_a_17 b_b_17 b_x_17 b_y_17 b_z_17 b_u_17
      clear hW hz hb
      refine (awake_any _).mono ?_
      rintro x w19 ⟨rfl, hb⟩
      have b_a_19 := b_a_18.later hb
      have b_b_19 := b_b_18.later hb
      have b_x_19 := b_x_18.later hb
      have b_y_19 := b_y_18.later hb
      have b_z_19 := b_z_18.later hb
      have b_u_19 := b_u_18.later hb
      have b_c_19 := b_c_18.later hb
      have HB19 := Lib.hid (bthen HB18.out hb)
      have HX19 := Lib.hid (bthen HX18.out hb)
      have HY19 := Lib.hid (bthen HY18.out hb)
      have HZ19 := Lib.hid (bthen HZ18.out hb)
      have HP19 := Lib.hid (bthen HP18.out hb)
      have HQ19 := Lib.hid (bthen HQ18.out hb)
      have HR19 := Lib.hid (bthen HR18.out hb)
      have HS19 := Lib.hid (bthen HS18.out hb)
      clear b_a_18 b_b_18 b_x_18 b_y_18 b_z_18 b_u_18 b_c_18
      clear hb
      have k_a := b_a_19.cell
      have l_a := b_a_19.lt
      have k_b := b_b_19.cell
      have l_b := b_b_19.lt
      have k_x := b_x_19.cell
      have l_x := b_x_19.lt
      have k_y := b_y_19.cell
      have l_y := b_y_19.lt
      have k_z := b_z_19.cell
      have l_z := b_z_19.lt
      have k_u := b_u_19.cell
      have l_u := b_u_19.lt
      have k_c := b_c_19.cell
      have l_c := b_c_19.lt
      go_wp2_with fail
      clear k_a l_a k_b l_b k_x l_x k_y l_y k_z l_z k_u l_u k_c l_c
      go_ret
      exact ⟨rfl, HB19.out⟩
end Go.Proofs.Ytiplipdigabidaa
