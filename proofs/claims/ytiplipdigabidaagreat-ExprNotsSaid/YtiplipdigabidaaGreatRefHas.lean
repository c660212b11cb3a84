/- viaticumref6.Same, viaticumref6.Has; op.contains on sets. -/
import Derived.Test.YtiplipdigabidaaGreatSetLaw
import Derived.Test.YtiplipdigabidaaGreatRef2
import Derived.Test.YtiplipdigabidaaGreatOpenT
set_option linter.unusedVariables false
set_option linter.unusedSimpArgs false
namespace Go.Proofs.YtiplipdigabidaaGreat
open Go.ChangeShapes Go.WideShapes Go.ChangeAt Go.RowKit

theorem sameB_int (a b : Tm) : ((cmpT 3 a b) == 0) = sameB a b := by
  unfold sameB
  rw [Bool.eq_iff_iff, beq_iff_eq, decide_eq_true_eq]

set_option maxRecDepth 100000 in
set_option maxHeartbeats 1000000 in
theorem refSame_any {d d' B : Nat} {a b : Tm} {vs ws : List Value} {w : World} (ha : RTm w B d a vs) (hb : RTm w B d' b ws) (hB : B ≤ w.heap.size) :
    Calls Tryz.prog 15 #[.agg vs.toArray, .agg ws.toArray] w fun e w' => e = .returned (.bool (sameB a b)) ∧ Below w.heap.size w w' := by
  have HA := Lib.hid (show RTm w B (d + d') a vs from RTm.deeper (by omega) ha)
  have HB_ := Lib.hid (show RTm w B (d + d') b ws from RTm.deeper (by omega) hb)
  obtain ⟨A, c, rfl, _⟩ := ha.cells
  obtain ⟨A', c', rfl, _⟩ := hb.cells
  clear ha hb
  go_enter Tryz.func15, Tryz.ntmps15
  go_wp2_with fail
  generalize hW : World.alloc _ _ = w1
  obtain ⟨hb, hz⟩ := al2 hW
  have HB1 := Lib.hid hb
  clear hW hz hb
  refine (refCompare_any (d := d + d') (a := a) (b := b) (va := [_, _, _, _]) (vb := [_, _, _, _]) (B := B) (HA.out.below HB1.out hB) (HB_.out.below HB1.out hB) (Nat.le_trans hB HB1.out.size)).mono ?_
  rintro e w2 ⟨rfl, hb⟩
  have HB2 := Lib.hid (bthen HB1.out hb)
  clear hb
  go_wp2_with fail
  go_ret
  exact ⟨ret_bool (by first | rfl | simp [sameB]), HB2.out⟩

theorem any_false {α : Type} {l : List α} {p : α → Bool} {k : Nat} (hk : l.length ≤ k) (h : ∀ i (hi : i < k) (hi' : i < l.length), p l[i] = false) : l.any p = false := by
  rw [List.any_eq_false]
  intro x hx
  obtain ⟨i, hi, rfl⟩ := List.getElem_of_mem hx
  rw [h i (by omega) hi]; simp
theorem any_true {α : Type} {l : List α} {p : α → Bool} {k : Nat} {x : α} (h : l[k]? = some x) (hp : p x = true) : l.any p = true := List.any_eq_true.2 ⟨x, List.mem_of_getElem? h, hp⟩
theorem all_no {α : Type} {l : List α} {p : α → Bool} {k : Nat} {x : α} (h : l[k]? = some x) (hp : p x = false) : l.all p = false := by
  rw [Bool.eq_false_iff]
  intro h2
  rw [List.all_eq_true] at h2
  have := h2 x (List.mem_of_getElem? h)
  rw [hp] at this; simp at this
theorem all_yes {α : Type} {l : List α} {p : α → Bool} {k : Nat} (hk : l.length ≤ k) (h : ∀ i (hi : i < k) (hi' : i < l.length), p l[i] = true) : l.all p = true := by
  rw [List.all_eq_true]
  intro x hx
  obtain ⟨i, hi, rfl⟩ := List.getElem_of_mem hx
  exact h i (by omega) hi

set_option maxRecDepth 100000 in
set_option maxHeartbeats 2000000 in
theorem refHas_any {d d' B : Nat} {s t : Tm} {vs ws : List Value} {w : World} (hs : RTm w B (d + 1) s vs) (ht : RTm w B d' t ws) (hB : B ≤ w.heap.size) :
    Calls Tryz.prog 70 #[.agg vs.toArray, .agg ws.toArray] w fun e w' => e = .returned (.bool (hasB s t)) ∧ Below w.heap.size w w' := by
  obtain ⟨A, c, rfl, q1, q2, q3, q4, q5, hl⟩ := hs
  have HT := Lib.hid ht
  obtain ⟨A', c', rfl, _⟩ := ht.cells
  have HL : Hid (RL (TmR d) w B s.l A) := Lib.hid hl
  clear hl ht
  by_cases h7 : s.kind = 7
  · have H7 := Lib.hid h7
    have hg : (s.kind != 7) = false := by simp [h7]
    clear h7
    go_enter Tryz.func70, Tryz.ntmps70
    go_wp2_with fail
    generalize hW : World.alloc _ _ = w1
    obtain ⟨hb, hz⟩ := al2 hW
    have bs_ := n21 hW
    have bt := n22 hW
    have HB1 := Lib.hid hb
    clear hW hz hb
    have HL1 := Lib.hid (HL.out.keep HB1.out hB)
    have hB1 := Nat.le_trans hB HB1.out.size
    go_loopw [13] (fun i wr => ∃ k : Nat, k ≤ s.l.length ∧ i = .int .i64 k ∧ Below w1.heap.size w1 wr ∧ ∀ j (hj : j < k) (hj' : j < s.l.length), sameB s.l[j] t = false) (fun i _ => s.l.length - (intOf i).toNat)
    case atStart => exact ⟨0, Nat.zero_le _, rfl, Below.refl _ _, fun j hj => absurd hj (by omega)⟩
    case round =>
      obtain ⟨k, hk, rfl, hbw, hall⟩ := hrel
      have HALL := Lib.hid hall
      clear hall
      by_cases hlt : k < s.l.length
      · obtain ⟨b, off, rfl, hob⟩ := HL1.out.base hbw hB1 (by omega)
        obtain ⟨x, vs, hx, hlen, hcell, hr⟩ := HL1.out.at_ hbw hB1 hlt
        obtain ⟨Ax, cx, rfl, g1, g2, g3, g4, g5, _⟩ := RTm.cells (show RTm wr B d x vs from hr)
        have c0 : wr.cell? ⟨b, off + k * 4, none⟩ = some (.int .i64 x.kind) := hcell 0 _ rfl
        have c1 : wr.cell? ⟨b, off + k * 4 + 1, none⟩ = some (.int .i64 x.n) := hcell 1 _ rfl
        have c2 : wr.cell? ⟨b, off + k * 4 + 2, none⟩ = some (.string x.s) := hcell 2 _ rfl
        have c3 : wr.cell? ⟨b, off + k * 4 + 3, none⟩ = some (.slice Ax x.l.length cx) := hcell 3 _ rfl
        have HX := Lib.hid hx
        have HR : Hid (RTm wr B d x _) := Lib.hid hr
        have HBW := Lib.hid hbw
        have bt2 := bt.later hbw
        have hBr : B ≤ wr.heap.size := Nat.le_trans hB1 hbw.size
        have kt := bt2.cell
        have lt := bt2.lt
        clear hcell hlen hx hr hbw
        go_wp2_with fail
        generalize hW : World.alloc _ _ = W
        obtain ⟨hb1, hz⟩ := al1 hW
        have HBa := Lib.hid hb1
        have bt3 := bt2.later hb1
        have kt3 := bt3.cell
        clear hW hb1 hz c0 c1 c2 c3 kt lt
        go_wp2_with fail
        refine (refSame_any (d := d) (d' := d') (a := x) (b := t) (B := B) (vs := [_, _, _, _]) (ws := [_, _, _, _]) (HR.out.below HBa.out hBr) (HT.out.below (bthen HB1.out (bthen HBW.out HBa.out)) hB) (Nat.le_trans hBr HBa.out.size)).mono ?_
        rintro e w3 ⟨rfl, hb3⟩
        have HB3 := Lib.hid (bthen HBW.out (bthen HBa.out hb3))
        clear hb3 kt3
        by_cases hm : sameB x t = true
        · have HM := Lib.hid hm
          rw [hm]
          clear hm
          go_wp2_with fail
          go_ret
          refine ⟨ret_bool ?_, bthen HB1.out HB3.out⟩
          unfold hasB
          rw [H7.out, any_true (p := fun x => sameB x t) HX.out HM.out]; rfl
        · simp only [Bool.not_eq_true] at hm
          have HM := Lib.hid hm
          rw [hm]
          clear hm
          go_wp2_with fail
          go_roundw
          case rel => exact ⟨k + 1, by omega, by go_num, HB3.out, fun j hj hj' => by
              rcases Nat.lt_or_ge j k with h1 | h1
              · exact HALL.out j h1 hj'
              · obtain rfl : j = k := by omega
                rw [(List.getElem?_eq_some_iff.1 HX.out).2]; exact HM.out⟩
          case measure => simp [intOf]; omega
      · go_wp2_with fail
        go_ret
        refine ⟨ret_bool ?_, bthen HB1.out hbw⟩
        unfold hasB
        rw [H7.out, any_false (p := fun x => sameB x t) (show s.l.length ≤ k by omega) HALL.out]; rfl
  · have hg : (s.kind != 7) = true := by simp [h7]
    have H7 := Lib.hid h7
    clear h7
    go_enter Tryz.func70, Tryz.ntmps70
    go_wp2_with fail
    go_ret
    exact ⟨ret_bool (by simp [hasB, H7.out]), ((Below.refl _ _).alloc (Nat.le_refl _) _).alloc (by simp) _⟩

set_option maxRecDepth 100000 in
set_option maxHeartbeats 2000000 in
theorem containsSet_any {d d' B : Nat} {s t : Tm} {vs ws : List Value} {w : World} (hs : RTm w B (d + 1) s vs) (ht : RTm w B (d' + 1) t ws) (hB : B ≤ w.heap.size) (h3 : s.kind ≠ 3) :
    Calls Tryz.prog 89 #[.agg vs.toArray, .agg ws.toArray] w fun e w' => e = .returned (.bool (containsS s t)) ∧ Below w.heap.size w w' := by
  have HS := Lib.hid hs
  have HT := Lib.hid ht
  obtain ⟨As, cs, rfl, _⟩ := hs.cells
  obtain ⟨A, c, rfl, q1, q2, q3, q4, q5, hl⟩ := ht
  have HL : Hid (RL (TmR d') w B t.l A) := Lib.hid hl
  have hg3 : (s.kind == 3) = false := by simp [h3]
  clear hl hs
  by_cases h7 : t.kind = 7
  · have H7 := Lib.hid h7
    have hg : (t.kind != 7) = false := by simp [h7]
    clear h7 h3
    go_enter Tryz.func89, Tryz.ntmps89
    go_wp2_with fail
    generalize hW : World.alloc _ _ = w1
    obtain ⟨hb, hz⟩ := al2 hW
    have bs_ := n21 hW
    have bt := n22 hW
    have HB1 := Lib.hid hb
    clear hW hz hb
    have HL1 := Lib.hid (HL.out.keep HB1.out hB)
    have hB1 := Nat.le_trans hB HB1.out.size
    go_loopw [26] (fun i wr => ∃ k : Nat, k ≤ t.l.length ∧ i = .int .i64 k ∧ Below w1.heap.size w1 wr ∧ ∀ j (hj : j < k) (hj' : j < t.l.length), hasB s t.l[j] = true) (fun i _ => t.l.length - (intOf i).toNat)
    case atStart => exact ⟨0, Nat.zero_le _, rfl, Below.refl _ _, fun j hj => absurd hj (by omega)⟩
    case round =>
      obtain ⟨k, hk, rfl, hbw, hall⟩ := hrel
      have HALL := Lib.hid hall
      clear hall
      by_cases hlt : k < t.l.length
      · obtain ⟨b, off, rfl, hob⟩ := HL1.out.base hbw hB1 (by omega)
        obtain ⟨x, vs, hx, hlen, hcell, hr⟩ := HL1.out.at_ hbw hB1 hlt
        obtain ⟨Ax, cx, rfl, g1, g2, g3, g4, g5, _⟩ := RTm.cells (show RTm wr B d' x vs from hr)
        have c0 : wr.cell? ⟨b, off + k * 4, none⟩ = some (.int .i64 x.kind) := hcell 0 _ rfl
        have c1 : wr.cell? ⟨b, off + k * 4 + 1, none⟩ = some (.int .i64 x.n) := hcell 1 _ rfl
        have c2 : wr.cell? ⟨b, off + k * 4 + 2, none⟩ = some (.string x.s) := hcell 2 _ rfl
        have c3 : wr.cell? ⟨b, off + k * 4 + 3, none⟩ = some (.slice Ax x.l.length cx) := hcell 3 _ rfl
        have HX := Lib.hid hx
        have HR : Hid (RTm wr B d' x _) := Lib.hid hr
        have HBW := Lib.hid hbw
        have bt2 := bs_.later hbw
        have hBr : B ≤ wr.heap.size := Nat.le_trans hB1 hbw.size
        have kt := bt2.cell
        have lt := bt2.lt
        clear hcell hlen hx hr hbw
        go_wp2_with fail
        generalize hW : World.alloc _ _ = W
        obtain ⟨hb1, hz⟩ := al1 hW
        have HBa := Lib.hid hb1
        have bt3 := bt2.later hb1
        have kt3 := bt3.cell
        clear hW hb1 hz c0 c1 c2 c3 kt lt
        go_wp2_with fail
        refine (has_any (d := d) (d' := d') (s := s) (t := x) (B := B) (vs := [_, _, _, _]) (ws := [_, _, _, _]) (HS.out.below (bthen HB1.out (bthen HBW.out HBa.out)) hB) (HR.out.below HBa.out hBr) (Nat.le_trans hBr HBa.out.size)).mono ?_
        rintro e w3 ⟨rfl, hb3⟩
        have HB3 := Lib.hid (bthen HBW.out (bthen HBa.out hb3))
        clear hb3 kt3
        by_cases hm : hasB s x = true
        · have HM := Lib.hid hm
          rw [hm]
          clear hm
          go_wp2_with fail
          go_roundw
          case rel => exact ⟨k + 1, by omega, by go_num, HB3.out, fun j hj hj' => by
              rcases Nat.lt_or_ge j k with h1 | h1
              · exact HALL.out j h1 hj'
              · obtain rfl : j = k := by omega
                rw [(List.getElem?_eq_some_iff.1 HX.out).2]; exact HM.out⟩
          case measure => simp [intOf]; omega
        · simp only [Bool.not_eq_true] at hm
          have HM := Lib.hid hm
          rw [hm]
          clear hm
          go_wp2_with fail
          go_ret
          refine ⟨ret_bool ?_, bthen HB1.out HB3.out⟩
          unfold containsS
          rw [if_pos H7.out, all_no (p := hasB s) HX.out HM.out]
      · go_wp2_with fail
        go_ret
        refine ⟨ret_bool ?_, bthen HB1.out hbw⟩
        unfold containsS
        rw [if_pos H7.out, all_yes (p := hasB s) (show t.l.length ≤ k by omega) HALL.out]
  · have hg : (t.kind != 7) = true := by simp [h7]
    have H7 := Lib.hid h7
    clear h7 h3
    go_enter Tryz.func89, Tryz.ntmps89
    go_wp2_with fail
    generalize hW : World.alloc _ _ = w1
    obtain ⟨hb, hz⟩ := al2 hW
    have HB1 := Lib.hid hb
    clear hW hz hb
    refine (has_any (d := d) (d' := d' + 1) (s := s) (t := t) (B := B) (vs := [_, _, _, _]) (ws := [_, _, _, _]) (HS.out.below HB1.out hB) (HT.out.below HB1.out hB) (Nat.le_trans hB HB1.out.size)).mono ?_
    rintro e w3 ⟨rfl, hb3⟩
    have HB3 := Lib.hid (bthen HB1.out hb3)
    clear hb3
    go_wp2_with fail
    go_ret
    exact ⟨ret_bool (by unfold containsS; rw [if_neg H7.out]), HB3.out⟩
end Go.Proofs.YtiplipdigabidaaGreat
