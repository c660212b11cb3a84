/- viaticumlaw11.light, viaticumref6.Fixed. -/
import Derived.Test.YtiplipdigabidaaSizeT
import Derived.Test.YtiplipdigabidaaRef4T
import Derived.Test.YtiplipdigabidaaOpAwake
set_option linter.unusedVariables false
set_option linter.unusedSimpArgs false
namespace Go.Proofs.Ytiplipdigabidaa
open Go.ChangeShapes Go.WideShapes Go.ChangeAt Go.RowKit

/-- A row of two. -/
theorem Blk.rl2 {α : Type} {R : Reader α} {w : World} {B b : Nat} {x y : α} {us vs : List Value} {cells : Array Value} (h : Blk w b cells) (hc : cells.toList = us ++ vs) (hx : R.rd w B x us) (hy : R.rd w B y vs) (hb : b < B) : RL R w B [x, y] (some ⟨b, 0, none⟩) := fun _ =>
  ⟨b, 0, rfl, hb, fun i hi => by
    have hi0 : i = 0 ∨ i = 1 := by simp at hi; omega
    have l1 := R.len hx
    rcases hi0 with rfl | rfl
    · refine ⟨us, l1, ⟨x, rfl, hx⟩, fun j v hj => ?_⟩
      have hl := (List.getElem?_eq_some_iff.1 hj).1
      have e : 0 + 0 * R.k + j = j := by omega
      rw [e, h.cell, ← Array.getElem?_toList, hc, List.getElem?_append_left hl, hj]
    · refine ⟨vs, R.len hy, ⟨y, rfl, hy⟩, fun j v hj => ?_⟩
      have e : 0 + 1 * R.k + j = us.length + j := by omega
      rw [e, h.cell, ← Array.getElem?_toList, hc, List.getElem?_append_right (by omega), Nat.add_sub_cancel_left, hj]⟩

set_option maxRecDepth 100000 in
set_option maxHeartbeats 2000000 in
theorem light_any {d B c : Nat} {ts : List Tm} {A : Option Addr} {w : World} (hl : RL (TmR d) w B ts A) (hB : B ≤ w.heap.size) (hn : ts.length ≤ 140737488351232) :
    Calls Try.prog 6 #[.slice A ts.length c] w fun e w' => (∃ q : Bool, e = .returned (.bool q)) ∧ Below w.heap.size w w' := by
  go_enter Try.func6, Try.ntmps6
  go_wp2_with fail
  go_loopw [7] (fun i wr => ∃ k : Nat, k ≤ ts.length ∧ i = .int .i64 k ∧ Below w.heap.size w wr) (fun i _ => ts.length - (intOf i).toNat)
  case atStart => exact ⟨0, Nat.zero_le _, rfl, Below.refl _ _⟩
  case round =>
    obtain ⟨k, hk, rfl, hbw⟩ := hrel
    by_cases hlt : k < ts.length
    · obtain ⟨b, off, rfl, hb⟩ := hl.base hbw hB (by omega)
      obtain ⟨t, vs, hx, hlen, hcell, hr⟩ := hl.at_ hbw hB hlt
      have hr' := hr
      obtain ⟨Ax, cx, rfl, g1, g2, g3, g4, g5, _⟩ := RTm.cells hr'
      have c0 : wr.cell? ⟨b, off + k * 4, none⟩ = some (.int .i64 t.kind) := hcell 0 _ rfl
      have c1 : wr.cell? ⟨b, off + k * 4 + 1, none⟩ = some (.int .i64 t.n) := hcell 1 _ rfl
      have c2 : wr.cell? ⟨b, off + k * 4 + 2, none⟩ = some (.string t.s) := hcell 2 _ rfl
      have c3 : wr.cell? ⟨b, off + k * 4 + 3, none⟩ = some (.slice Ax t.l.length cx) := hcell 3 _ rfl
      have hszr := hbw.size
      have HR := Lib.hid hr
      have HBW := Lib.hid hbw
      have hBr : B ≤ wr.heap.size := Nat.le_trans hB hszr
      clear hcell hlen hx hr hr' hbw
      go_wp2_with fail
      generalize hW : World.alloc _ _ = W
      obtain ⟨hb1, hz⟩ := al1 hW
      have HB1 := Lib.hid hb1
      clear hW hb1 c0 c1 c2 c3
      refine (bigSize_any (d := d) (B := B) (t := t) (vs := [_, _, _, _]) ((TmR d).keep HB1.out hBr HR.out) (Nat.le_trans hBr HB1.out.size)).mono ?_
      rintro e w3 ⟨⟨m, rfl, hm0, hm1⟩, hb3⟩
      have HB3 := Lib.hid (bthen HBW.out (bthen HB1.out hb3))
      clear hb3
      go_wp2_with fail
      · go_ret
        exact ⟨⟨false, rfl⟩, HB3.out⟩
      · go_roundw
        case rel => exact ⟨k + 1, by omega, by go_num, HB3.out⟩
        case measure => simp [intOf]; omega
    · go_wp2_with fail
      go_ret
      exact ⟨⟨true, rfl⟩, hbw⟩

set_option maxRecDepth 100000 in
set_option maxHeartbeats 1000000 in
theorem refFixed_any {d : Nat} {t : Tm} {vs : List Value} {B : Nat} {w : World} (h : RTm w B d t vs) (hB : B ≤ w.heap.size) :
    Calls Try.prog 12 #[.agg vs.toArray] w fun e w' => e = .returned (.bool (fixedB t)) ∧ Below w.heap.size w w' := by
  obtain ⟨A, c, rfl, q1, q2, q3, q4, q5, _⟩ := h.cells
  have HA := Lib.hid h
  clear h
  have hk : (t.kind != 1) = true ∨ (t.kind != 1) = false := by cases (t.kind != 1) <;> simp
  have hm : mayB t = true ∨ mayB t = false := by cases mayB t <;> simp
  rcases hm with hm | hm
  · have HM := Lib.hid hm
    clear hm
    rcases hk with hk | hk
    · have HK := Lib.hid hk
      go_enter Try.func12, Try.ntmps12
      go_wp2_with fail
      generalize hW : World.alloc _ _ = w1
      obtain ⟨hb, hz⟩ := al1 hW
      have b_a_1 := n11 hW
      have HB1 := Lib.hid hb
      clear hW hz hb
      refine (refMay_any (t := t) (vs := [_, _, _, _]) (HA.out.below HB1.out hB) (Nat.le_trans hB HB1.out.size)).mono ?_
      rintro x w2 ⟨rfl, hb⟩
      have b_a_2 := b_a_1.later hb
      have HB2 := Lib.hid (bthen HB1.out hb)
      clear b_a_1
      clear hb
      rw [HM.out]
      have k_a := b_a_2.cell
      have l_a := b_a_2.lt
      go_wp2_with fail
      clear k_a l_a
      go_ret
      exact ⟨ret_bool (by have h := HK.out; unfold fixedB; rw [HM.out, Bool.and_true]; simp only [bne_iff_ne, bne_eq_false_iff_eq] at h; simp [h]), HB2.out⟩
    · have HK := Lib.hid hk
      go_enter Try.func12, Try.ntmps12
      go_wp2_with fail
      generalize hW : World.alloc _ _ = w1
      obtain ⟨hb, hz⟩ := al1 hW
      have b_a_1 := n11 hW
      have HB1 := Lib.hid hb
      clear hW hz hb
      refine (refMay_any (t := t) (vs := [_, _, _, _]) (HA.out.below HB1.out hB) (Nat.le_trans hB HB1.out.size)).mono ?_
      rintro x w2 ⟨rfl, hb⟩
      have b_a_2 := b_a_1.later hb
      have HB2 := Lib.hid (bthen HB1.out hb)
      clear b_a_1
      clear hb
      rw [HM.out]
      have k_a := b_a_2.cell
      have l_a := b_a_2.lt
      go_wp2_with fail
      clear k_a l_a
      go_ret
      exact ⟨ret_bool (by have h := HK.out; unfold fixedB; rw [HM.out, Bool.and_true]; simp only [bne_iff_ne, bne_eq_false_iff_eq] at h; simp [h]), HB2.out⟩
  · have HM := Lib.hid hm
    clear hm
    go_enter Try.func12, Try.ntmps12
    go_wp2_with fail
    generalize hW : World.alloc _ _ = w1
    obtain ⟨hb, hz⟩ := al1 hW
    have b_a_1 := n11 hW
    have HB1 := Lib.hid hb
    clear hW hz hb
    refine (refMay_any (t := t) (vs := [_, _, _, _]) (HA.out.below HB1.out hB) (Nat.le_trans hB HB1.out.size)).mono ?_
    rintro x w2 ⟨rfl, hb⟩
    have b_a_2 := b_a_1.later hb
    have HB2 := Lib.hid (bthen HB1.out hb)
    clear b_a_1
    clear hb
    rw [HM.out]
    have k_a := b_a_2.cell
    have l_a := b_a_2.lt
    go_wp2_with fail
    clear k_a l_a
    go_ret
    exact ⟨ret_bool (by unfold fixedB; rw [HM.out, Bool.and_false]), HB2.out⟩
end Go.Proofs.Ytiplipdigabidaa
