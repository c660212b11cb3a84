/- viaticumlaw15.LexPlaces. -/
import Derived.Test.YtijajfelmekmiaaDoorLexAwake
set_option linter.unusedVariables false
set_option linter.unusedSimpArgs false
namespace Go.Proofs.YtijajfelmekmiaaDoor
open Go.ChangeShapes Go.WideShapes Go.ChangeAt Go.RowKit

/-- Places rise, each within the text. -/
theorem steps_rise {s : ByteArray} {ws : List Wd} {q : Nat} (h : Steps s ws q) : (∀ i (hi : i < ws.length), 0 ≤ ws[i].at_ ∧ ws[i].at_ < s.size ∧ ws[i].at_ < q ∧ 1 ≤ ws[i].kind ∧ ws[i].kind ≤ 8) ∧ (∀ i (hi : i + 1 < ws.length), ws[i].at_ < ws[i + 1].at_) ∧ q ≤ s.size := by
  induction h with
  | nil => exact ⟨fun i hi => absurd hi (by simp), fun i hi => absurd hi (by simp), Nat.zero_le _⟩
  | @snoc ws q a k S n to h ha hlt hto hk hn ih =>
    obtain ⟨h1, h2, h3⟩ := ih
    refine ⟨fun i hi => ?_, fun i hi => ?_, hto.2⟩
    · rw [List.length_append, List.length_singleton] at hi
      rcases Nat.lt_or_ge i ws.length with hl | hl
      · rw [List.getElem_append_left hl]
        have := h1 i hl
        omega
      · obtain rfl : i = ws.length := by omega
        rw [List.getElem_append_right (by omega)]
        simp only [Nat.sub_self, List.getElem_cons_zero]
        omega
    · rw [List.length_append, List.length_singleton] at hi
      rcases Nat.lt_or_ge (i + 1) ws.length with hl | hl
      · rw [List.getElem_append_left (by omega), List.getElem_append_left hl]
        exact h2 i hl
      · have hl2 : i < ws.length := by omega
        have e : i + 1 = ws.length := by omega
        rw [List.getElem_append_left hl2, List.getElem_append_right (by omega)]
        have := h1 i hl2
        simp only [e, Nat.sub_self, List.getElem_cons_zero]
        omega

set_option maxRecDepth 100000 in
set_option maxHeartbeats 8000000 in
theorem lexPlaces_any {w : World} {s : ByteArray} (hs : s.size ≤ 140737488351232) (hv : ErrOk w) (h2 : 2 < w.heap.size) :
    Calls Tryd.prog 4 #[.string s] w fun e w' => e = .returned (.bool true) ∧ Below w.heap.size w w' := by
  have HV := Lib.hid hv
  clear hv
  by_cases hs3 : s.size ≤ 3000
  rotate_left
  · have h1 : (s.size : Int) > 3000 := by omega
    go_enter Tryd.func4, Tryd.ntmps4
    go_wp2_with fail
    refine (awake_any HV.out h2).mono ?_
    rintro e w1 ⟨rfl, hb⟩
    have HB1 := Lib.hid hb
    clear hb
    go_wp2_with fail
    go_ret
    exact ⟨rfl, HB1.out⟩
  have h1 : ¬ (s.size : Int) > 3000 := by omega
  go_enter Tryd.func4, Tryd.ntmps4
  go_wp2_with fail
  refine (words_any (by omega) HV.out h2).mono ?_
  rintro e w1 ⟨hb, hp⟩
  have HB := Lib.hid hb
  have h2' : 2 < w1.heap.size := Nat.lt_of_lt_of_le h2 hb.size
  have HV1 := Lib.hid (HV.out.keep hb h2)
  clear hb
  rcases hp with ⟨ws, q, v, hst, hq, rfl, ⟨A, c, rfl, hc1, hc2, hl⟩, hwl⟩ | ⟨ws, q, a, hst, ha, hlt, hl5, rfl⟩ | ⟨ws, q, a, k, S, n, to, hst, ha, hlt, hn, rfl⟩
  rotate_left
  · have i1 : (a : Int) < s.size := by omega
    clear hst ha hl5
    go_wp2_with fail
    refine (awake_any HV1.out h2').mono ?_
    rintro e w2 ⟨rfl, hb⟩
    have HB2 := Lib.hid (bthen HB.out hb)
    clear hb
    go_wp2_with fail
    go_ret
    exact ⟨rfl, HB2.out⟩
  · have i1 : (a : Int) < s.size := by omega
    clear hst ha hn
    go_wp2_with fail
    refine (awake_any HV1.out h2').mono ?_
    rintro e w2 ⟨rfl, hb⟩
    have HB2 := Lib.hid (bthen HB.out hb)
    clear hb
    go_wp2_with fail
    go_ret
    exact ⟨rfl, HB2.out⟩
  · have HR := Lib.hid (steps_rise hst)
    have HL := Lib.hid (show RL WdR w1 w1.heap.size ws A from hl)
    clear hst hq hl
    go_wp2_with fail
    go_loopw [6, 39] (fun v i wr => ∃ (k : Nat) (la : Int), k ≤ ws.length ∧ i = .int .i64 k ∧ v = .int .i64 la ∧ Hid (Below w1.heap.size w1 wr) ∧ w1.heap.size ≤ wr.heap.size ∧ Hid (∀ h : k < ws.length, la < ws[k].at_)) (fun _ i _ => ws.length - (intOf i).toNat)
    case atStart => exact ⟨0, -1, Nat.zero_le _, rfl, rfl, Lib.hid (Below.refl _ _), Nat.le_refl _, Lib.hid (fun h => by have := HR.out.1 0 h; omega)⟩
    case round =>
      obtain ⟨k, la, hk, rfl, rfl, HBW, hszr, HLA⟩ := hrel
      by_cases hlt : k < ws.length
      · obtain ⟨b, off, rfl, hb⟩ := HL.out.base HBW.out (Nat.le_refl _) (by omega)
        obtain ⟨x, vs, hx, hlen, hcell, hr⟩ := HL.out.at_ HBW.out (Nat.le_refl _) hlt
        simp only [WdR] at hr
        subst hr
        have ex : ws[k] = x := (List.getElem?_eq_some_iff.1 hx).2
        have hr1 := HR.out.1 k hlt
        have hr2 := HLA.out hlt
        rw [ex] at hr1 hr2
        have HX := Lib.hid ex
        have c0 : wr.cell? ⟨b, off + k * 4, none⟩ = some (.int .i64 x.kind) := hcell 0 _ rfl
        have c1 : wr.cell? ⟨b, off + k * 4 + 1, none⟩ = some (.string x.s) := hcell 1 _ rfl
        have c2 : wr.cell? ⟨b, off + k * 4 + 2, none⟩ = some (.int .i64 x.n) := hcell 2 _ rfl
        have c3 : wr.cell? ⟨b, off + k * 4 + 3, none⟩ = some (.int .i64 x.at_) := hcell 3 _ rfl
        obtain ⟨r1, r2, r3, r4, r5⟩ := hr1
        clear hcell hlen hx ex r3
        go_wp2_with fail
        go_roundw
        case rel => exact ⟨k + 1, _, by omega, by go_num, rfl, Lib.hid (HBW.out.alloc hszr _), by simp; omega, Lib.hid (fun h => by rw [← HX.out]; exact HR.out.2.1 k h)⟩
        case measure => simp [intOf]; omega
      · have h2r : 2 < wr.heap.size := by omega
        go_wp2_with fail
        refine (awake_any (HV1.out.keep HBW.out h2') h2r).mono ?_
        rintro e w2 ⟨rfl, hb⟩
        have HB2 := Lib.hid (bthen HB.out (bthen HBW.out hb))
        clear hb
        go_wp2_with fail
        go_ret
        exact ⟨rfl, HB2.out⟩
end Go.Proofs.YtijajfelmekmiaaDoor
