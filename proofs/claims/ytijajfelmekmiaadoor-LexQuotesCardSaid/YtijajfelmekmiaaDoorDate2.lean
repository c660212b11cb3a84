/- date.Leap, month, years, Days, (*reader).offset, Parse. -/
import Derived.Test.YtijajfelmekmiaaDoorDate1
set_option linter.unusedVariables false
set_option linter.unusedSimpArgs false
namespace Go.Proofs.YtijajfelmekmiaaDoor
open Go.ChangeShapes Go.WideShapes Go.ChangeAt Go.RowKit

theorem ret_ib {k : IntKind} {a b : Int} {x y : Bool} (h : a = b) (h' : x = y) : Ending.returned (.tuple #[.int k a, .bool x]) = .returned (.tuple #[.int k b, .bool y]) := by rw [h, h']
def leapB (y : Int) : Bool := decide (y % 4 = 0) && (decide (¬ y % 100 = 0) || decide (y % 400 = 0))
def monthF (y m : Int) : Int := if m = 2 then (if leapB y then 29 else 28) else if m = 4 ∨ m = 6 ∨ m = 9 ∨ m = 11 then 30 else 31
def yearsF (y : Int) : Int := 365 * y + (y + 3) / 4 - (y + 99) / 100 + (y + 399) / 400
def sumM (y : Int) : Nat → Int
  | 0 => 0
  | k + 1 => sumM y k + monthF y (k + 1 : Nat)
def daysF (y m d : Int) : Int × Bool := if m < 1 ∨ 12 < m ∨ d < 1 ∨ monthF y m < d then (0, false) else (yearsF y - 719528 + d - 1 + sumM y (m.toNat - 1), true)
theorem month_le (y m : Int) : 28 ≤ monthF y m ∧ monthF y m ≤ 31 := by unfold monthF; repeat' split <;> omega
theorem sumM_le (y : Int) : ∀ k, 0 ≤ sumM y k ∧ sumM y k ≤ 31 * k
  | 0 => by simp [sumM]
  | k + 1 => by have := sumM_le y k; have := month_le y (k + 1 : Nat); simp only [sumM]; omega
theorem years_le {y : Int} (h0 : 0 ≤ y) (h1 : y ≤ 9999) : 0 ≤ yearsF y ∧ yearsF y ≤ 4000000 := by unfold yearsF; omega

set_option maxRecDepth 100000 in
set_option maxHeartbeats 4000000 in
theorem leap_any (y : Int) (h0 : 0 ≤ y) (h1 : y ≤ 9999) (w : World) :
    Calls Tryd.prog 57 #[.int .i64 y] w fun e w' => e = .returned (.bool (leapB y)) ∧ w = w' := by
  have e4 : y.tmod 4 = y % 4 := Int.tmod_eq_emod_of_nonneg h0
  have e100 : y.tmod 100 = y % 100 := Int.tmod_eq_emod_of_nonneg h0
  have e400 : y.tmod 400 = y % 400 := Int.tmod_eq_emod_of_nonneg h0
  go_enter Tryd.func57, Tryd.ntmps57
  go_wp2_with fail
  all_goals go_ret
  all_goals refine ⟨ret_bool ?_, rfl⟩
  all_goals (rw [Bool.eq_iff_iff]; simp [leapB]; try omega)

set_option maxRecDepth 100000 in
set_option maxHeartbeats 4000000 in
theorem years_any (y : Int) (h0 : 0 ≤ y) (h1 : y ≤ 9999) (w : World) :
    Calls Tryd.prog 50 #[.int .i64 y] w fun e w' => e = .returned (.int .i64 (yearsF y)) ∧ w = w' := by
  have e4 : (y + 3).tdiv 4 = (y + 3) / 4 := Int.tdiv_eq_ediv_of_nonneg (by omega)
  have e100 : (y + 99).tdiv 100 = (y + 99) / 100 := Int.tdiv_eq_ediv_of_nonneg (by omega)
  have e400 : (y + 399).tdiv 400 = (y + 399) / 400 := Int.tdiv_eq_ediv_of_nonneg (by omega)
  go_enter Tryd.func50, Tryd.ntmps50
  go_wp2_with fail
  all_goals go_ret
  all_goals exact ⟨ret_int rfl, rfl⟩

set_option maxRecDepth 100000 in
set_option maxHeartbeats 4000000 in
theorem month_any (y m : Int) (h0 : 0 ≤ y) (h1 : y ≤ 9999) (h2 : 1 ≤ m) (h3 : m ≤ 12) (w : World) :
    Calls Tryd.prog 49 #[.int .i64 y, .int .i64 m] w fun e w' => e = .returned (.int .i64 (monthF y m)) ∧ w = w' := by
  have hm : m = 1 ∨ m = 2 ∨ m = 3 ∨ m = 4 ∨ m = 5 ∨ m = 6 ∨ m = 7 ∨ m = 8 ∨ m = 9 ∨ m = 10 ∨ m = 11 ∨ m = 12 := by omega
  clear h2 h3
  rcases hm with rfl | rfl | rfl | rfl | rfl | rfl | rfl | rfl | rfl | rfl | rfl | rfl
  · have hT : ∀ w : World, (Instr.index 78 (.agg #[.int .i64 31, .int .i64 28, .int .i64 31, .int .i64 30, .int .i64 31, .int .i64 30, .int .i64 31, .int .i64 31, .int .i64 30, .int .i64 31, .int .i64 30, .int .i64 31]) (.int .i64 0)).run Tryd.prog w = .ok (.int .i64 31) w := fun w => by kernel_rfl
    go_enter Tryd.func49, Tryd.ntmps49
    go_wp2_with fail
    go_ret
    exact ⟨ret_int rfl, rfl⟩
  · have hT : ∀ w : World, (Instr.index 78 (.agg #[.int .i64 31, .int .i64 28, .int .i64 31, .int .i64 30, .int .i64 31, .int .i64 30, .int .i64 31, .int .i64 31, .int .i64 30, .int .i64 31, .int .i64 30, .int .i64 31]) (.int .i64 1)).run Tryd.prog w = .ok (.int .i64 28) w := fun w => by kernel_rfl
    cases hl : leapB y
    all_goals
      have HL := Lib.hid hl
      go_enter Tryd.func49, Tryd.ntmps49
      go_wp2_with fail
      refine (leap_any y h0 h1 _).mono ?_
      rintro x wz ⟨rfl, rfl⟩
      rw [HL.out]
      go_wp2_with fail
      go_ret
      exact ⟨ret_int (by unfold monthF; rw [HL.out]; rfl), rfl⟩
  · have hT : ∀ w : World, (Instr.index 78 (.agg #[.int .i64 31, .int .i64 28, .int .i64 31, .int .i64 30, .int .i64 31, .int .i64 30, .int .i64 31, .int .i64 31, .int .i64 30, .int .i64 31, .int .i64 30, .int .i64 31]) (.int .i64 2)).run Tryd.prog w = .ok (.int .i64 31) w := fun w => by kernel_rfl
    go_enter Tryd.func49, Tryd.ntmps49
    go_wp2_with fail
    go_ret
    exact ⟨ret_int rfl, rfl⟩
  · have hT : ∀ w : World, (Instr.index 78 (.agg #[.int .i64 31, .int .i64 28, .int .i64 31, .int .i64 30, .int .i64 31, .int .i64 30, .int .i64 31, .int .i64 31, .int .i64 30, .int .i64 31, .int .i64 30, .int .i64 31]) (.int .i64 3)).run Tryd.prog w = .ok (.int .i64 30) w := fun w => by kernel_rfl
    go_enter Tryd.func49, Tryd.ntmps49
    go_wp2_with fail
    go_ret
    exact ⟨ret_int rfl, rfl⟩
  · have hT : ∀ w : World, (Instr.index 78 (.agg #[.int .i64 31, .int .i64 28, .int .i64 31, .int .i64 30, .int .i64 31, .int .i64 30, .int .i64 31, .int .i64 31, .int .i64 30, .int .i64 31, .int .i64 30, .int .i64 31]) (.int .i64 4)).run Tryd.prog w = .ok (.int .i64 31) w := fun w => by kernel_rfl
    go_enter Tryd.func49, Tryd.ntmps49
    go_wp2_with fail
    go_ret
    exact ⟨ret_int rfl, rfl⟩
  · have hT : ∀ w : World, (Instr.index 78 (.agg #[.int .i64 31, .int .i64 28, .int .i64 31, .int .i64 30, .int .i64 31, .int .i64 30, .int .i64 31, .int .i64 31, .int .i64 30, .int .i64 31, .int .i64 30, .int .i64 31]) (.int .i64 5)).run Tryd.prog w = .ok (.int .i64 30) w := fun w => by kernel_rfl
    go_enter Tryd.func49, Tryd.ntmps49
    go_wp2_with fail
    go_ret
    exact ⟨ret_int rfl, rfl⟩
  · have hT : ∀ w : World, (Instr.index 78 (.agg #[.int .i64 31, .int .i64 28, .int .i64 31, .int .i64 30, .int .i64 31, .int .i64 30, .int .i64 31, .int .i64 31, .int .i64 30, .int .i64 31, .int .i64 30, .int .i64 31]) (.int .i64 6)).run Tryd.prog w = .ok (.int .i64 31) w := fun w => by kernel_rfl
    go_enter Tryd.func49, Tryd.ntmps49
    go_wp2_with fail
    go_ret
    exact ⟨ret_int rfl, rfl⟩
  · have hT : ∀ w : World, (Instr.index 78 (.agg #[.int .i64 31, .int .i64 28, .int .i64 31, .int .i64 30, .int .i64 31, .int .i64 30, .int .i64 31, .int .i64 31, .int .i64 30, .int .i64 31, .int .i64 30, .int .i64 31]) (.int .i64 7)).run Tryd.prog w = .ok (.int .i64 31) w := fun w => by kernel_rfl
    go_enter Tryd.func49, Tryd.ntmps49
    go_wp2_with fail
    go_ret
    exact ⟨ret_int rfl, rfl⟩
  · have hT : ∀ w : World, (Instr.index 78 (.agg #[.int .i64 31, .int .i64 28, .int .i64 31, .int .i64 30, .int .i64 31, .int .i64 30, .int .i64 31, .int .i64 31, .int .i64 30, .int .i64 31, .int .i64 30, .int .i64 31]) (.int .i64 8)).run Tryd.prog w = .ok (.int .i64 30) w := fun w => by kernel_rfl
    go_enter Tryd.func49, Tryd.ntmps49
    go_wp2_with fail
    go_ret
    exact ⟨ret_int rfl, rfl⟩
  · have hT : ∀ w : World, (Instr.index 78 (.agg #[.int .i64 31, .int .i64 28, .int .i64 31, .int .i64 30, .int .i64 31, .int .i64 30, .int .i64 31, .int .i64 31, .int .i64 30, .int .i64 31, .int .i64 30, .int .i64 31]) (.int .i64 9)).run Tryd.prog w = .ok (.int .i64 31) w := fun w => by kernel_rfl
    go_enter Tryd.func49, Tryd.ntmps49
    go_wp2_with fail
    go_ret
    exact ⟨ret_int rfl, rfl⟩
  · have hT : ∀ w : World, (Instr.index 78 (.agg #[.int .i64 31, .int .i64 28, .int .i64 31, .int .i64 30, .int .i64 31, .int .i64 30, .int .i64 31, .int .i64 31, .int .i64 30, .int .i64 31, .int .i64 30, .int .i64 31]) (.int .i64 10)).run Tryd.prog w = .ok (.int .i64 30) w := fun w => by kernel_rfl
    go_enter Tryd.func49, Tryd.ntmps49
    go_wp2_with fail
    go_ret
    exact ⟨ret_int rfl, rfl⟩
  · have hT : ∀ w : World, (Instr.index 78 (.agg #[.int .i64 31, .int .i64 28, .int .i64 31, .int .i64 30, .int .i64 31, .int .i64 30, .int .i64 31, .int .i64 31, .int .i64 30, .int .i64 31, .int .i64 30, .int .i64 31]) (.int .i64 11)).run Tryd.prog w = .ok (.int .i64 31) w := fun w => by kernel_rfl
    go_enter Tryd.func49, Tryd.ntmps49
    go_wp2_with fail
    go_ret
    exact ⟨ret_int rfl, rfl⟩

set_option maxRecDepth 100000 in
set_option maxHeartbeats 4000000 in
theorem days_any (y m d : Int) (h0 : 0 ≤ y) (h1 : y ≤ 9999) (h2 : 0 ≤ m) (h3 : m ≤ 9999) (h4 : 0 ≤ d) (h5 : d ≤ 9999) (w : World) :
    Calls Tryd.prog 44 #[.int .i64 y, .int .i64 m, .int .i64 d] w fun e w' => e = .returned (.tuple #[.int .i64 (daysF y m d).1, .bool (daysF y m d).2]) ∧ w = w' := by
  rcases (show m < 1 ∨ 12 < m ∨ (1 ≤ m ∧ m ≤ 12) by omega) with hm | hm | ⟨hm1, hm2⟩
  · have HF : Hid (daysF y m d = (0, false)) := Lib.hid (by unfold daysF; rw [if_pos (by omega)])
    rw [HF.out]
    go_enter Tryd.func44, Tryd.ntmps44
    go_wp2_with fail
    go_ret2
    exact ⟨rfl, rfl⟩
  · have HF : Hid (daysF y m d = (0, false)) := Lib.hid (by unfold daysF; rw [if_pos (by omega)])
    rw [HF.out]
    go_enter Tryd.func44, Tryd.ntmps44
    go_wp2_with fail
    go_ret2
    exact ⟨rfl, rfl⟩
  · by_cases hd : d < 1
    · have HF : Hid (daysF y m d = (0, false)) := Lib.hid (by unfold daysF; rw [if_pos (by omega)])
      rw [HF.out]
      go_enter Tryd.func44, Tryd.ntmps44
      go_wp2_with fail
      go_ret2
      exact ⟨rfl, rfl⟩
    · have hml := month_le y m
      by_cases hdm : monthF y m < d
      · have HF : Hid (daysF y m d = (0, false)) := Lib.hid (by unfold daysF; rw [if_pos (.inr (.inr (.inr hdm)))])
        rw [HF.out]
        go_enter Tryd.func44, Tryd.ntmps44
        go_wp2_with fail
        refine (month_any y m h0 h1 hm1 hm2 _).mono ?_
        rintro x wz ⟨rfl, rfl⟩
        go_wp2_with fail
        go_ret2
        exact ⟨rfl, rfl⟩
      · have HF : Hid (daysF y m d = (yearsF y - 719528 + d - 1 + sumM y (m.toNat - 1), true)) := Lib.hid (by unfold daysF; rw [if_neg (by rintro (h | h | h | h) <;> omega)])
        rw [HF.out]
        have hyl := years_le h0 h1
        go_enter Tryd.func44, Tryd.ntmps44
        go_wp2_with fail
        refine (month_any y m h0 h1 hm1 hm2 _).mono ?_
        rintro x wz ⟨rfl, rfl⟩
        go_wp2_with fail
        refine (years_any y h0 h1 _).mono ?_
        rintro x wz ⟨rfl, rfl⟩
        go_wp2_with fail
        go_loop [8, 9] (fun v i => ∃ k : Nat, (1 ≤ k ∧ (k : Int) ≤ m) ∧ i = .int .i64 k ∧ v = .int .i64 (yearsF y - 719528 + d - 1 + sumM y (k - 1))) (fun _ i => m.toNat - (intOf i).toNat)
        case atStart => exact ⟨1, ⟨by omega, by omega⟩, rfl, by simp [sumM]⟩
        case round =>
          obtain ⟨k, ⟨hk1, hk2⟩, rfl, rfl⟩ := hrel
          have hsl := sumM_le y (k - 1)
          have hkl := month_le y k
          have hk3 : (k : Int) ≤ 12 := by omega
          have HS : Hid (sumM y k = sumM y (k - 1) + monthF y k) := Lib.hid (by
            obtain ⟨j, rfl⟩ : ∃ j, k = j + 1 := ⟨k - 1, by omega⟩
            simp [sumM])
          generalize hQ : sumM y (k - 1) = Q at *
          have HQ := Lib.hid hQ
          clear hQ
          by_cases hlt : (k : Int) < m
          · go_wp2_with fail
            refine (month_any y k h0 h1 (by omega) hk3 _).mono ?_
            rintro x wz ⟨rfl, rfl⟩
            go_wp2_with fail
            go_round
            case rel => exact ⟨k + 1, ⟨by omega, by omega⟩, by go_num, by rw [Nat.add_sub_cancel, HS.out]; congr 1; omega⟩
            case measure => simp [intOf]; omega
          · have hkm : m.toNat - 1 = k - 1 := by omega
            have HKM := Lib.hid hkm
            clear hkm
            go_wp2_with fail
            go_ret2
            exact ⟨ret_ib (by rw [HKM.out, HQ.out]) rfl, rfl⟩

def offF (r : Bytes) (b : Bool) : Int × Bytes × Bool :=
  let c := signF [90, 43, 45] r b
  if c.1 = 90 ∨ c.1 = 0 then (0, c.2.1, c.2.2)
  else
    let h := numF 2 23 c.2.1 c.2.2
    let d := signF [58] h.2.1 h.2.2
    let m := numF 2 59 d.2.1 d.2.2
    (if c.1 = 45 then -(3600 * h.1 + 60 * m.1) else 3600 * h.1 + 60 * m.1, m.2.1, m.2.2)
theorem signF_u8 (signs r : Bytes) (b : Bool) : 0 ≤ (signF signs r b).1 ∧ (signF signs r b).1 ≤ 255 := by
  unfold signF
  split
  · simp
  · split
    · rename_i c t _; have := c.toNat_lt; simp only; omega
    · simp
theorem offF_le (r : Bytes) (b : Bool) : -40000000 ≤ (offF r b).1 ∧ (offF r b).1 ≤ 40000000 := by
  unfold offF
  have h1 := numF_le (k := 2) (by omega) 23 (signF [90, 43, 45] r b).2.1 (signF [90, 43, 45] r b).2.2
  simp only
  split
  · simp
  · have h2 := numF_le (k := 2) (by omega) 59 (signF [58] (numF 2 23 (signF [90, 43, 45] r b).2.1 (signF [90, 43, 45] r b).2.2).2.1 (numF 2 23 (signF [90, 43, 45] r b).2.1 (signF [90, 43, 45] r b).2.2).2.2).2.1 (signF [58] (numF 2 23 (signF [90, 43, 45] r b).2.1 (signF [90, 43, 45] r b).2.2).2.1 (numF 2 23 (signF [90, 43, 45] r b).2.1 (signF [90, 43, 45] r b).2.2).2.2).2.2
    split <;> omega
theorem signF_90 (r : Bytes) (b : Bool) : True := trivial

set_option maxRecDepth 100000 in
set_option maxHeartbeats 4000000 in
theorem doff_any {w : World} {g : Nat} {S : ByteArray} {b : Bool} (b_g_0 : DR w g S b) (hs : S.size ≤ 1000000) :
    Calls Tryd.prog 45 #[.pointer (some ⟨g, 0, none⟩)] w fun e w' => ∃ S', e = .returned (.int .i64 (offF (bs S) b).1) ∧ bs S' = (offF (bs S) b).2.1 ∧ S'.size ≤ S.size ∧ DR w' g S' (offF (bs S) b).2.2 ∧ Exc g w w' := by
  have hg := b_g_0.lt
  generalize hoff : offF (bs S) b = R
  have HOFF := Lib.hid hoff
  clear hoff
  go_enter Tryd.func45, Tryd.ntmps45
  have k_g := b_g_0.cell
  have f_g := b_g_0.free
  have l_g := b_g_0.lt
  go_wp2_with fail
  clear k_g f_g l_g
  have hl1 := signF_u8 [90, 43, 45] (bs S) b
  rcases hx1 : signF [90, 43, 45] (bs S) b with ⟨v1, r1, c1⟩
  rw [hx1] at hl1
  simp only at hl1
  refine (dsign_any (signs := ⟨#[90, 43, 45]⟩) b_g_0 (by omega)).mono ?_
  rintro x w1 ⟨S1, rfl, hs1, hz1, bq, he⟩
  rw [show bs ⟨#[90, 43, 45]⟩ = [90, 43, 45] from rfl] at hs1 bq
  simp only [show bs ⟨#[90, 43, 45]⟩ = [90, 43, 45] from rfl, hx1] at hs1 bq ⊢
  have HX1 := Lib.hid hx1
  have HS1 := Lib.hid hs1
  clear hx1 hs1
  have b_g_1 : DR w1 g S1 c1 := bq
  have HE1 := Lib.hid (Exc.trans (Exc.refl g w) he)
  clear bq he b_g_0
  by_cases hv : v1 = 90 ∨ v1 = 0
  · have HV := Lib.hid hv
    have hR : Hid (R = (0, r1, c1)) := Lib.hid (by rw [← HOFF.out]; unfold offF; simp only [HX1.out]; rw [if_pos HV.out])
    rcases hv with hv | hv
    all_goals
      subst hv
      have k_g := b_g_1.cell
      have f_g := b_g_1.free
      have l_g := b_g_1.lt
      go_wp2_with fail
      clear k_g f_g l_g
      go_ret
      rw [hR.out]
      first
        | exact ⟨S1, rfl, HS1.out, hz1, b_g_1, HE1.out⟩
        | exact ⟨rfl, S1, HS1.out, hz1, b_g_1, HE1.out⟩
  · have hv1 : (v1 == 90) = false := by simp; omega
    have hv2 : (v1 == 0) = false := by simp; omega
    have HV := Lib.hid hv
    clear hv
    have k_g := b_g_1.cell
    have f_g := b_g_1.free
    have l_g := b_g_1.lt
    go_wp2_with fail
    clear k_g f_g l_g
    have hl2 := numF_le (k := 2) (by omega) 23 (bs S1) c1
    rcases hx2 : numF 2 23 (bs S1) c1 with ⟨v2, r2, c2⟩
    rw [hx2] at hl2
    simp only at hl2
    refine (dnum_any 2 23 b_g_1 (by omega) (by omega)).mono ?_
    rintro x w2 ⟨S2, rfl, hs2, hz2, bq, he⟩
    simp only [hx2] at hs2 bq ⊢
    have HX2 := Lib.hid hx2
    have HS2 := Lib.hid hs2
    clear hx2 hs2
    have b_g_2 : DR w2 g S2 c2 := bq
    have HE2 := Lib.hid (Exc.trans HE1.out he)
    clear bq he b_g_1
    have k_g := b_g_2.cell
    have f_g := b_g_2.free
    have l_g := b_g_2.lt
    go_wp2_with fail
    clear k_g f_g l_g
    have hl3 := signF_u8 [58] (bs S2) c2
    rcases hx3 : signF [58] (bs S2) c2 with ⟨v3, r3, c3⟩
    rw [hx3] at hl3
    simp only at hl3
    refine (dsign_any (signs := ⟨#[58]⟩) b_g_2 (by omega)).mono ?_
    rintro x w3 ⟨S3, rfl, hs3, hz3, bq, he⟩
    rw [show bs ⟨#[58]⟩ = [58] from rfl] at hs3 bq
    simp only [show bs ⟨#[58]⟩ = [58] from rfl, hx3] at hs3 bq ⊢
    have HX3 := Lib.hid hx3
    have HS3 := Lib.hid hs3
    clear hx3 hs3
    have b_g_3 : DR w3 g S3 c3 := bq
    have HE3 := Lib.hid (Exc.trans HE2.out he)
    clear bq he b_g_2
    have k_g := b_g_3.cell
    have f_g := b_g_3.free
    have l_g := b_g_3.lt
    go_wp2_with fail
    clear k_g f_g l_g
    have hl4 := numF_le (k := 2) (by omega) 59 (bs S3) c3
    rcases hx4 : numF 2 59 (bs S3) c3 with ⟨v4, r4, c4⟩
    rw [hx4] at hl4
    simp only at hl4
    refine (dnum_any 2 59 b_g_3 (by omega) (by omega)).mono ?_
    rintro x w4 ⟨S4, rfl, hs4, hz4, bq, he⟩
    simp only [hx4] at hs4 bq ⊢
    have HX4 := Lib.hid hx4
    have HS4 := Lib.hid hs4
    clear hx4 hs4
    have b_g_4 : DR w4 g S4 c4 := bq
    have HE4 := Lib.hid (Exc.trans HE3.out he)
    clear bq he b_g_3
    rcases (show v1 = 45 ∨ ¬ v1 = 45 by omega) with h45 | h45
    · have H45 := Lib.hid h45
      have hR : Hid (R = (-(3600 * v2 + 60 * v4), r4, c4)) := Lib.hid (by rw [← HOFF.out]; unfold offF; simp only [HX1.out]; rw [if_neg HV.out]; simp only [← HS1.out, HX2.out]; simp only [← HS2.out, HX3.out]; simp only [← HS3.out, HX4.out]; rw [if_pos H45.out])
      have h45b : (v1 == 45) = true := by simpa using h45
      clear h45
      have k_g := b_g_4.cell
      have f_g := b_g_4.free
      have l_g := b_g_4.lt
      go_wp2_with fail
      clear k_g f_g l_g
      go_ret
      rw [hR.out]
      exact ⟨S4, rfl, HS4.out, by omega, b_g_4, HE4.out⟩
    · have H45 := Lib.hid h45
      have hR : Hid (R = (3600 * v2 + 60 * v4, r4, c4)) := Lib.hid (by rw [← HOFF.out]; unfold offF; simp only [HX1.out]; rw [if_neg HV.out]; simp only [← HS1.out, HX2.out]; simp only [← HS2.out, HX3.out]; simp only [← HS3.out, HX4.out]; rw [if_neg H45.out])
      have h45b : (v1 == 45) = false := by simpa using h45
      clear h45
      have k_g := b_g_4.cell
      have f_g := b_g_4.free
      have l_g := b_g_4.lt
      go_wp2_with fail
      clear k_g f_g l_g
      go_ret
      rw [hR.out]
      exact ⟨S4, rfl, HS4.out, by omega, b_g_4, HE4.out⟩

/-- A text's date. -/
def dateF (r : Bytes) : Int × Bool :=
  let a1 := numF 4 9999 r false
  let a2 := signF [45] a1.2.1 a1.2.2
  let a3 := numF 2 12 a2.2.1 a2.2.2
  let a4 := signF [45] a3.2.1 a3.2.2
  let a5 := numF 2 31 a4.2.1 a4.2.2
  let d := daysF a1.1 a3.1 a5.1
  let a6 := signF [84] a5.2.1 a5.2.2
  let a7 := numF 2 23 a6.2.1 a6.2.2
  let a8 := signF [58] a7.2.1 a7.2.2
  let a9 := numF 2 59 a8.2.1 a8.2.2
  let a10 := signF [58] a9.2.1 a9.2.2
  let a11 := numF 2 59 a10.2.1 a10.2.2
  let a12 := offF a11.2.1 a11.2.2
  let n := 86400 * d.1 + 3600 * a7.1 + 60 * a9.1 + a11.1 - a12.1
  if d.2 = false ∨ a12.2.2 = true ∨ a12.2.1 ≠ [] ∨ n < 0 ∨ 253402300799 < n then (0, false) else (n, true)
theorem days_le {y m d : Int} (h0 : 0 ≤ y) (h1 : y ≤ 9999) (h2 : 0 ≤ m) (h3 : m ≤ 9999) (h4 : 0 ≤ d) (h5 : d ≤ 9999) : -5000000 ≤ (daysF y m d).1 ∧ (daysF y m d).1 ≤ 5000000 := by
  have := years_le h0 h1
  have := sumM_le y (m.toNat - 1)
  unfold daysF
  split
  · simp
  · simp only; omega

set_option maxRecDepth 100000 in
set_option maxHeartbeats 16000000 in
theorem dparse_any {w : World} {S : ByteArray} (hs : S.size ≤ 1000000) :
    Calls Tryd.prog 37 #[.string S] w fun e w' => e = .returned (.tuple #[.int .i64 (dateF (bs S)).1, .bool (dateF (bs S)).2]) ∧ Below w.heap.size w w' := by
  generalize hd : dateF (bs S) = R
  have HD := Lib.hid hd
  clear hd
  go_enter Tryd.func37, Tryd.ntmps37
  go_wp2_with fail
  generalize hW : World.alloc _ _ = w0
  obtain ⟨hb, hz0⟩ := al1 hW
  have b_g_0 : DR w0 w.heap.size S false := n11 hW
  have HB0 := Lib.hid hb
  clear hW hb
  have hl1 := numF_le (k := 4) (by omega) 9999 (bs S) false
  rcases hx1 : numF 4 9999 (bs S) false with ⟨v1, r1, c1⟩
  rw [hx1] at hl1
  simp only at hl1
  refine (dnum_any 4 9999 b_g_0 (by omega) (by omega)).mono ?_
  rintro x w1 ⟨S1, rfl, hs1, hz1, bq, he⟩
  simp only [hx1] at hs1 bq ⊢
  have HX1 := Lib.hid hx1
  have HS1 := Lib.hid hs1
  clear hx1 hs1
  have b_g_1 : DR w1 w.heap.size S1 c1 := bq
  have HE1 := Lib.hid (Exc.trans (Exc.refl w.heap.size w0) he)
  clear bq he b_g_0
  have k_g := b_g_1.cell
  have f_g := b_g_1.free
  have l_g := b_g_1.lt
  go_wp2_with fail
  clear k_g f_g l_g
  have hl2 := signF_u8 [45] (bs S1) c1
  rcases hx2 : signF [45] (bs S1) c1 with ⟨v2, r2, c2⟩
  rw [hx2] at hl2
  simp only at hl2
  refine (dsign_any (signs := ⟨#[45]⟩) b_g_1 (by omega)).mono ?_
  rintro x w2 ⟨S2, rfl, hs2, hz2, bq, he⟩
  rw [show bs ⟨#[45]⟩ = [45] from rfl] at hs2 bq
  simp only [show bs ⟨#[45]⟩ = [45] from rfl, hx2] at hs2 bq ⊢
  have HX2 := Lib.hid hx2
  have HS2 := Lib.hid hs2
  clear hx2 hs2
  have b_g_2 : DR w2 w.heap.size S2 c2 := bq
  have HE2 := Lib.hid (Exc.trans HE1.out he)
  clear bq he b_g_1
  have k_g := b_g_2.cell
  have f_g := b_g_2.free
  have l_g := b_g_2.lt
  go_wp2_with fail
  clear k_g f_g l_g
  have hl3 := numF_le (k := 2) (by omega) 12 (bs S2) c2
  rcases hx3 : numF 2 12 (bs S2) c2 with ⟨v3, r3, c3⟩
  rw [hx3] at hl3
  simp only at hl3
  refine (dnum_any 2 12 b_g_2 (by omega) (by omega)).mono ?_
  rintro x w3 ⟨S3, rfl, hs3, hz3, bq, he⟩
  simp only [hx3] at hs3 bq ⊢
  have HX3 := Lib.hid hx3
  have HS3 := Lib.hid hs3
  clear hx3 hs3
  have b_g_3 : DR w3 w.heap.size S3 c3 := bq
  have HE3 := Lib.hid (Exc.trans HE2.out he)
  clear bq he b_g_2
  have k_g := b_g_3.cell
  have f_g := b_g_3.free
  have l_g := b_g_3.lt
  go_wp2_with fail
  clear k_g f_g l_g
  have hl4 := signF_u8 [45] (bs S3) c3
  rcases hx4 : signF [45] (bs S3) c3 with ⟨v4, r4, c4⟩
  rw [hx4] at hl4
  simp only at hl4
  refine (dsign_any (signs := ⟨#[45]⟩) b_g_3 (by omega)).mono ?_
  rintro x w4 ⟨S4, rfl, hs4, hz4, bq, he⟩
  rw [show bs ⟨#[45]⟩ = [45] from rfl] at hs4 bq
  simp only [show bs ⟨#[45]⟩ = [45] from rfl, hx4] at hs4 bq ⊢
  have HX4 := Lib.hid hx4
  have HS4 := Lib.hid hs4
  clear hx4 hs4
  have b_g_4 : DR w4 w.heap.size S4 c4 := bq
  have HE4 := Lib.hid (Exc.trans HE3.out he)
  clear bq he b_g_3
  have k_g := b_g_4.cell
  have f_g := b_g_4.free
  have l_g := b_g_4.lt
  go_wp2_with fail
  clear k_g f_g l_g
  have hl5 := numF_le (k := 2) (by omega) 31 (bs S4) c4
  rcases hx5 : numF 2 31 (bs S4) c4 with ⟨v5, r5, c5⟩
  rw [hx5] at hl5
  simp only at hl5
  refine (dnum_any 2 31 b_g_4 (by omega) (by omega)).mono ?_
  rintro x w5 ⟨S5, rfl, hs5, hz5, bq, he⟩
  simp only [hx5] at hs5 bq ⊢
  have HX5 := Lib.hid hx5
  have HS5 := Lib.hid hs5
  clear hx5 hs5
  have b_g_5 : DR w5 w.heap.size S5 c5 := bq
  have HE5 := Lib.hid (Exc.trans HE4.out he)
  clear bq he b_g_4
  have k_g := b_g_5.cell
  have f_g := b_g_5.free
  have l_g := b_g_5.lt
  go_wp2_with fail
  clear k_g f_g l_g
  have hdl := days_le hl1.1 hl1.2 hl3.1 hl3.2 hl5.1 hl5.2
  rcases hdd : daysF v1 v3 v5 with ⟨dv, dk⟩
  rw [hdd] at hdl
  simp only at hdl
  have HDD := Lib.hid hdd
  refine (days_any v1 v3 v5 hl1.1 hl1.2 hl3.1 hl3.2 hl5.1 hl5.2 _).mono ?_
  rintro x wz ⟨rfl, rfl⟩
  rw [hdd]
  clear hdd
  have k_g := b_g_5.cell
  have f_g := b_g_5.free
  have l_g := b_g_5.lt
  go_wp2_with fail
  clear k_g f_g l_g
  have hl6 := signF_u8 [84] (bs S5) c5
  rcases hx6 : signF [84] (bs S5) c5 with ⟨v6, r6, c6⟩
  rw [hx6] at hl6
  simp only at hl6
  refine (dsign_any (signs := ⟨#[84]⟩) b_g_5 (by omega)).mono ?_
  rintro x w6 ⟨S6, rfl, hs6, hz6, bq, he⟩
  rw [show bs ⟨#[84]⟩ = [84] from rfl] at hs6 bq
  simp only [show bs ⟨#[84]⟩ = [84] from rfl, hx6] at hs6 bq ⊢
  have HX6 := Lib.hid hx6
  have HS6 := Lib.hid hs6
  clear hx6 hs6
  have b_g_6 : DR w6 w.heap.size S6 c6 := bq
  have HE6 := Lib.hid (Exc.trans HE5.out he)
  clear bq he b_g_5
  have k_g := b_g_6.cell
  have f_g := b_g_6.free
  have l_g := b_g_6.lt
  go_wp2_with fail
  clear k_g f_g l_g
  have hl7 := numF_le (k := 2) (by omega) 23 (bs S6) c6
  rcases hx7 : numF 2 23 (bs S6) c6 with ⟨v7, r7, c7⟩
  rw [hx7] at hl7
  simp only at hl7
  refine (dnum_any 2 23 b_g_6 (by omega) (by omega)).mono ?_
  rintro x w7 ⟨S7, rfl, hs7, hz7, bq, he⟩
  simp only [hx7] at hs7 bq ⊢
  have HX7 := Lib.hid hx7
  have HS7 := Lib.hid hs7
  clear hx7 hs7
  have b_g_7 : DR w7 w.heap.size S7 c7 := bq
  have HE7 := Lib.hid (Exc.trans HE6.out he)
  clear bq he b_g_6
  have k_g := b_g_7.cell
  have f_g := b_g_7.free
  have l_g := b_g_7.lt
  go_wp2_with fail
  clear k_g f_g l_g
  have hl8 := signF_u8 [58] (bs S7) c7
  rcases hx8 : signF [58] (bs S7) c7 with ⟨v8, r8, c8⟩
  rw [hx8] at hl8
  simp only at hl8
  refine (dsign_any (signs := ⟨#[58]⟩) b_g_7 (by omega)).mono ?_
  rintro x w8 ⟨S8, rfl, hs8, hz8, bq, he⟩
  rw [show bs ⟨#[58]⟩ = [58] from rfl] at hs8 bq
  simp only [show bs ⟨#[58]⟩ = [58] from rfl, hx8] at hs8 bq ⊢
  have HX8 := Lib.hid hx8
  have HS8 := Lib.hid hs8
  clear hx8 hs8
  have b_g_8 : DR w8 w.heap.size S8 c8 := bq
  have HE8 := Lib.hid (Exc.trans HE7.out he)
  clear bq he b_g_7
  have k_g := b_g_8.cell
  have f_g := b_g_8.free
  have l_g := b_g_8.lt
  go_wp2_with fail
  clear k_g f_g l_g
  have hl9 := numF_le (k := 2) (by omega) 59 (bs S8) c8
  rcases hx9 : numF 2 59 (bs S8) c8 with ⟨v9, r9, c9⟩
  rw [hx9] at hl9
  simp only at hl9
  refine (dnum_any 2 59 b_g_8 (by omega) (by omega)).mono ?_
  rintro x w9 ⟨S9, rfl, hs9, hz9, bq, he⟩
  simp only [hx9] at hs9 bq ⊢
  have HX9 := Lib.hid hx9
  have HS9 := Lib.hid hs9
  clear hx9 hs9
  have b_g_9 : DR w9 w.heap.size S9 c9 := bq
  have HE9 := Lib.hid (Exc.trans HE8.out he)
  clear bq he b_g_8
  have k_g := b_g_9.cell
  have f_g := b_g_9.free
  have l_g := b_g_9.lt
  go_wp2_with fail
  clear k_g f_g l_g
  have hl10 := signF_u8 [58] (bs S9) c9
  rcases hx10 : signF [58] (bs S9) c9 with ⟨v10, r10, c10⟩
  rw [hx10] at hl10
  simp only at hl10
  refine (dsign_any (signs := ⟨#[58]⟩) b_g_9 (by omega)).mono ?_
  rintro x w10 ⟨S10, rfl, hs10, hz10, bq, he⟩
  rw [show bs ⟨#[58]⟩ = [58] from rfl] at hs10 bq
  simp only [show bs ⟨#[58]⟩ = [58] from rfl, hx10] at hs10 bq ⊢
  have HX10 := Lib.hid hx10
  have HS10 := Lib.hid hs10
  clear hx10 hs10
  have b_g_10 : DR w10 w.heap.size S10 c10 := bq
  have HE10 := Lib.hid (Exc.trans HE9.out he)
  clear bq he b_g_9
  have k_g := b_g_10.cell
  have f_g := b_g_10.free
  have l_g := b_g_10.lt
  go_wp2_with fail
  clear k_g f_g l_g
  have hl11 := numF_le (k := 2) (by omega) 59 (bs S10) c10
  rcases hx11 : numF 2 59 (bs S10) c10 with ⟨v11, r11, c11⟩
  rw [hx11] at hl11
  simp only at hl11
  refine (dnum_any 2 59 b_g_10 (by omega) (by omega)).mono ?_
  rintro x w11 ⟨S11, rfl, hs11, hz11, bq, he⟩
  simp only [hx11] at hs11 bq ⊢
  have HX11 := Lib.hid hx11
  have HS11 := Lib.hid hs11
  clear hx11 hs11
  have b_g_11 : DR w11 w.heap.size S11 c11 := bq
  have HE11 := Lib.hid (Exc.trans HE10.out he)
  clear bq he b_g_10
  have k_g := b_g_11.cell
  have f_g := b_g_11.free
  have l_g := b_g_11.lt
  go_wp2_with fail
  clear k_g f_g l_g
  have hl12 := offF_le (bs S11) c11
  rcases hx12 : offF (bs S11) c11 with ⟨v12, r12, c12⟩
  rw [hx12] at hl12
  simp only at hl12
  refine (doff_any b_g_11 (by omega)).mono ?_
  rintro x w12 ⟨S12, rfl, hs12, hz12, bq, he⟩
  simp only [hx12] at hs12 bq ⊢
  have HX12 := Lib.hid hx12
  have HS12 := Lib.hid hs12
  clear hx12 hs12
  have b_g_12 : DR w12 w.heap.size S12 c12 := bq
  have HE12 := Lib.hid (Exc.trans HE11.out he)
  clear bq he b_g_11
  have HR : Hid (R = if dk = false ∨ c12 = true ∨ r12 ≠ [] ∨ 86400 * dv + 3600 * v7 + 60 * v9 + v11 - v12 < 0 ∨ 253402300799 < 86400 * dv + 3600 * v7 + 60 * v9 + v11 - v12 then (0, false) else (86400 * dv + 3600 * v7 + 60 * v9 + v11 - v12, true)) := Lib.hid (by
    rw [← HD.out]
    unfold dateF
    simp only [HX1.out]
    simp only [← HS1.out, HX2.out]
    simp only [← HS2.out, HX3.out]
    simp only [← HS3.out, HX4.out]
    simp only [← HS4.out, HX5.out]
    simp only [HDD.out]
    simp only [← HS5.out, HX6.out]
    simp only [← HS6.out, HX7.out]
    simp only [← HS7.out, HX8.out]
    simp only [← HS8.out, HX9.out]
    simp only [← HS9.out, HX10.out]
    simp only [← HS10.out, HX11.out]
    simp only [← HS11.out, HX12.out]
    )
  have HBF := Lib.hid (HB0.out.trans HE12.out.1)
  clear hl1 hl2 hl3 hl4 hl5 hl6 hl8 hl10 hz1 hz2 hz3 hz4 hz5 hz6 hz7 hz8 hz9 hz10 hz11
  rcases (show dk = false ∨ dk = true by cases dk <;> simp) with hk | hk
  · have HC : Hid (dk = false ∨ c12 = true ∨ r12 ≠ [] ∨ 86400 * dv + 3600 * v7 + 60 * v9 + v11 - v12 < 0 ∨ 253402300799 < 86400 * dv + 3600 * v7 + 60 * v9 + v11 - v12) := Lib.hid (.inl hk)
    subst hk
    have k_g := b_g_12.cell
    go_wp2_with fail
    go_ret2
    rw [HR.out, if_pos HC.out]
    exact ⟨rfl, HBF.out⟩
  · rcases (show c12 = true ∨ c12 = false by cases c12 <;> simp) with hc | hc
    · have HC : Hid (dk = false ∨ c12 = true ∨ r12 ≠ [] ∨ 86400 * dv + 3600 * v7 + 60 * v9 + v11 - v12 < 0 ∨ 253402300799 < 86400 * dv + 3600 * v7 + 60 * v9 + v11 - v12) := Lib.hid (.inr (.inl hc))
      subst hk hc
      have k_g := b_g_12.cell
      go_wp2_with fail
      go_ret2
      rw [HR.out, if_pos HC.out]
      exact ⟨rfl, HBF.out⟩
    · by_cases hr : r12 = []
      rotate_left
      · have HC : Hid (dk = false ∨ c12 = true ∨ r12 ≠ [] ∨ 86400 * dv + 3600 * v7 + 60 * v9 + v11 - v12 < 0 ∨ 253402300799 < 86400 * dv + 3600 * v7 + 60 * v9 + v11 - v12) := Lib.hid (.inr (.inr (.inl hr)))
        have hne : (S12.toList == []) = false := not_nil (by rw [← bs_length, HS12.out]; exact List.length_pos_iff.2 hr)
        subst hk hc
        clear hr
        have k_g := b_g_12.cell
        go_wp2_with fail
        go_ret2
        rw [HR.out, if_pos HC.out]
        exact ⟨rfl, HBF.out⟩
      · have hne : (S12.toList == []) = true := nil_of (bs_nil (by rw [HS12.out]; exact hr))
        rcases (show 86400 * dv + 3600 * v7 + 60 * v9 + v11 - v12 < 0 ∨ 253402300799 < 86400 * dv + 3600 * v7 + 60 * v9 + v11 - v12 ∨ (0 ≤ 86400 * dv + 3600 * v7 + 60 * v9 + v11 - v12 ∧ 86400 * dv + 3600 * v7 + 60 * v9 + v11 - v12 ≤ 253402300799) by omega) with hn | hn | ⟨hn1, hn2⟩
        · have HC : Hid (dk = false ∨ c12 = true ∨ r12 ≠ [] ∨ 86400 * dv + 3600 * v7 + 60 * v9 + v11 - v12 < 0 ∨ 253402300799 < 86400 * dv + 3600 * v7 + 60 * v9 + v11 - v12) := Lib.hid (.inr (.inr (.inr (.inl hn))))
          subst hk hc
          clear hr
          have k_g := b_g_12.cell
          go_wp2_with fail
          go_ret2
          rw [HR.out, if_pos HC.out]
          exact ⟨rfl, HBF.out⟩
        · have HC : Hid (dk = false ∨ c12 = true ∨ r12 ≠ [] ∨ 86400 * dv + 3600 * v7 + 60 * v9 + v11 - v12 < 0 ∨ 253402300799 < 86400 * dv + 3600 * v7 + 60 * v9 + v11 - v12) := Lib.hid (.inr (.inr (.inr (.inr hn))))
          subst hk hc
          clear hr
          have k_g := b_g_12.cell
          go_wp2_with fail
          go_ret2
          rw [HR.out, if_pos HC.out]
          exact ⟨rfl, HBF.out⟩
        · have HC : Hid (¬ (dk = false ∨ c12 = true ∨ r12 ≠ [] ∨ 86400 * dv + 3600 * v7 + 60 * v9 + v11 - v12 < 0 ∨ 253402300799 < 86400 * dv + 3600 * v7 + 60 * v9 + v11 - v12)) := Lib.hid (fun h => h.elim (fun h => by rw [hk] at h; cases h) (fun h => h.elim (fun h => by rw [hc] at h; cases h) (fun h => h.elim (fun h => h hr) (fun h => by omega))))
          subst hk hc
          clear hr
          have k_g := b_g_12.cell
          go_wp2_with fail
          go_ret2
          rw [HR.out, if_neg HC.out]
          exact ⟨rfl, HBF.out⟩
end Go.Proofs.YtijajfelmekmiaaDoor
