/- escape of the scanner. -/
import Derived.Test.YtijajfelmekmiaaDoorLex6
set_option linter.unusedVariables false
set_option linter.unusedSimpArgs false
namespace Go.Proofs.YtijajfelmekmiaaDoor
open Go.ChangeShapes Go.WideShapes Go.ChangeAt Go.RowKit

theorem pair_bytes {r : ByteArray} (h : 3 ≤ r.size) : mkS (unhex (bs (r.extract 1 3))) = mkS [hexPair (r[1]'(by omega)) (r[2]'(by omega))] := by
  have e : bs (r.extract 1 3) = [r[1]'(by omega), r[2]'(by omega)] := by
    have h1 : (bs (r.extract 1 3)).length = 2 := by rw [bs_length, size_ext h]
    match hl : bs (r.extract 1 3), h1 with
    | [a, b], _ =>
      have e0 : (bs (r.extract 1 3))[0]? = some (r[1]'(by omega)) := by
        rw [List.getElem?_eq_getElem (by rw [h1]; omega), bs_get _ 0 (by rw [size_ext h]; omega)]
        simp only [ByteArray.getElem_eq_getElem_data, ByteArray.data_extract, Array.getElem_extract]
      have e1 : (bs (r.extract 1 3))[1]? = some (r[2]'(by omega)) := by
        rw [List.getElem?_eq_getElem (by rw [h1]; omega), bs_get _ 1 (by rw [size_ext h]; omega)]
        simp only [ByteArray.getElem_eq_getElem_data, ByteArray.data_extract, Array.getElem_extract]
      rw [hl] at e0 e1
      simp at e0 e1
      rw [e0, e1]
  rw [e]; rfl
/-- What stands behind a backslash: the byte, and how many it takes. -/
def escF (r : Bytes) : Option (UInt8 × Nat) :=
  if Lib.hasPrefix r [110] then some (10, 1)
  else match r with
    | [] => none
    | a :: t => if (a.toNat : Int) = 34 ∨ (a.toNat : Int) = 92 then some (a, 1)
      else if (a.toNat : Int) = 120 then
        (match t with
        | b :: c :: _ => if hexB (b.toNat : Int) && hexB (c.toNat : Int) then some (hexPair b c, 3) else none
        | _ => none)
      else none
def EscS (o : Option (UInt8 × Nat)) (at_ : Nat) (bad : Bool) (c : UInt8) (to : Nat) (bad' : Bool) : Prop :=
  match o with
  | some (b, k) => c = b ∧ to = at_ + k ∧ bad' = bad
  | none => bad' = true
def EscPost (s : ByteArray) (g at_ : Nat) (bad : Bool) (w : World) (e : Ending) (w' : World) : Prop := ∃ (c : UInt8) (to : Nat) (bad' : Bool), e = .returned (.int .u8 (c.toNat : Int)) ∧ SC w' g s to bad' ∧ Exc g w w' ∧ (at_ ≤ to ∧ to ≤ s.size) ∧ EscS (escF ((bs s).drop at_)) at_ bad c to bad'
theorem bs_head {r : ByteArray} (h : 0 < r.size) : bs r = r[0] :: (bs r).drop 1 := by
  have h1 : 0 < (bs r).length := by rw [bs_length]; exact h
  have := List.drop_eq_getElem_cons h1
  rw [List.drop_zero, bs_get r 0 h] at this
  exact this
theorem bs_head3 {r : ByteArray} (h : 3 ≤ r.size) : bs r = r[0] :: r[1] :: r[2] :: (bs r).drop 3 := by
  have h1 : 1 < (bs r).length := by rw [bs_length]; omega
  have h2 : 2 < (bs r).length := by rw [bs_length]; omega
  have e1 := List.drop_eq_getElem_cons h1
  have e2 := List.drop_eq_getElem_cons h2
  rw [bs_get r 1 (by omega)] at e1
  rw [bs_get r 2 (by omega)] at e2
  rw [← e2, ← e1]
  exact bs_head (by omega)
theorem esc_n {r : Bytes} (h : Lib.hasPrefix r [110] = true) : escF r = some (10, 1) := by unfold escF; rw [if_pos h]
theorem esc_empty {r : ByteArray} (h : ¬ 1 ≤ r.size) : escF (bs r) = none := by
  have : bs r = [] := List.eq_nil_of_length_eq_zero (by rw [bs_length]; omega)
  rw [this]; rfl
theorem esc_q {r : ByteArray} (hn : Lib.hasPrefix (bs r) [110] = false) (h : 0 < r.size) (hq : (r[0].toNat : Int) = 34 ∨ (r[0].toNat : Int) = 92) : escF (bs r) = some (r[0], 1) := by
  unfold escF
  rw [if_neg (by rw [hn]; simp), bs_head h]
  simp only [if_pos hq]
theorem esc_other {r : ByteArray} (hn : Lib.hasPrefix (bs r) [110] = false) (h : 0 < r.size) (hq : (r[0].toNat : Int) ≠ 34 ∧ (r[0].toNat : Int) ≠ 92) (h3 : ¬ (3 ≤ r.size ∧ (r[0].toNat : Int) = 120)) : escF (bs r) = none := by
  have hq2 : ¬ ((r[0].toNat : Int) = 34 ∨ (r[0].toNat : Int) = 92) := by omega
  unfold escF
  rw [if_neg (by rw [hn]; simp), bs_head h]
  simp only [if_neg hq2]
  by_cases hx : (r[0].toNat : Int) = 120
  · rw [if_pos hx]
    have hl : ((bs r).drop 1).length < 2 := by rw [List.length_drop, bs_length]; omega
    match (bs r).drop 1, hl with
    | [], _ => rfl
    | [a], _ => rfl
    | a :: b :: l, h => simp at h; omega
  · rw [if_neg hx]
theorem esc_x {r : ByteArray} (hn : Lib.hasPrefix (bs r) [110] = false) (h : 3 ≤ r.size) (hq : (r[0].toNat : Int) ≠ 34 ∧ (r[0].toNat : Int) ≠ 92) (hx : (r[0].toNat : Int) = 120) {b : Bool} (hb : (hexB (r[1].toNat : Int) && hexB (r[2].toNat : Int)) = b) : escF (bs r) = if b then some (hexPair r[1] r[2], 3) else none := by
  have hq2 : ¬ ((r[0].toNat : Int) = 34 ∨ (r[0].toNat : Int) = 92) := by omega
  unfold escF
  rw [if_neg (by rw [hn]; simp), bs_head3 h]
  simp only [if_neg hq2, if_pos hx, hb]
theorem mkS_one (c : UInt8) : (mkS [c]).size = 1 ∧ ∀ h : 0 < (mkS [c]).size, (mkS [c])[0] = c := by
  refine ⟨rfl, fun h => rfl⟩

set_option maxRecDepth 100000 in
set_option maxHeartbeats 4000000 in
theorem escape_any {w : World} {g at_ : Nat} {s : ByteArray} {bad : Bool} (b_g_0 : SC w g s at_ bad) (hat : at_ ≤ s.size) (hs : s.size ≤ 1000000) :
    Calls Tryd.prog 31 #[.pointer (some ⟨g, 0, none⟩)] w fun e w' => EscPost s g at_ bad w e w' := by
  have hg := b_g_0.lt
  obtain ⟨r, hr, hz, hi⟩ := rest_r s at_ hat
  have hrl : r.data.toList.length = r.size := bs_length r
  have HRL := Lib.hid hrl
  have HBR := Lib.hid (show bs r = (bs s).drop at_ by rw [← hr]; exact bs_ext s at_)
  clear hi hrl
  go_enter Tryd.func31, Tryd.ntmps31
  have k_g := b_g_0.cell
  have f_g := b_g_0.free
  have l_g := b_g_0.lt
  go_wp2_with fail
  clear k_g f_g l_g
  refine (rest_any b_g_0 hat hs).mono ?_
  rintro x w1 ⟨rfl, hb⟩
  have b_g_1 := b_g_0.later hb
  have HE1 := Lib.hid (Exc.then (Exc.refl g w) (Nat.le_of_lt hg) hb)
  clear b_g_0
  clear hb
  rw [hr]
  clear hr
  have k_g := b_g_1.cell
  have f_g := b_g_1.free
  have l_g := b_g_1.lt
  go_wp2_with fail
  clear k_g f_g l_g
  refine (Tryd.strings_HasPrefix r ⟨#[110]⟩ _).mono ?_
  rintro x wz ⟨rfl, hw⟩
  replace hw := hw.symm
  subst hw
  rcases (show Lib.hasPrefix r.data.toList (ByteArray.data ⟨#[110]⟩).toList = true ∨ Lib.hasPrefix r.data.toList (ByteArray.data ⟨#[110]⟩).toList = false by cases Lib.hasPrefix r.data.toList (ByteArray.data ⟨#[110]⟩).toList <;> simp) with hq | hq
  · have hlen : 1 ≤ r.data.toList.length := pre_len (m := [110]) hq
    have hsz2 : at_ + 1 ≤ s.size := by have h := HRL.out; omega
    rw [hq]
    have HF := Lib.hid (show escF (bs r) = some (10, 1) from esc_n hq)
    clear hlen hq
    have k_g := b_g_1.cell
    have f_g := b_g_1.free
    have l_g := b_g_1.lt
    go_wp2_with fail
    clear k_g f_g l_g
    have b_g_2 : SC (w1.setCell ⟨g, 1, none⟩ (.int .i64 ((at_ : Int) + 1))) g s (at_ + 1) bad := b_g_1.set_ 1 (.int .i64 ((at_ : Int) + 1))
    have HE2 := Lib.hid (Exc.set HE1.out 1 (.int .i64 ((at_ : Int) + 1)))
    clear b_g_1
    have z2 : (w1.setCell ⟨g, 1, none⟩ (.int .i64 ((at_ : Int) + 1))).heap.size = w1.heap.size := World.size_setCell _ _ _
    generalize w1.setCell ⟨g, 1, none⟩ (.int .i64 ((at_ : Int) + 1)) = w2 at *
    go_ret
    unfold EscPost
    exact ⟨10, _, _, rfl, b_g_2, HE2.out, ⟨by omega, hsz2⟩, by rw [← HBR.out, HF.out]; exact ⟨rfl, rfl, rfl⟩⟩
  · rw [hq]
    have HNP := Lib.hid (show Lib.hasPrefix (bs r) [110] = false from hq)
    clear hq
    by_cases h1 : 1 ≤ r.size
    rotate_left
    · have HF := Lib.hid (esc_empty h1)
      have k_g := b_g_1.cell
      have f_g := b_g_1.free
      have l_g := b_g_1.lt
      go_wp2_with fail
      clear k_g f_g l_g
      have b_g_2 : SC (w1.setCell ⟨g, 2, none⟩ (.bool true)) g s at_ true := b_g_1.set_ 2 (.bool true)
      have HE2 := Lib.hid (Exc.set HE1.out 2 (.bool true))
      clear b_g_1
      have z2 : (w1.setCell ⟨g, 2, none⟩ (.bool true)).heap.size = w1.heap.size := World.size_setCell _ _ _
      generalize w1.setCell ⟨g, 2, none⟩ (.bool true) = w2 at *
      go_ret
      unfold EscPost
      exact ⟨0, _, _, rfl, b_g_2, HE2.out, ⟨Nat.le_refl _, hat⟩, by rw [← HBR.out, HF.out]; exact rfl⟩
    have hc0 := u8_le (r[0]'(by omega))
    rcases (show ((r[0]'(by omega)).toNat : Int) = 34 ∨ ((r[0]'(by omega)).toNat : Int) = 92 ∨ (((r[0]'(by omega)).toNat : Int) ≠ 34 ∧ ((r[0]'(by omega)).toNat : Int) ≠ 92) by omega) with hq | hq | ⟨hq1, hq2⟩
    · have e34 : (((r[0]'(by omega)).toNat : Int) == 34) = true := by simp; omega
      have e92 : (((r[0]'(by omega)).toNat : Int) == 92) = false := by simp; omega
      have HF := Lib.hid (esc_q HNP.out (by omega) (by omega))
      clear hq
      have k_g := b_g_1.cell
      have f_g := b_g_1.free
      have l_g := b_g_1.lt
      go_wp2_with fail
      clear k_g f_g l_g
      have b_g_2 : SC (w1.setCell ⟨g, 1, none⟩ (.int .i64 ((at_ : Int) + 1))) g s (at_ + 1) bad := b_g_1.set_ 1 (.int .i64 ((at_ : Int) + 1))
      have HE2 := Lib.hid (Exc.set HE1.out 1 (.int .i64 ((at_ : Int) + 1)))
      clear b_g_1
      have z2 : (w1.setCell ⟨g, 1, none⟩ (.int .i64 ((at_ : Int) + 1))).heap.size = w1.heap.size := World.size_setCell _ _ _
      generalize w1.setCell ⟨g, 1, none⟩ (.int .i64 ((at_ : Int) + 1)) = w2 at *
      go_ret
      unfold EscPost
      exact ⟨r[0]'(by omega), _, _, rfl, b_g_2, HE2.out, ⟨by omega, by omega⟩, by rw [← HBR.out, HF.out]; exact ⟨rfl, rfl, rfl⟩⟩
    · have e34 : (((r[0]'(by omega)).toNat : Int) == 34) = false := by simp; omega
      have e92 : (((r[0]'(by omega)).toNat : Int) == 92) = true := by simp; omega
      have HF := Lib.hid (esc_q HNP.out (by omega) (by omega))
      clear hq
      have k_g := b_g_1.cell
      have f_g := b_g_1.free
      have l_g := b_g_1.lt
      go_wp2_with fail
      clear k_g f_g l_g
      have b_g_2 : SC (w1.setCell ⟨g, 1, none⟩ (.int .i64 ((at_ : Int) + 1))) g s (at_ + 1) bad := b_g_1.set_ 1 (.int .i64 ((at_ : Int) + 1))
      have HE2 := Lib.hid (Exc.set HE1.out 1 (.int .i64 ((at_ : Int) + 1)))
      clear b_g_1
      have z2 : (w1.setCell ⟨g, 1, none⟩ (.int .i64 ((at_ : Int) + 1))).heap.size = w1.heap.size := World.size_setCell _ _ _
      generalize w1.setCell ⟨g, 1, none⟩ (.int .i64 ((at_ : Int) + 1)) = w2 at *
      go_ret
      unfold EscPost
      exact ⟨r[0]'(by omega), _, _, rfl, b_g_2, HE2.out, ⟨by omega, by omega⟩, by rw [← HBR.out, HF.out]; exact ⟨rfl, rfl, rfl⟩⟩
    · have e34 : (((r[0]'(by omega)).toNat : Int) == 34) = false := by simp; omega
      have e92 : (((r[0]'(by omega)).toNat : Int) == 92) = false := by simp; omega
      have HQ := Lib.hid (And.intro hq1 hq2)
      clear hq1 hq2
      by_cases h3 : 3 ≤ r.size ∧ ((r[0]'(by omega)).toNat : Int) = 120
      rotate_left
      · rcases (show r.size < 3 ∨ (3 ≤ r.size ∧ (((r[0]'(by omega)).toNat : Int) == 120) = false) by
          by_cases h : 3 ≤ r.size
          · exact .inr ⟨h, by simpa using fun e => h3 ⟨h, e⟩⟩
          · exact .inl (by omega)) with h4 | ⟨h4, h5⟩
        all_goals
          have HF := Lib.hid (esc_other HNP.out (by omega) HQ.out h3)
          clear h3
          have k_g := b_g_1.cell
          have f_g := b_g_1.free
          have l_g := b_g_1.lt
          go_wp2_with fail
          clear k_g f_g l_g
          have b_g_2 : SC (w1.setCell ⟨g, 2, none⟩ (.bool true)) g s at_ true := b_g_1.set_ 2 (.bool true)
          have HE2 := Lib.hid (Exc.set HE1.out 2 (.bool true))
          clear b_g_1
          have z2 : (w1.setCell ⟨g, 2, none⟩ (.bool true)).heap.size = w1.heap.size := World.size_setCell _ _ _
          generalize w1.setCell ⟨g, 2, none⟩ (.bool true) = w2 at *
          go_ret
          unfold EscPost
          exact ⟨0, _, _, rfl, b_g_2, HE2.out, ⟨Nat.le_refl _, hat⟩, by rw [← HBR.out, HF.out]; exact rfl⟩
      obtain ⟨h3, h120⟩ := h3
      have e120 : (((r[0]'(by omega)).toNat : Int) == 120) = true := by simp; omega
      have HX := Lib.hid h120
      clear h120
      have hc1 := u8_le (r[1]'(by omega))
      have hc2 := u8_le (r[2]'(by omega))
      have hpb := pair_bytes h3
      have hmo := mkS_one (hexPair (r[1]'(by omega)) (r[2]'(by omega)))
      have HPB := Lib.hid hpb
      have HMO := Lib.hid hmo.2
      have hm1 := hmo.1
      have hx3 : (r.extract 1 3).size = 2 := by rw [size_ext h3]
      clear hpb hmo
      rcases (show hexB ((r[1]'(by omega)).toNat : Int) = true ∨ hexB ((r[1]'(by omega)).toNat : Int) = false by cases hexB ((r[1]'(by omega)).toNat : Int) <;> simp) with hx1 | hx1
      rotate_left
      · have HF := Lib.hid (esc_x HNP.out h3 HQ.out HX.out (b := false) (by rw [hx1]; rfl))
        have k_g := b_g_1.cell
        have f_g := b_g_1.free
        have l_g := b_g_1.lt
        go_wp2_with fail
        clear k_g f_g l_g
        refine (hex_any _ _ (by omega) hc1).mono ?_
        rintro x wz ⟨rfl, rfl⟩
        rw [hx1]
        clear hx1
        have k_g := b_g_1.cell
        have f_g := b_g_1.free
        have l_g := b_g_1.lt
        go_wp2_with fail
        clear k_g f_g l_g
        have b_g_2 : SC (w1.setCell ⟨g, 2, none⟩ (.bool true)) g s at_ true := b_g_1.set_ 2 (.bool true)
        have HE2 := Lib.hid (Exc.set HE1.out 2 (.bool true))
        clear b_g_1
        have z2 : (w1.setCell ⟨g, 2, none⟩ (.bool true)).heap.size = w1.heap.size := World.size_setCell _ _ _
        generalize w1.setCell ⟨g, 2, none⟩ (.bool true) = w2 at *
        go_ret
        unfold EscPost
        exact ⟨0, _, _, rfl, b_g_2, HE2.out, ⟨Nat.le_refl _, hat⟩, by rw [← HBR.out, HF.out]; exact rfl⟩
      rcases (show hexB ((r[2]'(by omega)).toNat : Int) = true ∨ hexB ((r[2]'(by omega)).toNat : Int) = false by cases hexB ((r[2]'(by omega)).toNat : Int) <;> simp) with hx2 | hx2
      rotate_left
      · have HF := Lib.hid (esc_x HNP.out h3 HQ.out HX.out (b := false) (by rw [hx1, hx2]; rfl))
        have k_g := b_g_1.cell
        have f_g := b_g_1.free
        have l_g := b_g_1.lt
        go_wp2_with fail
        clear k_g f_g l_g
        refine (hex_any _ _ (by omega) hc1).mono ?_
        rintro x wz ⟨rfl, rfl⟩
        rw [hx1]
        clear hx1
        have k_g := b_g_1.cell
        have f_g := b_g_1.free
        have l_g := b_g_1.lt
        go_wp2_with fail
        clear k_g f_g l_g
        refine (hex_any _ _ (by omega) hc2).mono ?_
        rintro x wz ⟨rfl, rfl⟩
        rw [hx2]
        clear hx2
        have k_g := b_g_1.cell
        have f_g := b_g_1.free
        have l_g := b_g_1.lt
        go_wp2_with fail
        clear k_g f_g l_g
        have b_g_2 : SC (w1.setCell ⟨g, 2, none⟩ (.bool true)) g s at_ true := b_g_1.set_ 2 (.bool true)
        have HE2 := Lib.hid (Exc.set HE1.out 2 (.bool true))
        clear b_g_1
        have z2 : (w1.setCell ⟨g, 2, none⟩ (.bool true)).heap.size = w1.heap.size := World.size_setCell _ _ _
        generalize w1.setCell ⟨g, 2, none⟩ (.bool true) = w2 at *
        go_ret
        unfold EscPost
        exact ⟨0, _, _, rfl, b_g_2, HE2.out, ⟨Nat.le_refl _, hat⟩, by rw [← HBR.out, HF.out]; exact rfl⟩
      have HF := Lib.hid (esc_x HNP.out h3 HQ.out HX.out (b := true) (by rw [hx1, hx2]; rfl))
      have k_g := b_g_1.cell
      have f_g := b_g_1.free
      have l_g := b_g_1.lt
      go_wp2_with fail
      clear k_g f_g l_g
      refine (hex_any _ _ (by omega) hc1).mono ?_
      rintro x wz ⟨rfl, rfl⟩
      rw [hx1]
      clear hx1
      have k_g := b_g_1.cell
      have f_g := b_g_1.free
      have l_g := b_g_1.lt
      go_wp2_with fail
      clear k_g f_g l_g
      refine (hex_any _ _ (by omega) hc2).mono ?_
      rintro x wz ⟨rfl, rfl⟩
      rw [hx2]
      clear hx2
      have k_g := b_g_1.cell
      have f_g := b_g_1.free
      have l_g := b_g_1.lt
      go_wp2_with fail
      clear k_g f_g l_g
      have b_g_2 : SC (w1.setCell ⟨g, 1, none⟩ (.int .i64 ((at_ : Int) + 3))) g s (at_ + 3) bad := b_g_1.set_ 1 (.int .i64 ((at_ : Int) + 3))
      have HE2 := Lib.hid (Exc.set HE1.out 1 (.int .i64 ((at_ : Int) + 3)))
      clear b_g_1
      have z2 : (w1.setCell ⟨g, 1, none⟩ (.int .i64 ((at_ : Int) + 3))).heap.size = w1.heap.size := World.size_setCell _ _ _
      generalize w1.setCell ⟨g, 1, none⟩ (.int .i64 ((at_ : Int) + 3)) = w2 at *
      refine (bytes_any (s := r.extract 1 3) (by omega)).mono ?_
      rintro x w3 ⟨rfl, hb⟩
      have b_g_3 := b_g_2.later hb
      have HE3 := Lib.hid (Exc.then HE2.out (Nat.le_of_lt hg) hb)
      clear b_g_2
      clear hb
      rw [HPB.out]
      generalize hexPair (r[1]'(by omega)) (r[2]'(by omega)) = hp at *
      generalize hms : mkS [hp] = MS at *
      have k_g := b_g_3.cell
      have f_g := b_g_3.free
      have l_g := b_g_3.lt
      go_wp2_with fail
      clear k_g f_g l_g
      go_ret
      unfold EscPost
      refine ⟨hp, _, _, ?_, b_g_3, HE3.out, ⟨by omega, by omega⟩, by rw [← HBR.out, HF.out]; exact ⟨rfl, rfl, rfl⟩⟩
      have h := HMO.out (by omega)
      show Ending.returned (.int .u8 (MS[0].toNat : Int)) = _
      rw [h]
end Go.Proofs.YtijajfelmekmiaaDoor
