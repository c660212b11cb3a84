/- escape, text of the scanner: some byte, some text, some place within the text. -/
import Derived.Test.YtijajfelmekmiaaDoorLex6
set_option linter.unusedVariables false
set_option linter.unusedSimpArgs false
namespace Go.Proofs.YtijajfelmekmiaaDoor
open Go.ChangeShapes Go.WideShapes Go.ChangeAt Go.RowKit

theorem pair_bytes {r : ByteArray} (h : 3 ≤ r.size) : mkS (unhex (bs (r.extract 1 3))) = mkS [hexPair (r[1]'(by omega)) (r[2]'(by omega))] := by
  have e : bs (r.extract 1 3) = [r[1]'(by omega), r[2]'(by omega)] := by
    have h1 : (bs (r.extract 1 3)).length = 2 := by rw [bs_length, size_ext h]
    match hl : bs (r.extract 1 3), h1 with
    | [a, b], _ =>
      have e0 : (bs (r.extract 1 3))[0]? = some (r[1]'(by omega)) := by
        rw [List.getElem?_eq_getElem (by rw [h1]; omega), bs_get _ 0 (by rw [size_ext h]; omega)]
        simp only [ByteArray.getElem_eq_getElem_data, ByteArray.data_extract, Array.getElem_extract]
      have e1 : (bs (r.extract 1 3))[1]? = some (r[2]'(by omega)) := by
        rw [List.getElem?_eq_getElem (by rw [h1]; omega), bs_get _ 1 (by rw [size_ext h]; omega)]
        simp only [ByteArray.getElem_eq_getElem_data, ByteArray.data_extract, Array.getElem_extract]
      rw [hl] at e0 e1
      simp at e0 e1
      rw [e0, e1]
  rw [e]; rfl
def EscPost (s : ByteArray) (g at_ : Nat) (w : World) (e : Ending) (w' : World) : Prop := ∃ (c : UInt8) (to : Nat) (bad' : Bool), e = .returned (.int .u8 (c.toNat : Int)) ∧ SC w' g s to bad' ∧ Exc g w w' ∧ (at_ ≤ to ∧ to ≤ s.size)
theorem mkS_one (c : UInt8) : (mkS [c]).size = 1 ∧ ∀ h : 0 < (mkS [c]).size, (mkS [c])[0] = c := by
  refine ⟨rfl, fun h => rfl⟩

set_option maxRecDepth 100000 in
set_option maxHeartbeats 4000000 in
theorem escape_any {w : World} {g at_ : Nat} {s : ByteArray} {bad : Bool} (b_g_0 : SC w g s at_ bad) (hat : at_ ≤ s.size) (hs : s.size ≤ 1000000) :
    Calls Tryd.prog 31 #[.pointer (some ⟨g, 0, none⟩)] w fun e w' => EscPost s g at_ w e w' := by
  have hg := b_g_0.lt
  obtain ⟨r, hr, hz, hi⟩ := rest_r s at_ hat
  have hrl : r.data.toList.length = r.size := bs_length r
  have HRL := Lib.hid hrl
  clear hi hrl
  go_enter Tryd.func31, Tryd.ntmps31
  have k_g := b_g_0.cell
  have f_g := b_g_0.free
  have l_g := b_g_0.lt
  go_wp2_with fail
  clear k_g f_g l_g
  refine (rest_any b_g_0 hat hs).mono ?_
  rintro x w1 ⟨rfl, hb⟩
  have b_g_1 := b_g_0.later hb
  have HE1 := Lib.hid (Exc.then (Exc.refl g w) (Nat.le_of_lt hg) hb)
  clear b_g_0
  clear hb
  rw [hr]
  clear hr
  have k_g := b_g_1.cell
  have f_g := b_g_1.free
  have l_g := b_g_1.lt
  go_wp2_with fail
  clear k_g f_g l_g
  refine (Tryd.strings_HasPrefix r ⟨#[110]⟩ _).mono ?_
  rintro x wz ⟨rfl, hw⟩
  replace hw := hw.symm
  subst hw
  rcases (show Lib.hasPrefix r.data.toList (ByteArray.data ⟨#[110]⟩).toList = true ∨ Lib.hasPrefix r.data.toList (ByteArray.data ⟨#[110]⟩).toList = false by cases Lib.hasPrefix r.data.toList (ByteArray.data ⟨#[110]⟩).toList <;> simp) with hq | hq
  · have hlen : 1 ≤ r.data.toList.length := pre_len (m := [110]) hq
    have hsz2 : at_ + 1 ≤ s.size := by have h := HRL.out; omega
    rw [hq]
    clear hlen hq
    have k_g := b_g_1.cell
    have f_g := b_g_1.free
    have l_g := b_g_1.lt
    go_wp2_with fail
    clear k_g f_g l_g
    have b_g_2 : SC (w1.setCell ⟨g, 1, none⟩ (.int .i64 ((at_ : Int) + 1))) g s (at_ + 1) bad := b_g_1.set_ 1 (.int .i64 ((at_ : Int) + 1))
    have HE2 := Lib.hid (Exc.set HE1.out 1 (.int .i64 ((at_ : Int) + 1)))
    clear b_g_1
    have z2 : (w1.setCell ⟨g, 1, none⟩ (.int .i64 ((at_ : Int) + 1))).heap.size = w1.heap.size := World.size_setCell _ _ _
    generalize w1.setCell ⟨g, 1, none⟩ (.int .i64 ((at_ : Int) + 1)) = w2 at *
    go_ret
    unfold EscPost
    exact ⟨10, _, _, rfl, b_g_2, HE2.out, by omega, hsz2⟩
  · rw [hq]
    clear hq
    by_cases h1 : 1 ≤ r.size
    rotate_left
    · have k_g := b_g_1.cell
      have f_g := b_g_1.free
      have l_g := b_g_1.lt
      go_wp2_with fail
      clear k_g f_g l_g
      have b_g_2 : SC (w1.setCell ⟨g, 2, none⟩ (.bool true)) g s at_ true := b_g_1.set_ 2 (.bool true)
      have HE2 := Lib.hid (Exc.set HE1.out 2 (.bool true))
      clear b_g_1
      have z2 : (w1.setCell ⟨g, 2, none⟩ (.bool true)).heap.size = w1.heap.size := World.size_setCell _ _ _
      generalize w1.setCell ⟨g, 2, none⟩ (.bool true) = w2 at *
      go_ret
      unfold EscPost
      exact ⟨0, _, _, rfl, b_g_2, HE2.out, Nat.le_refl _, hat⟩
    have hc0 := u8_le (r[0]'(by omega))
    rcases (show ((r[0]'(by omega)).toNat : Int) = 34 ∨ ((r[0]'(by omega)).toNat : Int) = 92 ∨ (((r[0]'(by omega)).toNat : Int) ≠ 34 ∧ ((r[0]'(by omega)).toNat : Int) ≠ 92) by omega) with hq | hq | ⟨hq1, hq2⟩
    · have e34 : (((r[0]'(by omega)).toNat : Int) == 34) = true := by simp; omega
      have e92 : (((r[0]'(by omega)).toNat : Int) == 92) = false := by simp; omega
      clear hq
      have k_g := b_g_1.cell
      have f_g := b_g_1.free
      have l_g := b_g_1.lt
      go_wp2_with fail
      clear k_g f_g l_g
      have b_g_2 : SC (w1.setCell ⟨g, 1, none⟩ (.int .i64 ((at_ : Int) + 1))) g s (at_ + 1) bad := b_g_1.set_ 1 (.int .i64 ((at_ : Int) + 1))
      have HE2 := Lib.hid (Exc.set HE1.out 1 (.int .i64 ((at_ : Int) + 1)))
      clear b_g_1
      have z2 : (w1.setCell ⟨g, 1, none⟩ (.int .i64 ((at_ : Int) + 1))).heap.size = w1.heap.size := World.size_setCell _ _ _
      generalize w1.setCell ⟨g, 1, none⟩ (.int .i64 ((at_ : Int) + 1)) = w2 at *
      go_ret
      unfold EscPost
      exact ⟨r[0]'(by omega), _, _, rfl, b_g_2, HE2.out, by omega, by omega⟩
    · have e34 : (((r[0]'(by omega)).toNat : Int) == 34) = false := by simp; omega
      have e92 : (((r[0]'(by omega)).toNat : Int) == 92) = true := by simp; omega
      clear hq
      have k_g := b_g_1.cell
      have f_g := b_g_1.free
      have l_g := b_g_1.lt
      go_wp2_with fail
      clear k_g f_g l_g
      have b_g_2 : SC (w1.setCell ⟨g, 1, none⟩ (.int .i64 ((at_ : Int) + 1))) g s (at_ + 1) bad := b_g_1.set_ 1 (.int .i64 ((at_ : Int) + 1))
      have HE2 := Lib.hid (Exc.set HE1.out 1 (.int .i64 ((at_ : Int) + 1)))
      clear b_g_1
      have z2 : (w1.setCell ⟨g, 1, none⟩ (.int .i64 ((at_ : Int) + 1))).heap.size = w1.heap.size := World.size_setCell _ _ _
      generalize w1.setCell ⟨g, 1, none⟩ (.int .i64 ((at_ : Int) + 1)) = w2 at *
      go_ret
      unfold EscPost
      exact ⟨r[0]'(by omega), _, _, rfl, b_g_2, HE2.out, by omega, by omega⟩
    · have e34 : (((r[0]'(by omega)).toNat : Int) == 34) = false := by simp; omega
      have e92 : (((r[0]'(by omega)).toNat : Int) == 92) = false := by simp; omega
      clear hq1 hq2
      by_cases h3 : 3 ≤ r.size ∧ ((r[0]'(by omega)).toNat : Int) = 120
      rotate_left
      · rcases (show r.size < 3 ∨ (3 ≤ r.size ∧ (((r[0]'(by omega)).toNat : Int) == 120) = false) by
          by_cases h : 3 ≤ r.size
          · exact .inr ⟨h, by simpa using fun e => h3 ⟨h, e⟩⟩
          · exact .inl (by omega)) with h4 | ⟨h4, h5⟩
        all_goals
          clear h3
          have k_g := b_g_1.cell
          have f_g := b_g_1.free
          have l_g := b_g_1.lt
          go_wp2_with fail
          clear k_g f_g l_g
          have b_g_2 : SC (w1.setCell ⟨g, 2, none⟩ (.bool true)) g s at_ true := b_g_1.set_ 2 (.bool true)
          have HE2 := Lib.hid (Exc.set HE1.out 2 (.bool true))
          clear b_g_1
          have z2 : (w1.setCell ⟨g, 2, none⟩ (.bool true)).heap.size = w1.heap.size := World.size_setCell _ _ _
          generalize w1.setCell ⟨g, 2, none⟩ (.bool true) = w2 at *
          go_ret
          unfold EscPost
          exact ⟨0, _, _, rfl, b_g_2, HE2.out, Nat.le_refl _, hat⟩
      obtain ⟨h3, h120⟩ := h3
      have e120 : (((r[0]'(by omega)).toNat : Int) == 120) = true := by simp; omega
      clear h120
      have hc1 := u8_le (r[1]'(by omega))
      have hc2 := u8_le (r[2]'(by omega))
      have hpb := pair_bytes h3
      have hmo := mkS_one (hexPair (r[1]'(by omega)) (r[2]'(by omega)))
      have HPB := Lib.hid hpb
      have HMO := Lib.hid hmo.2
      have hm1 := hmo.1
      have hx3 : (r.extract 1 3).size = 2 := by rw [size_ext h3]
      clear hpb hmo
      rcases (show hexB ((r[1]'(by omega)).toNat : Int) = true ∨ hexB ((r[1]'(by omega)).toNat : Int) = false by cases hexB ((r[1]'(by omega)).toNat : Int) <;> simp) with hx1 | hx1
      rotate_left
      · have k_g := b_g_1.cell
        have f_g := b_g_1.free
        have l_g := b_g_1.lt
        go_wp2_with fail
        clear k_g f_g l_g
        refine (hex_any _ _ (by omega) hc1).mono ?_
        rintro x wz ⟨rfl, rfl⟩
        rw [hx1]
        clear hx1
        have k_g := b_g_1.cell
        have f_g := b_g_1.free
        have l_g := b_g_1.lt
        go_wp2_with fail
        clear k_g f_g l_g
        have b_g_2 : SC (w1.setCell ⟨g, 2, none⟩ (.bool true)) g s at_ true := b_g_1.set_ 2 (.bool true)
        have HE2 := Lib.hid (Exc.set HE1.out 2 (.bool true))
        clear b_g_1
        have z2 : (w1.setCell ⟨g, 2, none⟩ (.bool true)).heap.size = w1.heap.size := World.size_setCell _ _ _
        generalize w1.setCell ⟨g, 2, none⟩ (.bool true) = w2 at *
        go_ret
        unfold EscPost
        exact ⟨0, _, _, rfl, b_g_2, HE2.out, Nat.le_refl _, hat⟩
      rcases (show hexB ((r[2]'(by omega)).toNat : Int) = true ∨ hexB ((r[2]'(by omega)).toNat : Int) = false by cases hexB ((r[2]'(by omega)).toNat : Int) <;> simp) with hx2 | hx2
      rotate_left
      · have k_g := b_g_1.cell
        have f_g := b_g_1.free
        have l_g := b_g_1.lt
        go_wp2_with fail
        clear k_g f_g l_g
        refine (hex_any _ _ (by omega) hc1).mono ?_
        rintro x wz ⟨rfl, rfl⟩
        rw [hx1]
        clear hx1
        have k_g := b_g_1.cell
        have f_g := b_g_1.free
        have l_g := b_g_1.lt
        go_wp2_with fail
        clear k_g f_g l_g
        refine (hex_any _ _ (by omega) hc2).mono ?_
        rintro x wz ⟨rfl, rfl⟩
        rw [hx2]
        clear hx2
        have k_g := b_g_1.cell
        have f_g := b_g_1.free
        have l_g := b_g_1.lt
        go_wp2_with fail
        clear k_g f_g l_g
        have b_g_2 : SC (w1.setCell ⟨g, 2, none⟩ (.bool true)) g s at_ true := b_g_1.set_ 2 (.bool true)
        have HE2 := Lib.hid (Exc.set HE1.out 2 (.bool true))
        clear b_g_1
        have z2 : (w1.setCell ⟨g, 2, none⟩ (.bool true)).heap.size = w1.heap.size := World.size_setCell _ _ _
        generalize w1.setCell ⟨g, 2, none⟩ (.bool true) = w2 at *
        go_ret
        unfold EscPost
        exact ⟨0, _, _, rfl, b_g_2, HE2.out, Nat.le_refl _, hat⟩
      have k_g := b_g_1.cell
      have f_g := b_g_1.free
      have l_g := b_g_1.lt
      go_wp2_with fail
      clear k_g f_g l_g
      refine (hex_any _ _ (by omega) hc1).mono ?_
      rintro x wz ⟨rfl, rfl⟩
      rw [hx1]
      clear hx1
      have k_g := b_g_1.cell
      have f_g := b_g_1.free
      have l_g := b_g_1.lt
      go_wp2_with fail
      clear k_g f_g l_g
      refine (hex_any _ _ (by omega) hc2).mono ?_
      rintro x wz ⟨rfl, rfl⟩
      rw [hx2]
      clear hx2
      have k_g := b_g_1.cell
      have f_g := b_g_1.free
      have l_g := b_g_1.lt
      go_wp2_with fail
      clear k_g f_g l_g
      have b_g_2 : SC (w1.setCell ⟨g, 1, none⟩ (.int .i64 ((at_ : Int) + 3))) g s (at_ + 3) bad := b_g_1.set_ 1 (.int .i64 ((at_ : Int) + 3))
      have HE2 := Lib.hid (Exc.set HE1.out 1 (.int .i64 ((at_ : Int) + 3)))
      clear b_g_1
      have z2 : (w1.setCell ⟨g, 1, none⟩ (.int .i64 ((at_ : Int) + 3))).heap.size = w1.heap.size := World.size_setCell _ _ _
      generalize w1.setCell ⟨g, 1, none⟩ (.int .i64 ((at_ : Int) + 3)) = w2 at *
      refine (bytes_any (s := r.extract 1 3) (by omega)).mono ?_
      rintro x w3 ⟨rfl, hb⟩
      have b_g_3 := b_g_2.later hb
      have HE3 := Lib.hid (Exc.then HE2.out (Nat.le_of_lt hg) hb)
      clear b_g_2
      clear hb
      rw [HPB.out]
      generalize hexPair (r[1]'(by omega)) (r[2]'(by omega)) = hp at *
      generalize hms : mkS [hp] = MS at *
      have k_g := b_g_3.cell
      have f_g := b_g_3.free
      have l_g := b_g_3.lt
      go_wp2_with fail
      clear k_g f_g l_g
      go_ret
      unfold EscPost
      refine ⟨hp, _, _, ?_, b_g_3, HE3.out, by omega, by omega⟩
      have h := HMO.out (by omega)
      show Ending.returned (.int .u8 (MS[0].toNat : Int)) = _
      rw [h]
end Go.Proofs.YtijajfelmekmiaaDoor
