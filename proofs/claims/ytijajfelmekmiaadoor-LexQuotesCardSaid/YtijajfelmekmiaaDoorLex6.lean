/- raw, key of the scanner. -/
import Derived.Test.YtijajfelmekmiaaDoorLex5
set_option linter.unusedVariables false
set_option linter.unusedSimpArgs false
namespace Go.Proofs.YtijajfelmekmiaaDoor
open Go.ChangeShapes Go.WideShapes Go.ChangeAt Go.RowKit

set_option maxRecDepth 100000 in
set_option maxHeartbeats 4000000 in
theorem raw_any {w : World} {g at_ : Nat} {s : ByteArray} {bad : Bool} (b_g_0 : SC w g s at_ bad) (hat : at_ + 4 ≤ s.size) (hs : s.size ≤ 1000000) :
    Calls Tryd.prog 22 #[.pointer (some ⟨g, 0, none⟩)] w fun e w' => e = .returned (.agg #[.int .i64 6, .string (mkS (unhex (bs (s.extract (at_ + 4) (at_ + 4 + runN hexB s (at_ + 4)))))), .int .i64 0, .int .i64 0]) ∧ SC w' g s (at_ + 4 + runN hexB s (at_ + 4)) (decide (runN hexB s (at_ + 4) % 2 = 1 ∨ 512 < runN hexB s (at_ + 4))) ∧ Exc g w w' := by
  have hg := b_g_0.lt
  have hm := ext_len hexB (s := s) (at_ := at_ + 4) hat
  have hm2 := runN_le hexB s (at_ + 4) hat
  rcases (show runN hexB s (at_ + 4) % 2 = 1 ∨ (runN hexB s (at_ + 4) % 2 = 0 ∧ 512 < runN hexB s (at_ + 4)) ∨ (runN hexB s (at_ + 4) % 2 = 0 ∧ runN hexB s (at_ + 4) ≤ 512) by omega) with hc | ⟨hc1, hc2⟩ | ⟨hc1, hc2⟩
  · have HD : Hid (decide (runN hexB s (at_ + 4) % 2 = 1 ∨ 512 < runN hexB s (at_ + 4)) = true) := Lib.hid (decide_eq_true (.inl hc))
    rw [HD.out]
    have i1 : ((runN hexB s (at_ + 4) : Nat) : Int).tmod 2 = 1 := by rw [Int.tmod_eq_emod_of_nonneg (by omega)]; omega
    go_enter Tryd.func22, Tryd.ntmps22
    have k_g := b_g_0.cell
    have f_g := b_g_0.free
    have l_g := b_g_0.lt
    go_wp2_with fail
    clear k_g f_g l_g
    have b_g_1 : SC (w.setCell ⟨g, 1, none⟩ (.int .i64 ((at_ : Int) + 4))) g s (at_ + 4) bad := b_g_0.set_ 1 (.int .i64 ((at_ : Int) + 4))
    have HE1 := Lib.hid (Exc.set (Exc.refl g w) 1 (.int .i64 ((at_ : Int) + 4)))
    clear b_g_0
    have z1 : (w.setCell ⟨g, 1, none⟩ (.int .i64 ((at_ : Int) + 4))).heap.size = w.heap.size := World.size_setCell _ _ _
    generalize w.setCell ⟨g, 1, none⟩ (.int .i64 ((at_ : Int) + 4)) = w1 at *
    generalize hW : World.alloc _ _ = w2
    obtain ⟨hb, hz⟩ := al1 hW
    have b_r_2 := n11 hW
    rw [z1] at b_r_2
    have b_g_2 := b_g_1.later hb
    have HE2 := Lib.hid (Exc.then HE1.out (Nat.le_of_lt hg) hb)
    clear b_g_1
    clear hW hb
    refine (run_any 33 hexB ent_hex hex_any b_g_2 hat hs).mono ?_
    rintro x w3 ⟨rfl, b_g_3, he⟩
    have b_r_3 := Exc.blk he (by omega) b_r_2
    have HE3 := Lib.hid (Exc.trans HE2.out he)
    clear b_g_2 b_r_2
    clear he
    have k_g := b_g_3.cell
    have f_g := b_g_3.free
    have l_g := b_g_3.lt
    have k_r := b_r_3.cell
    have f_r := b_r_3.free
    have l_r := b_r_3.lt
    go_wp2_with fail
    clear k_g f_g l_g k_r f_r l_r
    have b_g_4 : SC (w3.setCell ⟨g, 2, none⟩ (.bool true)) g s (at_ + 4 + runN hexB s (at_ + 4)) true := b_g_3.set_ 2 (.bool true)
    have b_r_4 := b_r_3.far (show _ ≠ g by omega) 2 (.bool true)
    have HE4 := Lib.hid (Exc.set HE3.out 2 (.bool true))
    clear b_g_3 b_r_3
    have z4 : (w3.setCell ⟨g, 2, none⟩ (.bool true)).heap.size = w3.heap.size := World.size_setCell _ _ _
    generalize w3.setCell ⟨g, 2, none⟩ (.bool true) = w4 at *
    refine (bytes_any (by rw [hm]; omega)).mono ?_
    rintro x w5 ⟨rfl, hb⟩
    have b_g_5 := b_g_4.later hb
    have b_r_5 := b_r_4.later hb
    have HE5 := Lib.hid (Exc.then HE4.out (Nat.le_of_lt hg) hb)
    clear b_g_4 b_r_4
    clear hb
    have k_g := b_g_5.cell
    have f_g := b_g_5.free
    have l_g := b_g_5.lt
    have k_r := b_r_5.cell
    have f_r := b_r_5.free
    have l_r := b_r_5.lt
    go_wp2_with fail
    clear k_g f_g l_g k_r f_r l_r
    obtain ⟨p1, p2, p3⟩ := put4e (b_r_5) (HE5.out) (show g ≤ _ by omega) (show w.heap.size ≤ _ by omega)
    refine bodyPost_ret (ret_wd rfl rfl p1 rfl) rfl ?_
    exact ⟨rfl, p3 _ _ (by omega) b_g_5, p2⟩
  · have HD : Hid (decide (runN hexB s (at_ + 4) % 2 = 1 ∨ 512 < runN hexB s (at_ + 4)) = true) := Lib.hid (decide_eq_true (.inr hc2))
    rw [HD.out]
    have i1 : ((runN hexB s (at_ + 4) : Nat) : Int).tmod 2 = 0 := by rw [Int.tmod_eq_emod_of_nonneg (by omega)]; omega
    have i2 : decide ((512 : Int) < ((runN hexB s (at_ + 4) : Nat) : Int)) = true := decide_eq_true (by omega)
    go_enter Tryd.func22, Tryd.ntmps22
    have k_g := b_g_0.cell
    have f_g := b_g_0.free
    have l_g := b_g_0.lt
    go_wp2_with fail
    clear k_g f_g l_g
    have b_g_1 : SC (w.setCell ⟨g, 1, none⟩ (.int .i64 ((at_ : Int) + 4))) g s (at_ + 4) bad := b_g_0.set_ 1 (.int .i64 ((at_ : Int) + 4))
    have HE1 := Lib.hid (Exc.set (Exc.refl g w) 1 (.int .i64 ((at_ : Int) + 4)))
    clear b_g_0
    have z1 : (w.setCell ⟨g, 1, none⟩ (.int .i64 ((at_ : Int) + 4))).heap.size = w.heap.size := World.size_setCell _ _ _
    generalize w.setCell ⟨g, 1, none⟩ (.int .i64 ((at_ : Int) + 4)) = w1 at *
    generalize hW : World.alloc _ _ = w2
    obtain ⟨hb, hz⟩ := al1 hW
    have b_r_2 := n11 hW
    rw [z1] at b_r_2
    have b_g_2 := b_g_1.later hb
    have HE2 := Lib.hid (Exc.then HE1.out (Nat.le_of_lt hg) hb)
    clear b_g_1
    clear hW hb
    refine (run_any 33 hexB ent_hex hex_any b_g_2 hat hs).mono ?_
    rintro x w3 ⟨rfl, b_g_3, he⟩
    have b_r_3 := Exc.blk he (by omega) b_r_2
    have HE3 := Lib.hid (Exc.trans HE2.out he)
    clear b_g_2 b_r_2
    clear he
    have k_g := b_g_3.cell
    have f_g := b_g_3.free
    have l_g := b_g_3.lt
    have k_r := b_r_3.cell
    have f_r := b_r_3.free
    have l_r := b_r_3.lt
    go_wp2_with fail
    clear k_g f_g l_g k_r f_r l_r
    have b_g_4 : SC (w3.setCell ⟨g, 2, none⟩ (.bool true)) g s (at_ + 4 + runN hexB s (at_ + 4)) true := b_g_3.set_ 2 (.bool true)
    have b_r_4 := b_r_3.far (show _ ≠ g by omega) 2 (.bool true)
    have HE4 := Lib.hid (Exc.set HE3.out 2 (.bool true))
    clear b_g_3 b_r_3
    have z4 : (w3.setCell ⟨g, 2, none⟩ (.bool true)).heap.size = w3.heap.size := World.size_setCell _ _ _
    generalize w3.setCell ⟨g, 2, none⟩ (.bool true) = w4 at *
    refine (bytes_any (by rw [hm]; omega)).mono ?_
    rintro x w5 ⟨rfl, hb⟩
    have b_g_5 := b_g_4.later hb
    have b_r_5 := b_r_4.later hb
    have HE5 := Lib.hid (Exc.then HE4.out (Nat.le_of_lt hg) hb)
    clear b_g_4 b_r_4
    clear hb
    have k_g := b_g_5.cell
    have f_g := b_g_5.free
    have l_g := b_g_5.lt
    have k_r := b_r_5.cell
    have f_r := b_r_5.free
    have l_r := b_r_5.lt
    go_wp2_with fail
    clear k_g f_g l_g k_r f_r l_r
    obtain ⟨p1, p2, p3⟩ := put4e (b_r_5) (HE5.out) (show g ≤ _ by omega) (show w.heap.size ≤ _ by omega)
    refine bodyPost_ret (ret_wd rfl rfl p1 rfl) rfl ?_
    exact ⟨rfl, p3 _ _ (by omega) b_g_5, p2⟩
  · have HD : Hid (decide (runN hexB s (at_ + 4) % 2 = 1 ∨ 512 < runN hexB s (at_ + 4)) = false) := Lib.hid (decide_eq_false (by omega))
    rw [HD.out]
    have i1 : ((runN hexB s (at_ + 4) : Nat) : Int).tmod 2 = 0 := by rw [Int.tmod_eq_emod_of_nonneg (by omega)]; omega
    have i2 : decide ((512 : Int) < ((runN hexB s (at_ + 4) : Nat) : Int)) = false := decide_eq_false (by omega)
    go_enter Tryd.func22, Tryd.ntmps22
    have k_g := b_g_0.cell
    have f_g := b_g_0.free
    have l_g := b_g_0.lt
    go_wp2_with fail
    clear k_g f_g l_g
    have b_g_1 : SC (w.setCell ⟨g, 1, none⟩ (.int .i64 ((at_ : Int) + 4))) g s (at_ + 4) bad := b_g_0.set_ 1 (.int .i64 ((at_ : Int) + 4))
    have HE1 := Lib.hid (Exc.set (Exc.refl g w) 1 (.int .i64 ((at_ : Int) + 4)))
    clear b_g_0
    have z1 : (w.setCell ⟨g, 1, none⟩ (.int .i64 ((at_ : Int) + 4))).heap.size = w.heap.size := World.size_setCell _ _ _
    generalize w.setCell ⟨g, 1, none⟩ (.int .i64 ((at_ : Int) + 4)) = w1 at *
    generalize hW : World.alloc _ _ = w2
    obtain ⟨hb, hz⟩ := al1 hW
    have b_r_2 := n11 hW
    rw [z1] at b_r_2
    have b_g_2 := b_g_1.later hb
    have HE2 := Lib.hid (Exc.then HE1.out (Nat.le_of_lt hg) hb)
    clear b_g_1
    clear hW hb
    refine (run_any 33 hexB ent_hex hex_any b_g_2 hat hs).mono ?_
    rintro x w3 ⟨rfl, b_g_3, he⟩
    have b_r_3 := Exc.blk he (by omega) b_r_2
    have HE3 := Lib.hid (Exc.trans HE2.out he)
    clear b_g_2 b_r_2
    clear he
    have k_g := b_g_3.cell
    have f_g := b_g_3.free
    have l_g := b_g_3.lt
    have k_r := b_r_3.cell
    have f_r := b_r_3.free
    have l_r := b_r_3.lt
    go_wp2_with fail
    clear k_g f_g l_g k_r f_r l_r
    have b_g_4 : SC (w3.setCell ⟨g, 2, none⟩ (.bool false)) g s (at_ + 4 + runN hexB s (at_ + 4)) false := b_g_3.set_ 2 (.bool false)
    have b_r_4 := b_r_3.far (show _ ≠ g by omega) 2 (.bool false)
    have HE4 := Lib.hid (Exc.set HE3.out 2 (.bool false))
    clear b_g_3 b_r_3
    have z4 : (w3.setCell ⟨g, 2, none⟩ (.bool false)).heap.size = w3.heap.size := World.size_setCell _ _ _
    generalize w3.setCell ⟨g, 2, none⟩ (.bool false) = w4 at *
    refine (bytes_any (by rw [hm]; omega)).mono ?_
    rintro x w5 ⟨rfl, hb⟩
    have b_g_5 := b_g_4.later hb
    have b_r_5 := b_r_4.later hb
    have HE5 := Lib.hid (Exc.then HE4.out (Nat.le_of_lt hg) hb)
    clear b_g_4 b_r_4
    clear hb
    have k_g := b_g_5.cell
    have f_g := b_g_5.free
    have l_g := b_g_5.lt
    have k_r := b_r_5.cell
    have f_r := b_r_5.free
    have l_r := b_r_5.lt
    go_wp2_with fail
    clear k_g f_g l_g k_r f_r l_r
    obtain ⟨p1, p2, p3⟩ := put4e (b_r_5) (HE5.out) (show g ≤ _ by omega) (show w.heap.size ≤ _ by omega)
    refine bodyPost_ret (ret_wd rfl rfl p1 rfl) rfl ?_
    exact ⟨rfl, p3 _ _ (by omega) b_g_5, p2⟩

set_option maxRecDepth 100000 in
set_option maxHeartbeats 4000000 in
theorem key_any {w : World} {g at_ : Nat} {s : ByteArray} {bad : Bool} (b_g_0 : SC w g s at_ bad) (hat : at_ + 8 ≤ s.size) (hs : s.size ≤ 1000000) :
    Calls Tryd.prog 23 #[.pointer (some ⟨g, 0, none⟩)] w fun e w' => e = .returned (.agg #[.int .i64 8, .string (mkS (unhex (bs (s.extract (at_ + 8) (at_ + 8 + runN hexB s (at_ + 8)))))), .int .i64 0, .int .i64 0]) ∧ SC w' g s (at_ + 8 + runN hexB s (at_ + 8)) (decide (¬ runN hexB s (at_ + 8) = 64)) ∧ Exc g w w' := by
  have hg := b_g_0.lt
  have hm := ext_len hexB (s := s) (at_ := at_ + 8) hat
  have hm2 := runN_le hexB s (at_ + 8) hat
  rcases Decidable.em (runN hexB s (at_ + 8) = 64) with hc | hc
  · have HD : Hid (decide (¬ runN hexB s (at_ + 8) = 64) = false) := Lib.hid (decide_eq_false (by omega))
    rw [HD.out]
    have i1 : (((runN hexB s (at_ + 8) : Nat) : Int) != 64) = false := by simp; omega
    clear hc
    go_enter Tryd.func23, Tryd.ntmps23
    have k_g := b_g_0.cell
    have f_g := b_g_0.free
    have l_g := b_g_0.lt
    go_wp2_with fail
    clear k_g f_g l_g
    have b_g_1 : SC (w.setCell ⟨g, 1, none⟩ (.int .i64 ((at_ : Int) + 8))) g s (at_ + 8) bad := b_g_0.set_ 1 (.int .i64 ((at_ : Int) + 8))
    have HE1 := Lib.hid (Exc.set (Exc.refl g w) 1 (.int .i64 ((at_ : Int) + 8)))
    clear b_g_0
    have z1 : (w.setCell ⟨g, 1, none⟩ (.int .i64 ((at_ : Int) + 8))).heap.size = w.heap.size := World.size_setCell _ _ _
    generalize w.setCell ⟨g, 1, none⟩ (.int .i64 ((at_ : Int) + 8)) = w1 at *
    generalize hW : World.alloc _ _ = w2
    obtain ⟨hb, hz⟩ := al1 hW
    have b_r_2 := n11 hW
    rw [z1] at b_r_2
    have b_g_2 := b_g_1.later hb
    have HE2 := Lib.hid (Exc.then HE1.out (Nat.le_of_lt hg) hb)
    clear b_g_1
    clear hW hb
    refine (run_any 33 hexB ent_hex hex_any b_g_2 hat hs).mono ?_
    rintro x w3 ⟨rfl, b_g_3, he⟩
    have b_r_3 := Exc.blk he (by omega) b_r_2
    have HE3 := Lib.hid (Exc.trans HE2.out he)
    clear b_g_2 b_r_2
    clear he
    have k_g := b_g_3.cell
    have f_g := b_g_3.free
    have l_g := b_g_3.lt
    have k_r := b_r_3.cell
    have f_r := b_r_3.free
    have l_r := b_r_3.lt
    go_wp2_with fail
    clear k_g f_g l_g k_r f_r l_r
    have b_g_4 : SC (w3.setCell ⟨g, 2, none⟩ (.bool false)) g s (at_ + 8 + runN hexB s (at_ + 8)) false := b_g_3.set_ 2 (.bool false)
    have b_r_4 := b_r_3.far (show _ ≠ g by omega) 2 (.bool false)
    have HE4 := Lib.hid (Exc.set HE3.out 2 (.bool false))
    clear b_g_3 b_r_3
    have z4 : (w3.setCell ⟨g, 2, none⟩ (.bool false)).heap.size = w3.heap.size := World.size_setCell _ _ _
    generalize w3.setCell ⟨g, 2, none⟩ (.bool false) = w4 at *
    refine (bytes_any (by rw [hm]; omega)).mono ?_
    rintro x w5 ⟨rfl, hb⟩
    have b_g_5 := b_g_4.later hb
    have b_r_5 := b_r_4.later hb
    have HE5 := Lib.hid (Exc.then HE4.out (Nat.le_of_lt hg) hb)
    clear b_g_4 b_r_4
    clear hb
    have k_g := b_g_5.cell
    have f_g := b_g_5.free
    have l_g := b_g_5.lt
    have k_r := b_r_5.cell
    have f_r := b_r_5.free
    have l_r := b_r_5.lt
    go_wp2_with fail
    clear k_g f_g l_g k_r f_r l_r
    obtain ⟨p1, p2, p3⟩ := put4e (b_r_5) (HE5.out) (show g ≤ _ by omega) (show w.heap.size ≤ _ by omega)
    refine bodyPost_ret (ret_wd rfl rfl p1 rfl) rfl ?_
    exact ⟨rfl, p3 _ _ (by omega) b_g_5, p2⟩
  · have HD : Hid (decide (¬ runN hexB s (at_ + 8) = 64) = true) := Lib.hid (decide_eq_true hc)
    rw [HD.out]
    have i1 : (((runN hexB s (at_ + 8) : Nat) : Int) != 64) = true := by simp; omega
    clear hc
    go_enter Tryd.func23, Tryd.ntmps23
    have k_g := b_g_0.cell
    have f_g := b_g_0.free
    have l_g := b_g_0.lt
    go_wp2_with fail
    clear k_g f_g l_g
    have b_g_1 : SC (w.setCell ⟨g, 1, none⟩ (.int .i64 ((at_ : Int) + 8))) g s (at_ + 8) bad := b_g_0.set_ 1 (.int .i64 ((at_ : Int) + 8))
    have HE1 := Lib.hid (Exc.set (Exc.refl g w) 1 (.int .i64 ((at_ : Int) + 8)))
    clear b_g_0
    have z1 : (w.setCell ⟨g, 1, none⟩ (.int .i64 ((at_ : Int) + 8))).heap.size = w.heap.size := World.size_setCell _ _ _
    generalize w.setCell ⟨g, 1, none⟩ (.int .i64 ((at_ : Int) + 8)) = w1 at *
    generalize hW : World.alloc _ _ = w2
    obtain ⟨hb, hz⟩ := al1 hW
    have b_r_2 := n11 hW
    rw [z1] at b_r_2
    have b_g_2 := b_g_1.later hb
    have HE2 := Lib.hid (Exc.then HE1.out (Nat.le_of_lt hg) hb)
    clear b_g_1
    clear hW hb
    refine (run_any 33 hexB ent_hex hex_any b_g_2 hat hs).mono ?_
    rintro x w3 ⟨rfl, b_g_3, he⟩
    have b_r_3 := Exc.blk he (by omega) b_r_2
    have HE3 := Lib.hid (Exc.trans HE2.out he)
    clear b_g_2 b_r_2
    clear he
    have k_g := b_g_3.cell
    have f_g := b_g_3.free
    have l_g := b_g_3.lt
    have k_r := b_r_3.cell
    have f_r := b_r_3.free
    have l_r := b_r_3.lt
    go_wp2_with fail
    clear k_g f_g l_g k_r f_r l_r
    have b_g_4 : SC (w3.setCell ⟨g, 2, none⟩ (.bool true)) g s (at_ + 8 + runN hexB s (at_ + 8)) true := b_g_3.set_ 2 (.bool true)
    have b_r_4 := b_r_3.far (show _ ≠ g by omega) 2 (.bool true)
    have HE4 := Lib.hid (Exc.set HE3.out 2 (.bool true))
    clear b_g_3 b_r_3
    have z4 : (w3.setCell ⟨g, 2, none⟩ (.bool true)).heap.size = w3.heap.size := World.size_setCell _ _ _
    generalize w3.setCell ⟨g, 2, none⟩ (.bool true) = w4 at *
    refine (bytes_any (by rw [hm]; omega)).mono ?_
    rintro x w5 ⟨rfl, hb⟩
    have b_g_5 := b_g_4.later hb
    have b_r_5 := b_r_4.later hb
    have HE5 := Lib.hid (Exc.then HE4.out (Nat.le_of_lt hg) hb)
    clear b_g_4 b_r_4
    clear hb
    have k_g := b_g_5.cell
    have f_g := b_g_5.free
    have l_g := b_g_5.lt
    have k_r := b_r_5.cell
    have f_r := b_r_5.free
    have l_r := b_r_5.lt
    go_wp2_with fail
    clear k_g f_g l_g k_r f_r l_r
    obtain ⟨p1, p2, p3⟩ := put4e (b_r_5) (HE5.out) (show g ≤ _ by omega) (show w.heap.size ≤ _ by omega)
    refine bodyPost_ret (ret_wd rfl rfl p1 rfl) rfl ?_
    exact ⟨rfl, p3 _ _ (by omega) b_g_5, p2⟩
end Go.Proofs.YtijajfelmekmiaaDoor
