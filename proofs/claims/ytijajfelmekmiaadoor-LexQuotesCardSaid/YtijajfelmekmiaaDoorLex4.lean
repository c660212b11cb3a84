/- mark of the scanner. -/
import Derived.Test.YtijajfelmekmiaaDoorLex3
set_option linter.unusedVariables false
set_option linter.unusedSimpArgs false
namespace Go.Proofs.YtijajfelmekmiaaDoor
open Go.ChangeShapes Go.WideShapes Go.ChangeAt Go.RowKit

def marks2 : List Bytes := [[60, 45], [60, 61], [62, 61], [61, 61], [33, 61], [38, 38], [124, 124]]
def marks1 : Bytes := [40, 41, 91, 93, 123, 125, 44, 59, 46, 60, 62, 43, 45, 42, 47, 33, 38, 124, 94]
/-- The mark of two bytes that stands ahead. -/
def markF (r : Bytes) : Option Bytes := marks2.find? (fun m => Lib.hasPrefix r m)
/-- What a mark is: its text, where the scanner stands behind it, whether it is none. -/
def markR (s : ByteArray) (at_ : Nat) (bad : Bool) (S : ByteArray) (to : Nat) (bad' : Bool) : Prop :=
  match markF ((bs s).drop at_) with
  | some m => S = mkS m ∧ to = at_ + 2 ∧ bad' = bad
  | none => S = s.extract at_ (at_ + 1) ∧ to = at_ + 1 ∧ ∀ h : at_ < s.size, bad' = decide (Lib.indexByte marks1 s[at_] < 0)
theorem bs_ext (s : ByteArray) (i : Nat) : bs (s.extract i s.size) = (bs s).drop i := by
  simp [bs, List.take_of_length_le, bs_length]
theorem pre_len {r m : Bytes} (h : Lib.hasPrefix r m = true) : m.length ≤ r.length := by
  unfold Lib.hasPrefix at h
  exact (List.isPrefixOf_iff_prefix.1 h).length_le
theorem u8_back (c : UInt8) : ((c.toNat : Int).toNat).toUInt8 = c := by simp

set_option maxRecDepth 100000 in
set_option maxHeartbeats 8000000 in
theorem mark_any {w : World} {g at_ : Nat} {s : ByteArray} {bad : Bool} (b_g_0 : SC w g s at_ bad) (hat : at_ < s.size) (hs : s.size ≤ 1000000) :
    Calls Tryd.prog 19 #[.pointer (some ⟨g, 0, none⟩)] w fun e w' => ∃ S to bad', e = .returned (.agg #[.int .i64 7, .string S, .int .i64 0, .int .i64 0]) ∧ SC w' g s to bad' ∧ Exc g w w' ∧ markR s at_ bad S to bad' := by
  have hg := b_g_0.lt
  obtain ⟨r, hr, hz, hi⟩ := rest_r s at_ (by omega)
  have hbr : bs r = (bs s).drop at_ := by rw [← hr]; exact bs_ext s at_
  have HBR := Lib.hid hbr
  have hi0 := hi 0 (by omega) (by omega)
  have HI := Lib.hid hi0
  have hrl : (bs r).length = r.size := bs_length r
  have HRL := Lib.hid hrl
  clear hi hi0 hbr hrl
  go_enter Tryd.func19, Tryd.ntmps19
  have k_g := b_g_0.cell
  have f_g := b_g_0.free
  have l_g := b_g_0.lt
  go_wp2_with fail
  clear k_g f_g l_g
  generalize hW : World.alloc _ _ = w1
  obtain ⟨hb, hz⟩ := al1 hW
  have b_r_1 := n11 hW
  have b_g_1 := b_g_0.later hb
  have HE1 := Lib.hid (Exc.then (Exc.refl g w) (Nat.le_of_lt hg) hb)
  clear b_g_0
  clear hW hb
  refine (rest_any b_g_1 (by omega) hs).mono ?_
  rintro x w2 ⟨rfl, hb⟩
  have b_g_2 := b_g_1.later hb
  have b_r_2 := b_r_1.later hb
  have HE2 := Lib.hid (Exc.then HE1.out (Nat.le_of_lt hg) hb)
  clear b_g_1 b_r_1
  clear hb
  rw [hr]
  have k_g := b_g_2.cell
  have f_g := b_g_2.free
  have l_g := b_g_2.lt
  have k_r := b_r_2.cell
  have f_r := b_r_2.free
  have l_r := b_r_2.lt
  go_wp2_with fail
  go_loop [9] (fun i => ∃ k : Nat, k ≤ 7 ∧ i = .int .i64 k ∧ Hid (∀ j (h : j < marks2.length), j < k → Lib.hasPrefix (bs r) marks2[j] = false)) (fun i => 7 - (intOf i).toNat)
  case atStart => exact ⟨0, by omega, rfl, Lib.hid (fun j h h' => by omega)⟩
  case round =>
    obtain ⟨k, hk, rfl, HA⟩ := hrel
    have hk7 : k = 0 ∨ k = 1 ∨ k = 2 ∨ k = 3 ∨ k = 4 ∨ k = 5 ∨ k = 6 ∨ k = 7 := by omega
    clear hk
    rcases hk7 with rfl | rfl | rfl | rfl | rfl | rfl | rfl | rfl
    · have hT : ∀ w : World, (Instr.index 54 (.agg #[.string ⟨#[60, 45]⟩, .string ⟨#[60, 61]⟩, .string ⟨#[62, 61]⟩, .string ⟨#[61, 61]⟩, .string ⟨#[33, 61]⟩, .string ⟨#[38, 38]⟩, .string ⟨#[124, 124]⟩]) (.int .i64 0)).run Tryd.prog w = .ok (.string ⟨#[60, 45]⟩) w := fun w => by kernel_rfl
      have hq : Lib.hasPrefix (bs r) [60, 45] = true ∨ Lib.hasPrefix (bs r) [60, 45] = false := by cases Lib.hasPrefix (bs r) [60, 45] <;> simp
      rcases hq with hq | hq
      all_goals
        have HQ := Lib.hid hq
        clear hq
        go_wp2_with fail
        refine (Tryd.strings_HasPrefix r ⟨#[60, 45]⟩ _).mono ?_
        rintro x wz ⟨rfl, hw⟩
        replace hw := hw.symm
        subst hw
        rw [show Lib.hasPrefix r.data.toList (ByteArray.data ⟨#[60, 45]⟩).toList = _ from HQ.out]
      · have hlen := pre_len HQ.out
        have hsz2 : at_ + 2 ≤ s.size := by have h := HRL.out; simp only [List.length_cons, List.length_nil] at hlen; omega
        clear hlen
        go_wp2_with fail
        clear k_g f_g l_g k_r f_r l_r
        have b_g_3 : SC (w2.setCell ⟨g, 1, none⟩ (.int .i64 ((at_ : Int) + 2))) g s (at_ + 2) bad := b_g_2.set_ 1 (.int .i64 ((at_ : Int) + 2))
        have b_r_3 := b_r_2.far (show _ ≠ g by omega) 1 (.int .i64 ((at_ : Int) + 2))
        have HE3 := Lib.hid (Exc.set HE2.out 1 (.int .i64 ((at_ : Int) + 2)))
        clear b_g_2 b_r_2
        have z3 : (w2.setCell ⟨g, 1, none⟩ (.int .i64 ((at_ : Int) + 2))).heap.size = w2.heap.size := World.size_setCell _ _ _
        generalize w2.setCell ⟨g, 1, none⟩ (.int .i64 ((at_ : Int) + 2)) = w3 at *
        obtain ⟨p1, p2, p3⟩ := put4e (b_r_3) (HE3.out) (show g ≤ _ by omega) (show w.heap.size ≤ _ by omega)
        refine bodyPost_ret (ret_wd rfl rfl p1 rfl) rfl ?_
        refine ⟨_, _, _, rfl, p3 _ _ (by omega) b_g_3, p2, ?_⟩
        have hm : markF ((bs s).drop at_) = some [60, 45] := by
          rw [← HBR.out]
          have h := HA.out
          unfold markF marks2
          simp only [List.find?_cons, HQ.out]
        unfold markR
        rw [hm]
        exact ⟨rfl, rfl, rfl⟩
      · go_wp2_with fail
        go_round
        case rel => exact ⟨1, by omega, by go_num, Lib.hid (fun j h h' => by
          rcases Nat.lt_or_ge j 0 with h1 | h1
          · exact HA.out j h h1
          · obtain rfl : j = 0 := by omega
            exact HQ.out)⟩
        case measure => simp [intOf]
    · have hT : ∀ w : World, (Instr.index 54 (.agg #[.string ⟨#[60, 45]⟩, .string ⟨#[60, 61]⟩, .string ⟨#[62, 61]⟩, .string ⟨#[61, 61]⟩, .string ⟨#[33, 61]⟩, .string ⟨#[38, 38]⟩, .string ⟨#[124, 124]⟩]) (.int .i64 1)).run Tryd.prog w = .ok (.string ⟨#[60, 61]⟩) w := fun w => by kernel_rfl
      have hq : Lib.hasPrefix (bs r) [60, 61] = true ∨ Lib.hasPrefix (bs r) [60, 61] = false := by cases Lib.hasPrefix (bs r) [60, 61] <;> simp
      rcases hq with hq | hq
      all_goals
        have HQ := Lib.hid hq
        clear hq
        go_wp2_with fail
        refine (Tryd.strings_HasPrefix r ⟨#[60, 61]⟩ _).mono ?_
        rintro x wz ⟨rfl, hw⟩
        replace hw := hw.symm
        subst hw
        rw [show Lib.hasPrefix r.data.toList (ByteArray.data ⟨#[60, 61]⟩).toList = _ from HQ.out]
      · have hlen := pre_len HQ.out
        have hsz2 : at_ + 2 ≤ s.size := by have h := HRL.out; simp only [List.length_cons, List.length_nil] at hlen; omega
        clear hlen
        go_wp2_with fail
        clear k_g f_g l_g k_r f_r l_r
        have b_g_3 : SC (w2.setCell ⟨g, 1, none⟩ (.int .i64 ((at_ : Int) + 2))) g s (at_ + 2) bad := b_g_2.set_ 1 (.int .i64 ((at_ : Int) + 2))
        have b_r_3 := b_r_2.far (show _ ≠ g by omega) 1 (.int .i64 ((at_ : Int) + 2))
        have HE3 := Lib.hid (Exc.set HE2.out 1 (.int .i64 ((at_ : Int) + 2)))
        clear b_g_2 b_r_2
        have z3 : (w2.setCell ⟨g, 1, none⟩ (.int .i64 ((at_ : Int) + 2))).heap.size = w2.heap.size := World.size_setCell _ _ _
        generalize w2.setCell ⟨g, 1, none⟩ (.int .i64 ((at_ : Int) + 2)) = w3 at *
        obtain ⟨p1, p2, p3⟩ := put4e (b_r_3) (HE3.out) (show g ≤ _ by omega) (show w.heap.size ≤ _ by omega)
        refine bodyPost_ret (ret_wd rfl rfl p1 rfl) rfl ?_
        refine ⟨_, _, _, rfl, p3 _ _ (by omega) b_g_3, p2, ?_⟩
        have hm : markF ((bs s).drop at_) = some [60, 61] := by
          rw [← HBR.out]
          have h := HA.out
          unfold markF marks2
          simp only [List.find?_cons, HQ.out, show Lib.hasPrefix (bs r) [60, 45] = false from h 0 (by decide) (by omega)]
        unfold markR
        rw [hm]
        exact ⟨rfl, rfl, rfl⟩
      · go_wp2_with fail
        go_round
        case rel => exact ⟨2, by omega, by go_num, Lib.hid (fun j h h' => by
          rcases Nat.lt_or_ge j 1 with h1 | h1
          · exact HA.out j h h1
          · obtain rfl : j = 1 := by omega
            exact HQ.out)⟩
        case measure => simp [intOf]
    · have hT : ∀ w : World, (Instr.index 54 (.agg #[.string ⟨#[60, 45]⟩, .string ⟨#[60, 61]⟩, .string ⟨#[62, 61]⟩, .string ⟨#[61, 61]⟩, .string ⟨#[33, 61]⟩, .string ⟨#[38, 38]⟩, .string ⟨#[124, 124]⟩]) (.int .i64 2)).run Tryd.prog w = .ok (.string ⟨#[62, 61]⟩) w := fun w => by kernel_rfl
      have hq : Lib.hasPrefix (bs r) [62, 61] = true ∨ Lib.hasPrefix (bs r) [62, 61] = false := by cases Lib.hasPrefix (bs r) [62, 61] <;> simp
      rcases hq with hq | hq
      all_goals
        have HQ := Lib.hid hq
        clear hq
        go_wp2_with fail
        refine (Tryd.strings_HasPrefix r ⟨#[62, 61]⟩ _).mono ?_
        rintro x wz ⟨rfl, hw⟩
        replace hw := hw.symm
        subst hw
        rw [show Lib.hasPrefix r.data.toList (ByteArray.data ⟨#[62, 61]⟩).toList = _ from HQ.out]
      · have hlen := pre_len HQ.out
        have hsz2 : at_ + 2 ≤ s.size := by have h := HRL.out; simp only [List.length_cons, List.length_nil] at hlen; omega
        clear hlen
        go_wp2_with fail
        clear k_g f_g l_g k_r f_r l_r
        have b_g_3 : SC (w2.setCell ⟨g, 1, none⟩ (.int .i64 ((at_ : Int) + 2))) g s (at_ + 2) bad := b_g_2.set_ 1 (.int .i64 ((at_ : Int) + 2))
        have b_r_3 := b_r_2.far (show _ ≠ g by omega) 1 (.int .i64 ((at_ : Int) + 2))
        have HE3 := Lib.hid (Exc.set HE2.out 1 (.int .i64 ((at_ : Int) + 2)))
        clear b_g_2 b_r_2
        have z3 : (w2.setCell ⟨g, 1, none⟩ (.int .i64 ((at_ : Int) + 2))).heap.size = w2.heap.size := World.size_setCell _ _ _
        generalize w2.setCell ⟨g, 1, none⟩ (.int .i64 ((at_ : Int) + 2)) = w3 at *
        obtain ⟨p1, p2, p3⟩ := put4e (b_r_3) (HE3.out) (show g ≤ _ by omega) (show w.heap.size ≤ _ by omega)
        refine bodyPost_ret (ret_wd rfl rfl p1 rfl) rfl ?_
        refine ⟨_, _, _, rfl, p3 _ _ (by omega) b_g_3, p2, ?_⟩
        have hm : markF ((bs s).drop at_) = some [62, 61] := by
          rw [← HBR.out]
          have h := HA.out
          unfold markF marks2
          simp only [List.find?_cons, HQ.out, show Lib.hasPrefix (bs r) [60, 45] = false from h 0 (by decide) (by omega), show Lib.hasPrefix (bs r) [60, 61] = false from h 1 (by decide) (by omega)]
        unfold markR
        rw [hm]
        exact ⟨rfl, rfl, rfl⟩
      · go_wp2_with fail
        go_round
        case rel => exact ⟨3, by omega, by go_num, Lib.hid (fun j h h' => by
          rcases Nat.lt_or_ge j 2 with h1 | h1
          · exact HA.out j h h1
          · obtain rfl : j = 2 := by omega
            exact HQ.out)⟩
        case measure => simp [intOf]
    · have hT : ∀ w : World, (Instr.index 54 (.agg #[.string ⟨#[60, 45]⟩, .string ⟨#[60, 61]⟩, .string ⟨#[62, 61]⟩, .string ⟨#[61, 61]⟩, .string ⟨#[33, 61]⟩, .string ⟨#[38, 38]⟩, .string ⟨#[124, 124]⟩]) (.int .i64 3)).run Tryd.prog w = .ok (.string ⟨#[61, 61]⟩) w := fun w => by kernel_rfl
      have hq : Lib.hasPrefix (bs r) [61, 61] = true ∨ Lib.hasPrefix (bs r) [61, 61] = false := by cases Lib.hasPrefix (bs r) [61, 61] <;> simp
      rcases hq with hq | hq
      all_goals
        have HQ := Lib.hid hq
        clear hq
        go_wp2_with fail
        refine (Tryd.strings_HasPrefix r ⟨#[61, 61]⟩ _).mono ?_
        rintro x wz ⟨rfl, hw⟩
        replace hw := hw.symm
        subst hw
        rw [show Lib.hasPrefix r.data.toList (ByteArray.data ⟨#[61, 61]⟩).toList = _ from HQ.out]
      · have hlen := pre_len HQ.out
        have hsz2 : at_ + 2 ≤ s.size := by have h := HRL.out; simp only [List.length_cons, List.length_nil] at hlen; omega
        clear hlen
        go_wp2_with fail
        clear k_g f_g l_g k_r f_r l_r
        have b_g_3 : SC (w2.setCell ⟨g, 1, none⟩ (.int .i64 ((at_ : Int) + 2))) g s (at_ + 2) bad := b_g_2.set_ 1 (.int .i64 ((at_ : Int) + 2))
        have b_r_3 := b_r_2.far (show _ ≠ g by omega) 1 (.int .i64 ((at_ : Int) + 2))
        have HE3 := Lib.hid (Exc.set HE2.out 1 (.int .i64 ((at_ : Int) + 2)))
        clear b_g_2 b_r_2
        have z3 : (w2.setCell ⟨g, 1, none⟩ (.int .i64 ((at_ : Int) + 2))).heap.size = w2.heap.size := World.size_setCell _ _ _
        generalize w2.setCell ⟨g, 1, none⟩ (.int .i64 ((at_ : Int) + 2)) = w3 at *
        obtain ⟨p1, p2, p3⟩ := put4e (b_r_3) (HE3.out) (show g ≤ _ by omega) (show w.heap.size ≤ _ by omega)
        refine bodyPost_ret (ret_wd rfl rfl p1 rfl) rfl ?_
        refine ⟨_, _, _, rfl, p3 _ _ (by omega) b_g_3, p2, ?_⟩
        have hm : markF ((bs s).drop at_) = some [61, 61] := by
          rw [← HBR.out]
          have h := HA.out
          unfold markF marks2
          simp only [List.find?_cons, HQ.out, show Lib.hasPrefix (bs r) [60, 45] = false from h 0 (by decide) (by omega), show Lib.hasPrefix (bs r) [60, 61] = false from h 1 (by decide) (by omega), show Lib.hasPrefix (bs r) [62, 61] = false from h 2 (by decide) (by omega)]
        unfold markR
        rw [hm]
        exact ⟨rfl, rfl, rfl⟩
      · go_wp2_with fail
        go_round
        case rel => exact ⟨4, by omega, by go_num, Lib.hid (fun j h h' => by
          rcases Nat.lt_or_ge j 3 with h1 | h1
          · exact HA.out j h h1
          · obtain rfl : j = 3 := by omega
            exact HQ.out)⟩
        case measure => simp [intOf]
    · have hT : ∀ w : World, (Instr.index 54 (.agg #[.string ⟨#[60, 45]⟩, .string ⟨#[60, 61]⟩, .string ⟨#[62, 61]⟩, .string ⟨#[61, 61]⟩, .string ⟨#[33, 61]⟩, .string ⟨#[38, 38]⟩, .string ⟨#[124, 124]⟩]) (.int .i64 4)).run Tryd.prog w = .ok (.string ⟨#[33, 61]⟩) w := fun w => by kernel_rfl
      have hq : Lib.hasPrefix (bs r) [33, 61] = true ∨ Lib.hasPrefix (bs r) [33, 61] = false := by cases Lib.hasPrefix (bs r) [33, 61] <;> simp
      rcases hq with hq | hq
      all_goals
        have HQ := Lib.hid hq
        clear hq
        go_wp2_with fail
        refine (Tryd.strings_HasPrefix r ⟨#[33, 61]⟩ _).mono ?_
        rintro x wz ⟨rfl, hw⟩
        replace hw := hw.symm
        subst hw
        rw [show Lib.hasPrefix r.data.toList (ByteArray.data ⟨#[33, 61]⟩).toList = _ from HQ.out]
      · have hlen := pre_len HQ.out
        have hsz2 : at_ + 2 ≤ s.size := by have h := HRL.out; simp only [List.length_cons, List.length_nil] at hlen; omega
        clear hlen
        go_wp2_with fail
        clear k_g f_g l_g k_r f_r l_r
        have b_g_3 : SC (w2.setCell ⟨g, 1, none⟩ (.int .i64 ((at_ : Int) + 2))) g s (at_ + 2) bad := b_g_2.set_ 1 (.int .i64 ((at_ : Int) + 2))
        have b_r_3 := b_r_2.far (show _ ≠ g by omega) 1 (.int .i64 ((at_ : Int) + 2))
        have HE3 := Lib.hid (Exc.set HE2.out 1 (.int .i64 ((at_ : Int) + 2)))
        clear b_g_2 b_r_2
        have z3 : (w2.setCell ⟨g, 1, none⟩ (.int .i64 ((at_ : Int) + 2))).heap.size = w2.heap.size := World.size_setCell _ _ _
        generalize w2.setCell ⟨g, 1, none⟩ (.int .i64 ((at_ : Int) + 2)) = w3 at *
        obtain ⟨p1, p2, p3⟩ := put4e (b_r_3) (HE3.out) (show g ≤ _ by omega) (show w.heap.size ≤ _ by omega)
        refine bodyPost_ret (ret_wd rfl rfl p1 rfl) rfl ?_
        refine ⟨_, _, _, rfl, p3 _ _ (by omega) b_g_3, p2, ?_⟩
        have hm : markF ((bs s).drop at_) = some [33, 61] := by
          rw [← HBR.out]
          have h := HA.out
          unfold markF marks2
          simp only [List.find?_cons, HQ.out, show Lib.hasPrefix (bs r) [60, 45] = false from h 0 (by decide) (by omega), show Lib.hasPrefix (bs r) [60, 61] = false from h 1 (by decide) (by omega), show Lib.hasPrefix (bs r) [62, 61] = false from h 2 (by decide) (by omega), show Lib.hasPrefix (bs r) [61, 61] = false from h 3 (by decide) (by omega)]
        unfold markR
        rw [hm]
        exact ⟨rfl, rfl, rfl⟩
      · go_wp2_with fail
        go_round
        case rel => exact ⟨5, by omega, by go_num, Lib.hid (fun j h h' => by
          rcases Nat.lt_or_ge j 4 with h1 | h1
          · exact HA.out j h h1
          · obtain rfl : j = 4 := by omega
            exact HQ.out)⟩
        case measure => simp [intOf]
    · have hT : ∀ w : World, (Instr.index 54 (.agg #[.string ⟨#[60, 45]⟩, .string ⟨#[60, 61]⟩, .string ⟨#[62, 61]⟩, .string ⟨#[61, 61]⟩, .string ⟨#[33, 61]⟩, .string ⟨#[38, 38]⟩, .string ⟨#[124, 124]⟩]) (.int .i64 5)).run Tryd.prog w = .ok (.string ⟨#[38, 38]⟩) w := fun w => by kernel_rfl
      have hq : Lib.hasPrefix (bs r) [38, 38] = true ∨ Lib.hasPrefix (bs r) [38, 38] = false := by cases Lib.hasPrefix (bs r) [38, 38] <;> simp
      rcases hq with hq | hq
      all_goals
        have HQ := Lib.hid hq
        clear hq
        go_wp2_with fail
        refine (Tryd.strings_HasPrefix r ⟨#[38, 38]⟩ _).mono ?_
        rintro x wz ⟨rfl, hw⟩
        replace hw := hw.symm
        subst hw
        rw [show Lib.hasPrefix r.data.toList (ByteArray.data ⟨#[38, 38]⟩).toList = _ from HQ.out]
      · have hlen := pre_len HQ.out
        have hsz2 : at_ + 2 ≤ s.size := by have h := HRL.out; simp only [List.length_cons, List.length_nil] at hlen; omega
        clear hlen
        go_wp2_with fail
        clear k_g f_g l_g k_r f_r l_r
        have b_g_3 : SC (w2.setCell ⟨g, 1, none⟩ (.int .i64 ((at_ : Int) + 2))) g s (at_ + 2) bad := b_g_2.set_ 1 (.int .i64 ((at_ : Int) + 2))
        have b_r_3 := b_r_2.far (show _ ≠ g by omega) 1 (.int .i64 ((at_ : Int) + 2))
        have HE3 := Lib.hid (Exc.set HE2.out 1 (.int .i64 ((at_ : Int) + 2)))
        clear b_g_2 b_r_2
        have z3 : (w2.setCell ⟨g, 1, none⟩ (.int .i64 ((at_ : Int) + 2))).heap.size = w2.heap.size := World.size_setCell _ _ _
        generalize w2.setCell ⟨g, 1, none⟩ (.int .i64 ((at_ : Int) + 2)) = w3 at *
        obtain ⟨p1, p2, p3⟩ := put4e (b_r_3) (HE3.out) (show g ≤ _ by omega) (show w.heap.size ≤ _ by omega)
        refine bodyPost_ret (ret_wd rfl rfl p1 rfl) rfl ?_
        refine ⟨_, _, _, rfl, p3 _ _ (by omega) b_g_3, p2, ?_⟩
        have hm : markF ((bs s).drop at_) = some [38, 38] := by
          rw [← HBR.out]
          have h := HA.out
          unfold markF marks2
          simp only [List.find?_cons, HQ.out, show Lib.hasPrefix (bs r) [60, 45] = false from h 0 (by decide) (by omega), show Lib.hasPrefix (bs r) [60, 61] = false from h 1 (by decide) (by omega), show Lib.hasPrefix (bs r) [62, 61] = false from h 2 (by decide) (by omega), show Lib.hasPrefix (bs r) [61, 61] = false from h 3 (by decide) (by omega), show Lib.hasPrefix (bs r) [33, 61] = false from h 4 (by decide) (by omega)]
        unfold markR
        rw [hm]
        exact ⟨rfl, rfl, rfl⟩
      · go_wp2_with fail
        go_round
        case rel => exact ⟨6, by omega, by go_num, Lib.hid (fun j h h' => by
          rcases Nat.lt_or_ge j 5 with h1 | h1
          · exact HA.out j h h1
          · obtain rfl : j = 5 := by omega
            exact HQ.out)⟩
        case measure => simp [intOf]
    · have hT : ∀ w : World, (Instr.index 54 (.agg #[.string ⟨#[60, 45]⟩, .string ⟨#[60, 61]⟩, .string ⟨#[62, 61]⟩, .string ⟨#[61, 61]⟩, .string ⟨#[33, 61]⟩, .string ⟨#[38, 38]⟩, .string ⟨#[124, 124]⟩]) (.int .i64 6)).run Tryd.prog w = .ok (.string ⟨#[124, 124]⟩) w := fun w => by kernel_rfl
      have hq : Lib.hasPrefix (bs r) [124, 124] = true ∨ Lib.hasPrefix (bs r) [124, 124] = false := by cases Lib.hasPrefix (bs r) [124, 124] <;> simp
      rcases hq with hq | hq
      all_goals
        have HQ := Lib.hid hq
        clear hq
        go_wp2_with fail
        refine (Tryd.strings_HasPrefix r ⟨#[124, 124]⟩ _).mono ?_
        rintro x wz ⟨rfl, hw⟩
        replace hw := hw.symm
        subst hw
        rw [show Lib.hasPrefix r.data.toList (ByteArray.data ⟨#[124, 124]⟩).toList = _ from HQ.out]
      · have hlen := pre_len HQ.out
        have hsz2 : at_ + 2 ≤ s.size := by have h := HRL.out; simp only [List.length_cons, List.length_nil] at hlen; omega
        clear hlen
        go_wp2_with fail
        clear k_g f_g l_g k_r f_r l_r
        have b_g_3 : SC (w2.setCell ⟨g, 1, none⟩ (.int .i64 ((at_ : Int) + 2))) g s (at_ + 2) bad := b_g_2.set_ 1 (.int .i64 ((at_ : Int) + 2))
        have b_r_3 := b_r_2.far (show _ ≠ g by omega) 1 (.int .i64 ((at_ : Int) + 2))
        have HE3 := Lib.hid (Exc.set HE2.out 1 (.int .i64 ((at_ : Int) + 2)))
        clear b_g_2 b_r_2
        have z3 : (w2.setCell ⟨g, 1, none⟩ (.int .i64 ((at_ : Int) + 2))).heap.size = w2.heap.size := World.size_setCell _ _ _
        generalize w2.setCell ⟨g, 1, none⟩ (.int .i64 ((at_ : Int) + 2)) = w3 at *
        obtain ⟨p1, p2, p3⟩ := put4e (b_r_3) (HE3.out) (show g ≤ _ by omega) (show w.heap.size ≤ _ by omega)
        refine bodyPost_ret (ret_wd rfl rfl p1 rfl) rfl ?_
        refine ⟨_, _, _, rfl, p3 _ _ (by omega) b_g_3, p2, ?_⟩
        have hm : markF ((bs s).drop at_) = some [124, 124] := by
          rw [← HBR.out]
          have h := HA.out
          unfold markF marks2
          simp only [List.find?_cons, HQ.out, show Lib.hasPrefix (bs r) [60, 45] = false from h 0 (by decide) (by omega), show Lib.hasPrefix (bs r) [60, 61] = false from h 1 (by decide) (by omega), show Lib.hasPrefix (bs r) [62, 61] = false from h 2 (by decide) (by omega), show Lib.hasPrefix (bs r) [61, 61] = false from h 3 (by decide) (by omega), show Lib.hasPrefix (bs r) [33, 61] = false from h 4 (by decide) (by omega), show Lib.hasPrefix (bs r) [38, 38] = false from h 5 (by decide) (by omega)]
        unfold markR
        rw [hm]
        exact ⟨rfl, rfl, rfl⟩
      · go_wp2_with fail
        go_round
        case rel => exact ⟨7, by omega, by go_num, Lib.hid (fun j h h' => by
          rcases Nat.lt_or_ge j 6 with h1 | h1
          · exact HA.out j h h1
          · obtain rfl : j = 6 := by omega
            exact HQ.out)⟩
        case measure => simp [intOf]
    · have HC := Lib.hid (show decide (Lib.indexByte marks1 (r[0].toNat : Int).toNat.toUInt8 < 0) = decide (Lib.indexByte marks1 s[at_] < 0) by rw [u8_back, HI.out]; rfl)
      go_wp2_with fail
      refine (Tryd.strings_IndexByte _ _ _).mono ?_
      rintro x wz ⟨rfl, hw⟩
      replace hw := hw.symm
      subst hw
      go_wp2_with fail
      generalize hbb : decide (Lib.indexByte [40, 41, 91, 93, 123, 125, 44, 59, 46, 60, 62, 43, 45, 42, 47, 33, 38, 124, 94] r[0] < 0) = bb
      clear k_g f_g l_g k_r f_r l_r
      have b_g_3 : SC (w2.setCell ⟨g, 2, none⟩ (.bool bb)) g s at_ bb := b_g_2.set_ 2 (.bool bb)
      have b_r_3 := b_r_2.far (show _ ≠ g by omega) 2 (.bool bb)
      have HE3 := Lib.hid (Exc.set HE2.out 2 (.bool bb))
      clear b_g_2 b_r_2
      have z3 : (w2.setCell ⟨g, 2, none⟩ (.bool bb)).heap.size = w2.heap.size := World.size_setCell _ _ _
      generalize w2.setCell ⟨g, 2, none⟩ (.bool bb) = w3 at *
      have b_g_4 : SC (w3.setCell ⟨g, 1, none⟩ (.int .i64 ((at_ : Int) + 1))) g s (at_ + 1) bb := b_g_3.set_ 1 (.int .i64 ((at_ : Int) + 1))
      have b_r_4 := b_r_3.far (show _ ≠ g by omega) 1 (.int .i64 ((at_ : Int) + 1))
      have HE4 := Lib.hid (Exc.set HE3.out 1 (.int .i64 ((at_ : Int) + 1)))
      clear b_g_3 b_r_3
      have z4 : (w3.setCell ⟨g, 1, none⟩ (.int .i64 ((at_ : Int) + 1))).heap.size = w3.heap.size := World.size_setCell _ _ _
      generalize w3.setCell ⟨g, 1, none⟩ (.int .i64 ((at_ : Int) + 1)) = w4 at *
      obtain ⟨p1, p2, p3⟩ := put4e (b_r_4) (HE4.out) (show g ≤ _ by omega) (show w.heap.size ≤ _ by omega)
      refine bodyPost_ret (ret_wd rfl rfl p1 rfl) rfl ?_
      refine ⟨_, _, _, rfl, p3 _ _ (by omega) b_g_4, p2, ?_⟩
      have hm : markF ((bs s).drop at_) = none := by
        rw [← HBR.out]
        have h := HA.out
        unfold markF marks2
        simp only [List.find?_cons, show Lib.hasPrefix (bs r) [60, 45] = false from h 0 (by decide) (by omega), show Lib.hasPrefix (bs r) [60, 61] = false from h 1 (by decide) (by omega), show Lib.hasPrefix (bs r) [62, 61] = false from h 2 (by decide) (by omega), show Lib.hasPrefix (bs r) [61, 61] = false from h 3 (by decide) (by omega), show Lib.hasPrefix (bs r) [33, 61] = false from h 4 (by decide) (by omega), show Lib.hasPrefix (bs r) [38, 38] = false from h 5 (by decide) (by omega), show Lib.hasPrefix (bs r) [124, 124] = false from h 6 (by decide) (by omega), List.find?_nil]
      unfold markR
      rw [hm]
      refine ⟨?_, rfl, fun hh => ?_⟩
      · rw [← hr]
        apply ByteArray.ext
        simp
        rw [Nat.min_eq_left (by omega)]
      · rw [← hbb, HI.out]; rfl
end Go.Proofs.YtijajfelmekmiaaDoor
