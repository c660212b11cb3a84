/- name, word, variable of the scanner. -/
import Derived.Test.YtijajfelmekmiaaDoorLex2
set_option linter.unusedVariables false
set_option linter.unusedSimpArgs false
namespace Go.Proofs.YtijajfelmekmiaaDoor
open Go.ChangeShapes Go.WideShapes Go.ChangeAt Go.RowKit

/-- A word that is told: its cells lie in a block of the call's own. -/
theorem ret_wd {fn : Func} {tmps : Array Value} {p : Tmp} {g : Nat} {w : World} {cs : Array Value} (h : fn.results = #[.cell p 29]) (hp : tmps.getD p undef = .pointer (some ⟨g, 0, none⟩)) (hb : Blk w g cs) (hn : cs.size = 4) :
    (results fn tmps).run Tryd.prog w = .ok (.agg cs) w := by
  obtain ⟨T, hb⟩ := hb
  exact results_cell_row h tmps w g T cs (0, 0) _ hp hb Tryd.underlying29 rfl (by rw [hn]; kernel_rfl)

theorem Exc.setNew {g r : Nat} {a b : World} (h : Exc g a b) (hg : g ≤ r) (hr : a.heap.size ≤ r) (i : Nat) (v : Value) : Exc g a (b.setCell ⟨r, i, none⟩ v) :=
  ⟨h.1.setCell (p := ⟨r, i, none⟩) hg v, fun k hk hne => (Below.heap_setCell b ⟨r, i, none⟩ v k (by show k ≠ r; omega)).trans (h.2 k hk hne)⟩
theorem put4e {w w2 : World} {g r : Nat} {a0 a1 a2 a3 v0 v1 v2 v3 : Value} (h : Blk w2 r #[a0, a1, a2, a3]) (he : Exc g w w2) (hg : g ≤ r) (hr : w.heap.size ≤ r) :
    Blk ((((w2.setCell ⟨r, 0, none⟩ v0).setCell ⟨r, 1, none⟩ v1).setCell ⟨r, 2, none⟩ v2).setCell ⟨r, 3, none⟩ v3) r #[v0, v1, v2, v3] ∧
    Exc g w ((((w2.setCell ⟨r, 0, none⟩ v0).setCell ⟨r, 1, none⟩ v1).setCell ⟨r, 2, none⟩ v2).setCell ⟨r, 3, none⟩ v3) ∧
    (∀ (x : Nat) (vs : Array Value), x ≠ r → Blk w2 x vs → Blk ((((w2.setCell ⟨r, 0, none⟩ v0).setCell ⟨r, 1, none⟩ v1).setCell ⟨r, 2, none⟩ v2).setCell ⟨r, 3, none⟩ v3) x vs) :=
  ⟨(((h.set_ 0 v0).set_ 1 v1).set_ 2 v2).set_ 3 v3, (((he.setNew hg hr 0 v0).setNew hg hr 1 v1).setNew hg hr 2 v2).setNew hg hr 3 v3,
   fun x vs hx hb => (((hb.far hx 0 v0).far hx 1 v1).far hx 2 v2).far hx 3 v3⟩

theorem rest_r (s : ByteArray) (at_ : Nat) (h : at_ ≤ s.size) : ∃ r : ByteArray, s.extract at_ s.size = r ∧ r.size = s.size - at_ ∧ ∀ i (hi : i < r.size) (h2 : at_ + i < s.size), r[i] = s[at_ + i] := by
  refine ⟨_, rfl, by simp, fun i hi h2 => ?_⟩
  simp only [ByteArray.getElem_eq_getElem_data, ByteArray.data_extract, Array.getElem_extract]
theorem nil_of {r : ByteArray} (h : r.size = 0) : (r.toList == []) = true := by
  have : r.data.toList.length = 0 := by rw [← Lib.size_eq]; exact h
  rw [ByteArray.toList_eq, List.eq_nil_of_length_eq_zero this]; rfl
theorem not_nil {r : ByteArray} (h : 0 < r.size) : (r.toList == []) = false := by
  rw [ByteArray.toList_eq]
  have : 0 < r.data.toList.length := by rw [← Lib.size_eq]; omega
  cases h : r.data.toList with
  | nil => rw [h] at this; simp at this
  | cons => rfl
theorem u8_le (c : UInt8) : (c.toNat : Int) ≤ 255 := by have := c.toNat_lt; omega
theorem size_ext {s : ByteArray} {i j : Nat} (h : j ≤ s.size) : (s.extract i j).size = j - i := by simp; omega
theorem ext_len {s : ByteArray} {at_ : Nat} (p : Int → Bool) (h : at_ ≤ s.size) : (s.extract at_ (at_ + runN p s at_)).size = runN p s at_ := by
  rw [size_ext (runN_le p s at_ h)]; omega
theorem ent_named : ∀ args (w : World), (callFunc 41 args).run Tryd.prog w = .ok (.enter 41 args) w := ent Tryd.func41 (by kernel_rfl) rfl
theorem ent_blank : ∀ args (w : World), (callFunc 13 args).run Tryd.prog w = .ok (.enter 13 args) w := ent Tryd.func13 (by kernel_rfl) rfl
theorem ent_hex : ∀ args (w : World), (callFunc 33 args).run Tryd.prog w = .ok (.enter 33 args) w := ent Tryd.func33 (by kernel_rfl) rfl
theorem ent_digit : ∀ args (w : World), (callFunc 27 args).run Tryd.prog w = .ok (.enter 27 args) w := ent Tryd.func27 (by kernel_rfl) rfl
theorem ent_dated : ∀ args (w : World), (callFunc 36 args).run Tryd.prog w = .ok (.enter 36 args) w := ent Tryd.func36 (by kernel_rfl) rfl

set_option maxRecDepth 100000 in
set_option maxHeartbeats 4000000 in
theorem name_yes {w : World} {g at_ : Nat} {s : ByteArray} {bad : Bool} (b_g_0 : SC w g s at_ bad) (hat : at_ < s.size) (hl : letterB s[at_].toNat = true) (hs : s.size ≤ 1000000) :
    Calls Tryd.prog 35 #[.pointer (some ⟨g, 0, none⟩)] w fun e w' => e = .returned (.string (s.extract at_ (at_ + runN namedB s at_))) ∧ SC w' g s (at_ + runN namedB s at_) (decide (32 < (runN namedB s at_ : Int))) ∧ Exc g w w' := by
  have hg := b_g_0.lt
  have HL := Lib.hid hl
  clear hl
  obtain ⟨r, hr, hz, hi⟩ := rest_r s at_ (by omega)
  have hne := not_nil (r := r) (by omega)
  have h0 := Lib.hid (hi 0 (by omega) (by omega))
  have hm := ext_len namedB (s := s) (at_ := at_) (by omega)
  have hm2 := runN_le namedB s at_ (by omega)
  clear hi
  go_enter Tryd.func35, Tryd.ntmps35
  have k_g := b_g_0.cell
  have f_g := b_g_0.free
  have l_g := b_g_0.lt
  go_wp2_with fail
  clear k_g f_g l_g
  refine (rest_any b_g_0 (by omega) hs).mono ?_
  rintro x w1 ⟨rfl, hb⟩
  have b_g_1 := b_g_0.later hb
  have HE1 := Lib.hid (Exc.then (Exc.refl g w) (Nat.le_of_lt hg) hb)
  clear b_g_0
  clear hb
  rw [hr]
  have k_g := b_g_1.cell
  have f_g := b_g_1.free
  have l_g := b_g_1.lt
  go_wp2_with fail
  clear k_g f_g l_g
  refine (letter_any _ _ (by omega) (u8_le _)).mono ?_
  rintro x wz ⟨rfl, rfl⟩
  rw [show letterB (r[0].toNat : Int) = true by rw [h0.out]; exact HL.out]
  have k_g := b_g_1.cell
  have f_g := b_g_1.free
  have l_g := b_g_1.lt
  go_wp2_with fail
  clear k_g f_g l_g
  refine (run_any 41 namedB ent_named named_any b_g_1 (by omega) hs).mono ?_
  rintro x w2 ⟨rfl, b_g_2, he⟩
  have HE2 := Lib.hid (Exc.trans HE1.out he)
  clear b_g_1
  clear he
  have k_g := b_g_2.cell
  have f_g := b_g_2.free
  have l_g := b_g_2.lt
  go_wp2_with fail
  clear k_g f_g l_g
  have b_g_3 : SC (w2.setCell ⟨g, 2, none⟩ (.bool (decide (32 < (runN namedB s at_ : Int))))) g s (at_ + runN namedB s at_) (decide (32 < (runN namedB s at_ : Int))) := b_g_2.set_ 2 (.bool (decide (32 < (runN namedB s at_ : Int))))
  have HE3 := Lib.hid (Exc.set HE2.out 2 (.bool (decide (32 < (runN namedB s at_ : Int)))))
  clear b_g_2
  have z3 : (w2.setCell ⟨g, 2, none⟩ (.bool (decide (32 < (runN namedB s at_ : Int))))).heap.size = w2.heap.size := World.size_setCell _ _ _
  generalize w2.setCell ⟨g, 2, none⟩ (.bool (decide (32 < (runN namedB s at_ : Int)))) = w3 at *
  go_ret
  exact ⟨rfl, b_g_3, HE3.out⟩
/-- Does a letter stand here? -/
def nameHere (s : ByteArray) (at_ : Nat) : Bool := if h : at_ < s.size then letterB s[at_].toNat else false
theorem nameHere_yes {s : ByteArray} {at_ : Nat} (h : nameHere s at_ = true) : ∃ hat : at_ < s.size, letterB s[at_].toNat = true := by
  unfold nameHere at h; split at h
  · exact ⟨‹_›, h⟩
  · cases h
theorem nameHere_no {s : ByteArray} {at_ : Nat} (h : nameHere s at_ = false) (hat : at_ < s.size) : letterB s[at_].toNat = false := by
  unfold nameHere at h; rwa [dif_pos hat] at h

set_option maxRecDepth 100000 in
set_option maxHeartbeats 4000000 in
theorem name_no {w : World} {g at_ : Nat} {s : ByteArray} {bad : Bool} (b_g_0 : SC w g s at_ bad) (hat : at_ ≤ s.size) (hn : nameHere s at_ = false) (hs : s.size ≤ 1000000) :
    Calls Tryd.prog 35 #[.pointer (some ⟨g, 0, none⟩)] w fun e w' => e = .returned (.string ⟨#[]⟩) ∧ SC w' g s at_ true ∧ Exc g w w' := by
  have hg := b_g_0.lt
  obtain ⟨r, hr, hz, hi⟩ := rest_r s at_ hat
  rcases Nat.lt_or_ge at_ s.size with hlt | hge
  · have hl := nameHere_no hn hlt
    have HL := Lib.hid hl
    clear hl
    have hne := not_nil (r := r) (by omega)
    have h0 := Lib.hid (hi 0 (by omega) (by omega))
    clear hi
    go_enter Tryd.func35, Tryd.ntmps35
    have k_g := b_g_0.cell
    have f_g := b_g_0.free
    have l_g := b_g_0.lt
    go_wp2_with fail
    clear k_g f_g l_g
    refine (rest_any b_g_0 (by omega) hs).mono ?_
    rintro x w1 ⟨rfl, hb⟩
    have b_g_1 := b_g_0.later hb
    have HE1 := Lib.hid (Exc.then (Exc.refl g w) (Nat.le_of_lt hg) hb)
    clear b_g_0
    clear hb
    rw [hr]
    have k_g := b_g_1.cell
    have f_g := b_g_1.free
    have l_g := b_g_1.lt
    go_wp2_with fail
    clear k_g f_g l_g
    refine (letter_any _ _ (by omega) (u8_le _)).mono ?_
    rintro x wz ⟨rfl, rfl⟩
    rw [show letterB (r[0].toNat : Int) = false by rw [h0.out]; exact HL.out]
    have k_g := b_g_1.cell
    have f_g := b_g_1.free
    have l_g := b_g_1.lt
    go_wp2_with fail
    clear k_g f_g l_g
    have b_g_2 : SC (w1.setCell ⟨g, 2, none⟩ (.bool true)) g s at_ true := b_g_1.set_ 2 (.bool true)
    have HE2 := Lib.hid (Exc.set HE1.out 2 (.bool true))
    clear b_g_1
    have z2 : (w1.setCell ⟨g, 2, none⟩ (.bool true)).heap.size = w1.heap.size := World.size_setCell _ _ _
    generalize w1.setCell ⟨g, 2, none⟩ (.bool true) = w2 at *
    go_ret
    exact ⟨rfl, b_g_2, HE2.out⟩
  · have hne := nil_of (r := r) (by omega)
    clear hi
    go_enter Tryd.func35, Tryd.ntmps35
    have k_g := b_g_0.cell
    have f_g := b_g_0.free
    have l_g := b_g_0.lt
    go_wp2_with fail
    clear k_g f_g l_g
    refine (rest_any b_g_0 (by omega) hs).mono ?_
    rintro x w1 ⟨rfl, hb⟩
    have b_g_1 := b_g_0.later hb
    have HE1 := Lib.hid (Exc.then (Exc.refl g w) (Nat.le_of_lt hg) hb)
    clear b_g_0
    clear hb
    rw [hr]
    have k_g := b_g_1.cell
    have f_g := b_g_1.free
    have l_g := b_g_1.lt
    go_wp2_with fail
    clear k_g f_g l_g
    have b_g_2 : SC (w1.setCell ⟨g, 2, none⟩ (.bool true)) g s at_ true := b_g_1.set_ 2 (.bool true)
    have HE2 := Lib.hid (Exc.set HE1.out 2 (.bool true))
    clear b_g_1
    have z2 : (w1.setCell ⟨g, 2, none⟩ (.bool true)).heap.size = w1.heap.size := World.size_setCell _ _ _
    generalize w1.setCell ⟨g, 2, none⟩ (.bool true) = w2 at *
    go_ret
    exact ⟨rfl, b_g_2, HE2.out⟩

set_option maxRecDepth 100000 in
set_option maxHeartbeats 4000000 in
theorem word_yes {w : World} {g at_ : Nat} {s : ByteArray} {bad : Bool} (b_g_0 : SC w g s at_ bad) (hat : at_ < s.size) (hl : letterB s[at_].toNat = true) (hs : s.size ≤ 1000000) :
    Calls Tryd.prog 26 #[.pointer (some ⟨g, 0, none⟩)] w fun e w' => e = .returned (.agg #[.int .i64 1, .string (s.extract at_ (at_ + runN namedB s at_)), .int .i64 0, .int .i64 0]) ∧ SC w' g s (at_ + runN namedB s at_) (decide (32 < (runN namedB s at_ : Int))) ∧ Exc g w w' := by
  have hg := b_g_0.lt
  have HL := Lib.hid hl
  clear hl
  go_enter Tryd.func26, Tryd.ntmps26
  have k_g := b_g_0.cell
  have f_g := b_g_0.free
  have l_g := b_g_0.lt
  go_wp2_with fail
  clear k_g f_g l_g
  generalize hW : World.alloc _ _ = w1
  obtain ⟨hb, hz⟩ := al1 hW
  have b_r_1 := n11 hW
  have b_g_1 := b_g_0.later hb
  have HE1 := Lib.hid (Exc.then (Exc.refl g w) (Nat.le_of_lt hg) hb)
  clear b_g_0
  clear hW hb
  refine (name_yes b_g_1 hat HL.out hs).mono ?_
  rintro x w2 ⟨rfl, b_g_2, he⟩
  have b_r_2 := Exc.blk he (by omega) b_r_1
  have HE2 := Lib.hid (Exc.trans HE1.out he)
  clear b_g_1 b_r_1
  clear he
  have k_g := b_g_2.cell
  have f_g := b_g_2.free
  have l_g := b_g_2.lt
  have k_r := b_r_2.cell
  have f_r := b_r_2.free
  have l_r := b_r_2.lt
  go_wp2_with fail
  clear k_g f_g l_g k_r f_r l_r
  obtain ⟨p1, p2, p3⟩ := put4e (b_r_2) (HE2.out) (show g ≤ _ by omega) (show w.heap.size ≤ _ by omega)
  refine bodyPost_ret (ret_wd rfl rfl p1 rfl) rfl ?_
  exact ⟨rfl, p3 _ _ (by omega) b_g_2, p2⟩

set_option maxRecDepth 100000 in
set_option maxHeartbeats 4000000 in
theorem variable_yes {w : World} {g at_ : Nat} {s : ByteArray} {bad : Bool} (b_g_0 : SC w g s at_ bad) (hat : at_ + 1 < s.size) (hl : letterB s[at_ + 1].toNat = true) (hs : s.size ≤ 1000000) :
    Calls Tryd.prog 24 #[.pointer (some ⟨g, 0, none⟩)] w fun e w' => e = .returned (.agg #[.int .i64 2, .string (s.extract (at_ + 1) (at_ + 1 + runN namedB s (at_ + 1))), .int .i64 0, .int .i64 0]) ∧ SC w' g s (at_ + 1 + runN namedB s (at_ + 1)) (decide (32 < (runN namedB s (at_ + 1) : Int))) ∧ Exc g w w' := by
  have hg := b_g_0.lt
  have HL := Lib.hid hl
  clear hl
  go_enter Tryd.func24, Tryd.ntmps24
  have k_g := b_g_0.cell
  have f_g := b_g_0.free
  have l_g := b_g_0.lt
  go_wp2_with fail
  clear k_g f_g l_g
  have b_g_1 : SC (w.setCell ⟨g, 1, none⟩ (.int .i64 ((at_ : Int) + 1))) g s (at_ + 1) bad := b_g_0.set_ 1 (.int .i64 ((at_ : Int) + 1))
  have HE1 := Lib.hid (Exc.set (Exc.refl g w) 1 (.int .i64 ((at_ : Int) + 1)))
  clear b_g_0
  have z1 : (w.setCell ⟨g, 1, none⟩ (.int .i64 ((at_ : Int) + 1))).heap.size = w.heap.size := World.size_setCell _ _ _
  generalize w.setCell ⟨g, 1, none⟩ (.int .i64 ((at_ : Int) + 1)) = w1 at *
  generalize hW : World.alloc _ _ = w2
  obtain ⟨hb, hz⟩ := al1 hW
  have b_r_2 := n11 hW
  rw [z1] at b_r_2
  have b_g_2 := b_g_1.later hb
  have HE2 := Lib.hid (Exc.then HE1.out (Nat.le_of_lt hg) hb)
  clear b_g_1
  clear hW hb
  refine (name_yes b_g_2 hat HL.out hs).mono ?_
  rintro x w3 ⟨rfl, b_g_3, he⟩
  have b_r_3 := Exc.blk he (by omega) b_r_2
  have HE3 := Lib.hid (Exc.trans HE2.out he)
  clear b_g_2 b_r_2
  clear he
  have k_g := b_g_3.cell
  have f_g := b_g_3.free
  have l_g := b_g_3.lt
  have k_r := b_r_3.cell
  have f_r := b_r_3.free
  have l_r := b_r_3.lt
  go_wp2_with fail
  clear k_g f_g l_g k_r f_r l_r
  obtain ⟨p1, p2, p3⟩ := put4e (b_r_3) (HE3.out) (show g ≤ _ by omega) (show w.heap.size ≤ _ by omega)
  refine bodyPost_ret (ret_wd rfl rfl p1 rfl) rfl ?_
  exact ⟨rfl, p3 _ _ (by omega) b_g_3, p2⟩

set_option maxRecDepth 100000 in
set_option maxHeartbeats 4000000 in
theorem variable_no {w : World} {g at_ : Nat} {s : ByteArray} {bad : Bool} (b_g_0 : SC w g s at_ bad) (hat : at_ < s.size) (hn : nameHere s (at_ + 1) = false) (hs : s.size ≤ 1000000) :
    Calls Tryd.prog 24 #[.pointer (some ⟨g, 0, none⟩)] w fun e w' => e = .returned (.agg #[.int .i64 2, .string ⟨#[]⟩, .int .i64 0, .int .i64 0]) ∧ SC w' g s (at_ + 1) true ∧ Exc g w w' := by
  have hg := b_g_0.lt
  have HL := Lib.hid hn
  clear hn
  go_enter Tryd.func24, Tryd.ntmps24
  have k_g := b_g_0.cell
  have f_g := b_g_0.free
  have l_g := b_g_0.lt
  go_wp2_with fail
  clear k_g f_g l_g
  have b_g_1 : SC (w.setCell ⟨g, 1, none⟩ (.int .i64 ((at_ : Int) + 1))) g s (at_ + 1) bad := b_g_0.set_ 1 (.int .i64 ((at_ : Int) + 1))
  have HE1 := Lib.hid (Exc.set (Exc.refl g w) 1 (.int .i64 ((at_ : Int) + 1)))
  clear b_g_0
  have z1 : (w.setCell ⟨g, 1, none⟩ (.int .i64 ((at_ : Int) + 1))).heap.size = w.heap.size := World.size_setCell _ _ _
  generalize w.setCell ⟨g, 1, none⟩ (.int .i64 ((at_ : Int) + 1)) = w1 at *
  generalize hW : World.alloc _ _ = w2
  obtain ⟨hb, hz⟩ := al1 hW
  have b_r_2 := n11 hW
  rw [z1] at b_r_2
  have b_g_2 := b_g_1.later hb
  have HE2 := Lib.hid (Exc.then HE1.out (Nat.le_of_lt hg) hb)
  clear b_g_1
  clear hW hb
  refine (name_no b_g_2 (by omega) HL.out hs).mono ?_
  rintro x w3 ⟨rfl, b_g_3, he⟩
  have b_r_3 := Exc.blk he (by omega) b_r_2
  have HE3 := Lib.hid (Exc.trans HE2.out he)
  clear b_g_2 b_r_2
  clear he
  have k_g := b_g_3.cell
  have f_g := b_g_3.free
  have l_g := b_g_3.lt
  have k_r := b_r_3.cell
  have f_r := b_r_3.free
  have l_r := b_r_3.lt
  go_wp2_with fail
  clear k_g f_g l_g k_r f_r l_r
  obtain ⟨p1, p2, p3⟩ := put4e (b_r_3) (HE3.out) (show g ≤ _ by omega) (show w.heap.size ≤ _ by omega)
  refine bodyPost_ret (ret_wd rfl rfl p1 rfl) rfl ?_
  exact ⟨rfl, p3 _ _ (by omega) b_g_3, p2⟩
end Go.Proofs.YtijajfelmekmiaaDoor
