/- number of the scanner. -/
import Derived.Test.YtijajfelmekmiaaDoorLex6
import Derived.Test.YtijajfelmekmiaaDoorDate2
import Derived.Lib.AtoiErrMem
set_option linter.unusedVariables false
set_option linter.unusedSimpArgs false
namespace Go.Proofs.YtijajfelmekmiaaDoor
open Go.ChangeShapes Go.WideShapes Go.ChangeAt Go.RowKit

/-- The two errors of strconv are there. -/
def ErrOk (w : World) : Prop := (∃ ev, w.cell? ⟨1, 0, none⟩ = some ev ∧ (ev = .nilIface ∨ ∃ te pe, ev = .iface te pe)) ∧ (∃ ev, w.cell? ⟨2, 0, none⟩ = some ev ∧ (ev = .nilIface ∨ ∃ te pe, ev = .iface te pe))
theorem ErrOk.keep {w w' : World} {g : Nat} (h : ErrOk w) (hb : Below g w w') (hg : 2 < g) : ErrOk w' := by
  obtain ⟨⟨e1, h1, k1⟩, ⟨e2, h2, k2⟩⟩ := h
  exact ⟨⟨e1, (hb.cell (p := ⟨1, 0, none⟩) (by show 1 < g; omega)).trans h1, k1⟩, ⟨e2, (hb.cell (p := ⟨2, 0, none⟩) (by show 2 < g; omega)).trans h2, k2⟩⟩
theorem parse_ok {S : ByteArray} {w : World} {u : Nat} {a : Int} (hs : S.size ≤ 1000000) (h : Lib.parseUintB 64 (bs S) = .ok u) (ha : a = (u : Int)) :
    Calls Tryd.prog 38 #[.string S, .int .i64 10, .int .i64 64] w fun e w' => e = .returned (.tuple #[.int .u64 a, .nilIface]) ∧ Below w.heap.size w w' :=
  (Tryd.strconv_ParseUint_10_at64_ok S (by omega) u h w).mono fun e w' ⟨he, hw⟩ => by
    refine ⟨by rw [he, ha], ?_⟩
    rcases hw with rfl | rfl
    · exact Below.refl _ _
    · exact Lib.bytesWorld_below _ _ _
theorem parse_err {S : ByteArray} {w : World} (hs : S.size ≤ 1000000) (h : ¬ ∃ u, Lib.parseUintB 64 (bs S) = .ok u) (hv : ErrOk w) :
    Calls Tryd.prog 38 #[.string S, .int .i64 10, .int .i64 64] w fun e w' => (∃ (v : Int) (N : Nat), e = .returned (.tuple #[.int .u64 v, .iface 75 (.pointer (some ⟨N, 0, none⟩))])) ∧ Below w.heap.size w w' := by
  obtain ⟨⟨e1, h1, k1⟩, ⟨e2, h2, k2⟩⟩ := hv
  cases hp : Lib.parseUintB 64 (bs S) with
  | ok u => exact absurd ⟨u, hp⟩ h
  | range => exact (Tryd.strconv_ParseUint_10_at64_range S (by omega) hp e2 w h2 k2).mono fun e w' ⟨N, he, _, _, hb⟩ => ⟨⟨_, N, he⟩, hb⟩
  | _ => exact (Any.strconv_ParseUint_10_at64_syntax Tryd.laysPu14 S (by omega) hp e1 w h1 k1).mono fun e w' ⟨N, he, _, _, hb⟩ => ⟨⟨_, N, he⟩, hb⟩

theorem ext_first (s : ByteArray) (i j : Nat) (h : j ≤ s.size) (hij : i < j) : ∃ D : ByteArray, s.extract i j = D ∧ D.size = j - i ∧ ∀ (h0 : 0 < D.size) (h1 : i < s.size), D[0] = s[i] := by
  refine ⟨_, rfl, size_ext h, fun h0 h1 => ?_⟩
  simp only [ByteArray.getElem_eq_getElem_data, ByteArray.data_extract, Array.getElem_extract, Nat.add_zero]

theorem ext_any (s : ByteArray) (i j : Nat) (h : j ≤ s.size) : ∃ D : ByteArray, s.extract i j = D ∧ D.size = j - i := ⟨_, rfl, size_ext h⟩

/-- Is a number none? -/
def NumBad (s : ByteArray) (at_ : Nat) (a : Int) (n : Nat) : Prop := 9223372036854775808 < a ∨ (1 < n ∧ ∃ h : at_ < s.size, s[at_].toNat = 48) ∨ (9223372036854775808 ≤ a ∧ a ≤ 9223372036854775808 ∧ ¬ (0 < at_ ∧ ∃ h : at_ - 1 < s.size, s[at_ - 1].toNat = 45))
theorem bool_of {b : Bool} {p : Prop} (h : b = true ↔ p) [Decidable p] : b = decide p := by
  rw [Bool.eq_iff_iff, h, decide_eq_true_eq]

set_option maxRecDepth 100000 in
set_option maxHeartbeats 4000000 in
theorem number_date {w : World} {g at_ : Nat} {s : ByteArray} {bad : Bool} (b_g_0 : SC w g s at_ bad) (hat : at_ < s.size) (h84 : 0 ≤ Lib.indexByte (s.extract at_ (at_ + runN datedB s at_)).data.toList 84) (hs : s.size ≤ 1000000) :
    Calls Tryd.prog 28 #[.pointer (some ⟨g, 0, none⟩)] w fun e w' => e = .returned (.agg #[.int .i64 5, .string ⟨#[]⟩, .int .i64 (dateF (bs (s.extract at_ (at_ + runN datedB s at_)))).1, .int .i64 0]) ∧ SC w' g s (at_ + runN datedB s at_) (!(dateF (bs (s.extract at_ (at_ + runN datedB s at_)))).2) ∧ Exc g w w' := by
  have hg := b_g_0.lt
  have hm := ext_len datedB (s := s) (at_ := at_) (by omega)
  have hm2 := runN_le datedB s at_ (by omega)
  obtain ⟨E, hE, hEz⟩ := ext_any s at_ (at_ + runN datedB s at_) hm2
  rw [hE] at h84 hm ⊢
  have HEE := Lib.hid hE
  clear hE
  generalize hR : dateF (bs E) = R
  have HR := Lib.hid hR
  clear hR
  obtain ⟨dv, dk⟩ := R
  go_enter Tryd.func28, Tryd.ntmps28
  have k_g := b_g_0.cell
  have f_g := b_g_0.free
  have l_g := b_g_0.lt
  go_wp2_with fail
  clear k_g f_g l_g
  generalize hW : World.alloc _ _ = w1
  obtain ⟨hb, hz⟩ := al1 hW
  have b_r_1 := n11 hW
  have b_g_1 := b_g_0.later hb
  have HE1 := Lib.hid (Exc.then (Exc.refl g w) (Nat.le_of_lt hg) hb)
  clear b_g_0
  clear hW hb
  refine (run_any 36 datedB ent_dated dated_any b_g_1 (by omega) hs).mono ?_
  rintro x w2 ⟨rfl, b_g_2, he⟩
  have b_r_2 := Exc.blk he (by omega) b_r_1
  have HE2 := Lib.hid (Exc.trans HE1.out he)
  clear b_g_1 b_r_1
  clear he
  rw [HEE.out]
  have k_g := b_g_2.cell
  have f_g := b_g_2.free
  have l_g := b_g_2.lt
  have k_r := b_r_2.cell
  have f_r := b_r_2.free
  have l_r := b_r_2.lt
  go_wp2_with fail
  clear k_g f_g l_g k_r f_r l_r
  refine (Tryd.strings_IndexByte _ _ _).mono ?_
  rintro x wz ⟨rfl, hw⟩
  replace hw := hw.symm
  subst hw
  rw [show ((84 : Int).toNat.toUInt8) = 84 from rfl]
  have k_g := b_g_2.cell
  have f_g := b_g_2.free
  have l_g := b_g_2.lt
  have k_r := b_r_2.cell
  have f_r := b_r_2.free
  have l_r := b_r_2.lt
  go_wp2_with fail
  clear k_g f_g l_g k_r f_r l_r
  refine (dparse_any (S := E) (by omega)).mono ?_
  rintro x w3 ⟨rfl, hb⟩
  have b_g_3 := b_g_2.later hb
  have b_r_3 := b_r_2.later hb
  have HE3 := Lib.hid (Exc.then HE2.out (Nat.le_of_lt hg) hb)
  clear b_g_2 b_r_2
  clear hb
  rw [HR.out]
  have k_g := b_g_3.cell
  have f_g := b_g_3.free
  have l_g := b_g_3.lt
  have k_r := b_r_3.cell
  have f_r := b_r_3.free
  have l_r := b_r_3.lt
  go_wp2_with fail
  clear k_g f_g l_g k_r f_r l_r
  have b_g_4 : SC (w3.setCell ⟨g, 2, none⟩ (.bool (!dk))) g s (at_ + runN datedB s at_) (!dk) := b_g_3.set_ 2 (.bool (!dk))
  have b_r_4 := b_r_3.far (show _ ≠ g by omega) 2 (.bool (!dk))
  have HE4 := Lib.hid (Exc.set HE3.out 2 (.bool (!dk)))
  clear b_g_3 b_r_3
  have z4 : (w3.setCell ⟨g, 2, none⟩ (.bool (!dk))).heap.size = w3.heap.size := World.size_setCell _ _ _
  generalize w3.setCell ⟨g, 2, none⟩ (.bool (!dk)) = w4 at *
  obtain ⟨p1, p2, p3⟩ := put4e (b_r_4) (HE4.out) (show g ≤ _ by omega) (show w.heap.size ≤ _ by omega)
  refine bodyPost_ret (ret_wd rfl rfl p1 rfl) rfl ?_
  exact ⟨rfl, p3 _ _ (by omega) b_g_4, p2⟩

theorem runN_pos {p : Int → Bool} {s : ByteArray} {at_ : Nat} (hat : at_ < s.size) (h : p s[at_].toNat = true) : 1 ≤ runN p s at_ := by
  have h1 : at_ < (bs s).length := by rw [bs_length]; exact hat
  unfold runN takeB
  rw [List.drop_eq_getElem_cons h1, bs_get s at_ hat, List.takeWhile_cons, if_pos h]
  simp

set_option maxRecDepth 100000 in
set_option maxHeartbeats 40000000 in
theorem number_ok {w : World} {g at_ : Nat} {s : ByteArray} {bad : Bool} (b_g_0 : SC w g s at_ bad) (hat : at_ < s.size) (h84 : Lib.indexByte (s.extract at_ (at_ + runN datedB s at_)).data.toList 84 < 0) (h48 : digitB s[at_].toNat = true) {u : Nat} {a : Int} (hu : Lib.parseUintB 64 (bs (s.extract at_ (at_ + runN digitB s at_))) = .ok u) (ha : a = (u : Int)) {bb : Bool} (hbb : bb = true ↔ NumBad s at_ a (runN digitB s at_)) (hs : s.size ≤ 1000000) :
    Calls Tryd.prog 28 #[.pointer (some ⟨g, 0, none⟩)] w fun e w' => e = .returned (.agg #[.int .i64 3, .string ⟨#[]⟩, .int .i64 (wrap64 a), .int .i64 0]) ∧ SC w' g s (at_ + runN digitB s at_) bb ∧ Exc g w w' := by
  have hg := b_g_0.lt
  have hm := ext_len datedB (s := s) (at_ := at_) (by omega)
  have hm2 := runN_le datedB s at_ (by omega)
  have hn2 := runN_le digitB s at_ (by omega)
  obtain ⟨E, hE, hEz⟩ := ext_any s at_ (at_ + runN datedB s at_) hm2
  rw [hE] at h84 hm
  have HEE := Lib.hid hE
  clear hE
  have hn1 : 1 ≤ runN digitB s at_ := runN_pos hat h48
  obtain ⟨D, hD, hDz, hD0⟩ := ext_first s at_ (at_ + runN digitB s at_) hn2 (by omega)
  have hp0 : 0 < D.size := by omega
  have hd0 := hD0 hp0 hat
  have HD := Lib.hid hD
  have HD0 := Lib.hid hd0
  have hc0 := u8_le (D[0]'hp0)
  clear hD0 hD hd0 h48
  rw [HD.out] at hu
  have HU := Lib.hid hu
  clear hu
  have HBB := Lib.hid hbb
  have HA := Lib.hid ha
  clear hbb ha
  rcases (show 9223372036854775808 < a ∨ a ≤ 9223372036854775808 by omega) with ha1 | ha1
  · have hbad : NumBad s at_ a (runN digitB s at_) := .inl ha1
    have HB : Hid (bb = true) := Lib.hid (HBB.out.2 hbad)
    clear hbad
    rw [HB.out]
    go_enter Tryd.func28, Tryd.ntmps28
    have k_g := b_g_0.cell
    have f_g := b_g_0.free
    have l_g := b_g_0.lt
    go_wp2_with fail
    clear k_g f_g l_g
    generalize hW : World.alloc _ _ = w1
    obtain ⟨hb, hz⟩ := al1 hW
    have b_r_1 := n11 hW
    have b_g_1 := b_g_0.later hb
    have HE1 := Lib.hid (Exc.then (Exc.refl g w) (Nat.le_of_lt hg) hb)
    clear b_g_0
    clear hW hb
    refine (run_any 36 datedB ent_dated dated_any b_g_1 (by omega) hs).mono ?_
    rintro x w2 ⟨rfl, b_g_2, he⟩
    have b_r_2 := Exc.blk he (by omega) b_r_1
    have HE2 := Lib.hid (Exc.trans HE1.out he)
    clear b_g_1 b_r_1
    clear he
    rw [HEE.out]
    have k_g := b_g_2.cell
    have f_g := b_g_2.free
    have l_g := b_g_2.lt
    have k_r := b_r_2.cell
    have f_r := b_r_2.free
    have l_r := b_r_2.lt
    go_wp2_with fail
    clear k_g f_g l_g k_r f_r l_r
    refine (Tryd.strings_IndexByte _ _ _).mono ?_
    rintro x wz ⟨rfl, hw⟩
    replace hw := hw.symm
    subst hw
    rw [show ((84 : Int).toNat.toUInt8) = 84 from rfl]
    have k_g := b_g_2.cell
    have f_g := b_g_2.free
    have l_g := b_g_2.lt
    have k_r := b_r_2.cell
    have f_r := b_r_2.free
    have l_r := b_r_2.lt
    go_wp2_with fail
    clear k_g f_g l_g k_r f_r l_r
    have b_g_3 : SC (w2.setCell ⟨g, 1, none⟩ (.int .i64 (at_ : Int))) g s at_ bad := b_g_2.set_ 1 (.int .i64 (at_ : Int))
    have b_r_3 := b_r_2.far (show _ ≠ g by omega) 1 (.int .i64 (at_ : Int))
    have HE3 := Lib.hid (Exc.set HE2.out 1 (.int .i64 (at_ : Int)))
    clear b_g_2 b_r_2
    have z3 : (w2.setCell ⟨g, 1, none⟩ (.int .i64 (at_ : Int))).heap.size = w2.heap.size := World.size_setCell _ _ _
    generalize w2.setCell ⟨g, 1, none⟩ (.int .i64 (at_ : Int)) = w3 at *
    refine (run_any 27 digitB ent_digit digit_any b_g_3 (by omega) hs).mono ?_
    rintro x w4 ⟨rfl, b_g_4, he⟩
    have b_r_4 := Exc.blk he (by omega) b_r_3
    have HE4 := Lib.hid (Exc.trans HE3.out he)
    clear b_g_3 b_r_3
    clear he
    rw [HD.out]
    have k_g := b_g_4.cell
    have f_g := b_g_4.free
    have l_g := b_g_4.lt
    have k_r := b_r_4.cell
    have f_r := b_r_4.free
    have l_r := b_r_4.lt
    go_wp2_with fail
    clear k_g f_g l_g k_r f_r l_r
    refine (parse_ok (S := D) (by omega) HU.out HA.out).mono ?_
    rintro x w5 ⟨rfl, hb⟩
    have b_g_5 := b_g_4.later hb
    have b_r_5 := b_r_4.later hb
    have HE5 := Lib.hid (Exc.then HE4.out (Nat.le_of_lt hg) hb)
    clear b_g_4 b_r_4
    clear hb
    have k_g := b_g_5.cell
    have f_g := b_g_5.free
    have l_g := b_g_5.lt
    have k_r := b_r_5.cell
    have f_r := b_r_5.free
    have l_r := b_r_5.lt
    go_wp2_with fail
    clear k_g f_g l_g k_r f_r l_r
    have b_g_6 : SC (w5.setCell ⟨g, 2, none⟩ (.bool true)) g s (at_ + runN digitB s at_) true := b_g_5.set_ 2 (.bool true)
    have b_r_6 := b_r_5.far (show _ ≠ g by omega) 2 (.bool true)
    have HE6 := Lib.hid (Exc.set HE5.out 2 (.bool true))
    clear b_g_5 b_r_5
    have z6 : (w5.setCell ⟨g, 2, none⟩ (.bool true)).heap.size = w5.heap.size := World.size_setCell _ _ _
    generalize w5.setCell ⟨g, 2, none⟩ (.bool true) = w6 at *
    obtain ⟨p1, p2, p3⟩ := put4e (b_r_6) (HE6.out) (show g ≤ _ by omega) (show w.heap.size ≤ _ by omega)
    refine bodyPost_ret (ret_wd rfl rfl p1 rfl) rfl ?_
    exact ⟨rfl, p3 _ _ (by omega) b_g_6, p2⟩
  · have hgt : decide ((9223372036854775808 : Int) < a) = false := decide_eq_false (by omega)
    have e48 : ((D[0]'hp0).toNat : Int) = 48 ↔ s[at_].toNat = 48 := by rw [HD0.out]; omega
    have E48 := Lib.hid e48
    clear e48
    by_cases hz : 1 < runN digitB s at_ ∧ ((D[0]'hp0).toNat : Int) = 48
    · have hbad : NumBad s at_ a (runN digitB s at_) := .inr (.inl ⟨hz.1, hat, E48.out.1 hz.2⟩)
      have hz1 : decide ((1 : Int) < ((runN digitB s at_ : Nat) : Int)) = true := decide_eq_true (by omega)
      have hz2 : (((D[0]'hp0).toNat : Int) == 48) = true := by simpa using hz.2
      clear hz
      have HB : Hid (bb = true) := Lib.hid (HBB.out.2 hbad)
      clear hbad
      rw [HB.out]
      go_enter Tryd.func28, Tryd.ntmps28
      have k_g := b_g_0.cell
      have f_g := b_g_0.free
      have l_g := b_g_0.lt
      go_wp2_with fail
      clear k_g f_g l_g
      generalize hW : World.alloc _ _ = w1
      obtain ⟨hb, hz⟩ := al1 hW
      have b_r_1 := n11 hW
      have b_g_1 := b_g_0.later hb
      have HE1 := Lib.hid (Exc.then (Exc.refl g w) (Nat.le_of_lt hg) hb)
      clear b_g_0
      clear hW hb
      refine (run_any 36 datedB ent_dated dated_any b_g_1 (by omega) hs).mono ?_
      rintro x w2 ⟨rfl, b_g_2, he⟩
      have b_r_2 := Exc.blk he (by omega) b_r_1
      have HE2 := Lib.hid (Exc.trans HE1.out he)
      clear b_g_1 b_r_1
      clear he
      rw [HEE.out]
      have k_g := b_g_2.cell
      have f_g := b_g_2.free
      have l_g := b_g_2.lt
      have k_r := b_r_2.cell
      have f_r := b_r_2.free
      have l_r := b_r_2.lt
      go_wp2_with fail
      clear k_g f_g l_g k_r f_r l_r
      refine (Tryd.strings_IndexByte _ _ _).mono ?_
      rintro x wz ⟨rfl, hw⟩
      replace hw := hw.symm
      subst hw
      rw [show ((84 : Int).toNat.toUInt8) = 84 from rfl]
      have k_g := b_g_2.cell
      have f_g := b_g_2.free
      have l_g := b_g_2.lt
      have k_r := b_r_2.cell
      have f_r := b_r_2.free
      have l_r := b_r_2.lt
      go_wp2_with fail
      clear k_g f_g l_g k_r f_r l_r
      have b_g_3 : SC (w2.setCell ⟨g, 1, none⟩ (.int .i64 (at_ : Int))) g s at_ bad := b_g_2.set_ 1 (.int .i64 (at_ : Int))
      have b_r_3 := b_r_2.far (show _ ≠ g by omega) 1 (.int .i64 (at_ : Int))
      have HE3 := Lib.hid (Exc.set HE2.out 1 (.int .i64 (at_ : Int)))
      clear b_g_2 b_r_2
      have z3 : (w2.setCell ⟨g, 1, none⟩ (.int .i64 (at_ : Int))).heap.size = w2.heap.size := World.size_setCell _ _ _
      generalize w2.setCell ⟨g, 1, none⟩ (.int .i64 (at_ : Int)) = w3 at *
      refine (run_any 27 digitB ent_digit digit_any b_g_3 (by omega) hs).mono ?_
      rintro x w4 ⟨rfl, b_g_4, he⟩
      have b_r_4 := Exc.blk he (by omega) b_r_3
      have HE4 := Lib.hid (Exc.trans HE3.out he)
      clear b_g_3 b_r_3
      clear he
      rw [HD.out]
      have k_g := b_g_4.cell
      have f_g := b_g_4.free
      have l_g := b_g_4.lt
      have k_r := b_r_4.cell
      have f_r := b_r_4.free
      have l_r := b_r_4.lt
      go_wp2_with fail
      clear k_g f_g l_g k_r f_r l_r
      refine (parse_ok (S := D) (by omega) HU.out HA.out).mono ?_
      rintro x w5 ⟨rfl, hb⟩
      have b_g_5 := b_g_4.later hb
      have b_r_5 := b_r_4.later hb
      have HE5 := Lib.hid (Exc.then HE4.out (Nat.le_of_lt hg) hb)
      clear b_g_4 b_r_4
      clear hb
      have k_g := b_g_5.cell
      have f_g := b_g_5.free
      have l_g := b_g_5.lt
      have k_r := b_r_5.cell
      have f_r := b_r_5.free
      have l_r := b_r_5.lt
      go_wp2_with fail
      clear k_g f_g l_g k_r f_r l_r
      have b_g_6 : SC (w5.setCell ⟨g, 2, none⟩ (.bool true)) g s (at_ + runN digitB s at_) true := b_g_5.set_ 2 (.bool true)
      have b_r_6 := b_r_5.far (show _ ≠ g by omega) 2 (.bool true)
      have HE6 := Lib.hid (Exc.set HE5.out 2 (.bool true))
      clear b_g_5 b_r_5
      have z6 : (w5.setCell ⟨g, 2, none⟩ (.bool true)).heap.size = w5.heap.size := World.size_setCell _ _ _
      generalize w5.setCell ⟨g, 2, none⟩ (.bool true) = w6 at *
      obtain ⟨p1, p2, p3⟩ := put4e (b_r_6) (HE6.out) (show g ≤ _ by omega) (show w.heap.size ≤ _ by omega)
      refine bodyPost_ret (ret_wd rfl rfl p1 rfl) rfl ?_
      exact ⟨rfl, p3 _ _ (by omega) b_g_6, p2⟩
    · have HNZ : Hid (¬ (1 < runN digitB s at_ ∧ ∃ h : at_ < s.size, s[at_].toNat = 48)) := Lib.hid (fun h => hz ⟨h.1, E48.out.2 h.2.2⟩)
      rcases (show (decide ((1 : Int) < ((runN digitB s at_ : Nat) : Int)) = false) ∨ (decide ((1 : Int) < ((runN digitB s at_ : Nat) : Int)) = true ∧ (((D[0]'hp0).toNat : Int) == 48) = false) by
        by_cases h1 : 1 < runN digitB s at_
        · exact .inr ⟨decide_eq_true (by omega), by simpa using fun h => hz ⟨h1, h⟩⟩
        · exact .inl (decide_eq_false (by omega))) with hq | ⟨hq, hq2⟩
      all_goals
        clear hz
        rcases (show a < 9223372036854775808 ∨ 9223372036854775808 ≤ a by omega) with ha2 | ha2
        · have hgood : ¬ NumBad s at_ a (runN digitB s at_) := fun h => h.elim (fun h => by omega) (fun h => h.elim (fun h => HNZ.out h) (fun h => by have := h.1; omega))
          have heq : (a == (9223372036854775808 : Int)) = false := by simp; omega
          have ha0 : 0 ≤ a := by have := HA.out; omega
          rw [show wrap64 a = a by unfold wrap64; omega]
          have HB : Hid (bb = false) := Lib.hid (by rw [Bool.eq_false_iff, ne_eq, HBB.out]; exact hgood)
          clear hgood
          rw [HB.out]
          go_enter Tryd.func28, Tryd.ntmps28
          have k_g := b_g_0.cell
          have f_g := b_g_0.free
          have l_g := b_g_0.lt
          go_wp2_with fail
          clear k_g f_g l_g
          generalize hW : World.alloc _ _ = w1
          obtain ⟨hb, hz⟩ := al1 hW
          have b_r_1 := n11 hW
          have b_g_1 := b_g_0.later hb
          have HE1 := Lib.hid (Exc.then (Exc.refl g w) (Nat.le_of_lt hg) hb)
          clear b_g_0
          clear hW hb
          refine (run_any 36 datedB ent_dated dated_any b_g_1 (by omega) hs).mono ?_
          rintro x w2 ⟨rfl, b_g_2, he⟩
          have b_r_2 := Exc.blk he (by omega) b_r_1
          have HE2 := Lib.hid (Exc.trans HE1.out he)
          clear b_g_1 b_r_1
          clear he
          rw [HEE.out]
          have k_g := b_g_2.cell
          have f_g := b_g_2.free
          have l_g := b_g_2.lt
          have k_r := b_r_2.cell
          have f_r := b_r_2.free
          have l_r := b_r_2.lt
          go_wp2_with fail
          clear k_g f_g l_g k_r f_r l_r
          refine (Tryd.strings_IndexByte _ _ _).mono ?_
          rintro x wz ⟨rfl, hw⟩
          replace hw := hw.symm
          subst hw
          rw [show ((84 : Int).toNat.toUInt8) = 84 from rfl]
          have k_g := b_g_2.cell
          have f_g := b_g_2.free
          have l_g := b_g_2.lt
          have k_r := b_r_2.cell
          have f_r := b_r_2.free
          have l_r := b_r_2.lt
          go_wp2_with fail
          clear k_g f_g l_g k_r f_r l_r
          have b_g_3 : SC (w2.setCell ⟨g, 1, none⟩ (.int .i64 (at_ : Int))) g s at_ bad := b_g_2.set_ 1 (.int .i64 (at_ : Int))
          have b_r_3 := b_r_2.far (show _ ≠ g by omega) 1 (.int .i64 (at_ : Int))
          have HE3 := Lib.hid (Exc.set HE2.out 1 (.int .i64 (at_ : Int)))
          clear b_g_2 b_r_2
          have z3 : (w2.setCell ⟨g, 1, none⟩ (.int .i64 (at_ : Int))).heap.size = w2.heap.size := World.size_setCell _ _ _
          generalize w2.setCell ⟨g, 1, none⟩ (.int .i64 (at_ : Int)) = w3 at *
          refine (run_any 27 digitB ent_digit digit_any b_g_3 (by omega) hs).mono ?_
          rintro x w4 ⟨rfl, b_g_4, he⟩
          have b_r_4 := Exc.blk he (by omega) b_r_3
          have HE4 := Lib.hid (Exc.trans HE3.out he)
          clear b_g_3 b_r_3
          clear he
          rw [HD.out]
          have k_g := b_g_4.cell
          have f_g := b_g_4.free
          have l_g := b_g_4.lt
          have k_r := b_r_4.cell
          have f_r := b_r_4.free
          have l_r := b_r_4.lt
          go_wp2_with fail
          clear k_g f_g l_g k_r f_r l_r
          refine (parse_ok (S := D) (by omega) HU.out HA.out).mono ?_
          rintro x w5 ⟨rfl, hb⟩
          have b_g_5 := b_g_4.later hb
          have b_r_5 := b_r_4.later hb
          have HE5 := Lib.hid (Exc.then HE4.out (Nat.le_of_lt hg) hb)
          clear b_g_4 b_r_4
          clear hb
          have k_g := b_g_5.cell
          have f_g := b_g_5.free
          have l_g := b_g_5.lt
          have k_r := b_r_5.cell
          have f_r := b_r_5.free
          have l_r := b_r_5.lt
          go_wp2_with fail
          clear k_g f_g l_g k_r f_r l_r
          have b_g_6 : SC (w5.setCell ⟨g, 2, none⟩ (.bool false)) g s (at_ + runN digitB s at_) false := b_g_5.set_ 2 (.bool false)
          have b_r_6 := b_r_5.far (show _ ≠ g by omega) 2 (.bool false)
          have HE6 := Lib.hid (Exc.set HE5.out 2 (.bool false))
          clear b_g_5 b_r_5
          have z6 : (w5.setCell ⟨g, 2, none⟩ (.bool false)).heap.size = w5.heap.size := World.size_setCell _ _ _
          generalize w5.setCell ⟨g, 2, none⟩ (.bool false) = w6 at *
          obtain ⟨p1, p2, p3⟩ := put4e (b_r_6) (HE6.out) (show g ≤ _ by omega) (show w.heap.size ≤ _ by omega)
          refine bodyPost_ret (ret_wd rfl rfl p1 rfl) rfl ?_
          exact ⟨rfl, p3 _ _ (by omega) b_g_6, p2⟩
        · have heq : (a == (9223372036854775808 : Int)) = true := by simp; omega
          by_cases h0 : at_ = 0
          · have hbad : NumBad s at_ a (runN digitB s at_) := .inr (.inr ⟨ha2, ha1, fun h => by omega⟩)
            have hz0 : ((at_ : Int) == 0) = true := by simp; omega
            clear h0
            have HB : Hid (bb = true) := Lib.hid (HBB.out.2 hbad)
            clear hbad
            rw [HB.out]
            go_enter Tryd.func28, Tryd.ntmps28
            have k_g := b_g_0.cell
            have f_g := b_g_0.free
            have l_g := b_g_0.lt
            go_wp2_with fail
            clear k_g f_g l_g
            generalize hW : World.alloc _ _ = w1
            obtain ⟨hb, hz⟩ := al1 hW
            have b_r_1 := n11 hW
            have b_g_1 := b_g_0.later hb
            have HE1 := Lib.hid (Exc.then (Exc.refl g w) (Nat.le_of_lt hg) hb)
            clear b_g_0
            clear hW hb
            refine (run_any 36 datedB ent_dated dated_any b_g_1 (by omega) hs).mono ?_
            rintro x w2 ⟨rfl, b_g_2, he⟩
            have b_r_2 := Exc.blk he (by omega) b_r_1
            have HE2 := Lib.hid (Exc.trans HE1.out he)
            clear b_g_1 b_r_1
            clear he
            rw [HEE.out]
            have k_g := b_g_2.cell
            have f_g := b_g_2.free
            have l_g := b_g_2.lt
            have k_r := b_r_2.cell
            have f_r := b_r_2.free
            have l_r := b_r_2.lt
            go_wp2_with fail
            clear k_g f_g l_g k_r f_r l_r
            refine (Tryd.strings_IndexByte _ _ _).mono ?_
            rintro x wz ⟨rfl, hw⟩
            replace hw := hw.symm
            subst hw
            rw [show ((84 : Int).toNat.toUInt8) = 84 from rfl]
            have k_g := b_g_2.cell
            have f_g := b_g_2.free
            have l_g := b_g_2.lt
            have k_r := b_r_2.cell
            have f_r := b_r_2.free
            have l_r := b_r_2.lt
            go_wp2_with fail
            clear k_g f_g l_g k_r f_r l_r
            have b_g_3 : SC (w2.setCell ⟨g, 1, none⟩ (.int .i64 (at_ : Int))) g s at_ bad := b_g_2.set_ 1 (.int .i64 (at_ : Int))
            have b_r_3 := b_r_2.far (show _ ≠ g by omega) 1 (.int .i64 (at_ : Int))
            have HE3 := Lib.hid (Exc.set HE2.out 1 (.int .i64 (at_ : Int)))
            clear b_g_2 b_r_2
            have z3 : (w2.setCell ⟨g, 1, none⟩ (.int .i64 (at_ : Int))).heap.size = w2.heap.size := World.size_setCell _ _ _
            generalize w2.setCell ⟨g, 1, none⟩ (.int .i64 (at_ : Int)) = w3 at *
            refine (run_any 27 digitB ent_digit digit_any b_g_3 (by omega) hs).mono ?_
            rintro x w4 ⟨rfl, b_g_4, he⟩
            have b_r_4 := Exc.blk he (by omega) b_r_3
            have HE4 := Lib.hid (Exc.trans HE3.out he)
            clear b_g_3 b_r_3
            clear he
            rw [HD.out]
            have k_g := b_g_4.cell
            have f_g := b_g_4.free
            have l_g := b_g_4.lt
            have k_r := b_r_4.cell
            have f_r := b_r_4.free
            have l_r := b_r_4.lt
            go_wp2_with fail
            clear k_g f_g l_g k_r f_r l_r
            refine (parse_ok (S := D) (by omega) HU.out HA.out).mono ?_
            rintro x w5 ⟨rfl, hb⟩
            have b_g_5 := b_g_4.later hb
            have b_r_5 := b_r_4.later hb
            have HE5 := Lib.hid (Exc.then HE4.out (Nat.le_of_lt hg) hb)
            clear b_g_4 b_r_4
            clear hb
            have k_g := b_g_5.cell
            have f_g := b_g_5.free
            have l_g := b_g_5.lt
            have k_r := b_r_5.cell
            have f_r := b_r_5.free
            have l_r := b_r_5.lt
            go_wp2_with fail
            clear k_g f_g l_g k_r f_r l_r
            have b_g_6 : SC (w5.setCell ⟨g, 2, none⟩ (.bool true)) g s (at_ + runN digitB s at_) true := b_g_5.set_ 2 (.bool true)
            have b_r_6 := b_r_5.far (show _ ≠ g by omega) 2 (.bool true)
            have HE6 := Lib.hid (Exc.set HE5.out 2 (.bool true))
            clear b_g_5 b_r_5
            have z6 : (w5.setCell ⟨g, 2, none⟩ (.bool true)).heap.size = w5.heap.size := World.size_setCell _ _ _
            generalize w5.setCell ⟨g, 2, none⟩ (.bool true) = w6 at *
            obtain ⟨p1, p2, p3⟩ := put4e (b_r_6) (HE6.out) (show g ≤ _ by omega) (show w.heap.size ≤ _ by omega)
            refine bodyPost_ret (ret_wd rfl rfl p1 rfl) rfl ?_
            exact ⟨rfl, p3 _ _ (by omega) b_g_6, p2⟩
          · have hp : at_ - 1 < s.size := by omega
            have hz0 : ((at_ : Int) == 0) = false := by simp; omega
            have hp1 : (0 : Int) ≤ (at_ : Int) - 1 := by omega
            have hp2 : ((at_ : Int) - 1).toNat = at_ - 1 := by omega
            by_cases h45 : s[at_ - 1].toNat = 45
            · have hgood : ¬ NumBad s at_ a (runN digitB s at_) := fun h => h.elim (fun h => by omega) (fun h => h.elim (fun h => HNZ.out h) (fun h => h.2.2 ⟨by omega, hp, h45⟩))
              have hz45 : ((s[at_ - 1].toNat : Int) != 45) = false := by simp; omega
              clear h45 h0
              have HB : Hid (bb = false) := Lib.hid (by rw [Bool.eq_false_iff, ne_eq, HBB.out]; exact hgood)
              clear hgood
              rw [HB.out]
              go_enter Tryd.func28, Tryd.ntmps28
              have k_g := b_g_0.cell
              have f_g := b_g_0.free
              have l_g := b_g_0.lt
              go_wp2_with fail
              clear k_g f_g l_g
              generalize hW : World.alloc _ _ = w1
              obtain ⟨hb, hz⟩ := al1 hW
              have b_r_1 := n11 hW
              have b_g_1 := b_g_0.later hb
              have HE1 := Lib.hid (Exc.then (Exc.refl g w) (Nat.le_of_lt hg) hb)
              clear b_g_0
              clear hW hb
              refine (run_any 36 datedB ent_dated dated_any b_g_1 (by omega) hs).mono ?_
              rintro x w2 ⟨rfl, b_g_2, he⟩
              have b_r_2 := Exc.blk he (by omega) b_r_1
              have HE2 := Lib.hid (Exc.trans HE1.out he)
              clear b_g_1 b_r_1
              clear he
              rw [HEE.out]
              have k_g := b_g_2.cell
              have f_g := b_g_2.free
              have l_g := b_g_2.lt
              have k_r := b_r_2.cell
              have f_r := b_r_2.free
              have l_r := b_r_2.lt
              go_wp2_with fail
              clear k_g f_g l_g k_r f_r l_r
              refine (Tryd.strings_IndexByte _ _ _).mono ?_
              rintro x wz ⟨rfl, hw⟩
              replace hw := hw.symm
              subst hw
              rw [show ((84 : Int).toNat.toUInt8) = 84 from rfl]
              have k_g := b_g_2.cell
              have f_g := b_g_2.free
              have l_g := b_g_2.lt
              have k_r := b_r_2.cell
              have f_r := b_r_2.free
              have l_r := b_r_2.lt
              go_wp2_with fail
              clear k_g f_g l_g k_r f_r l_r
              have b_g_3 : SC (w2.setCell ⟨g, 1, none⟩ (.int .i64 (at_ : Int))) g s at_ bad := b_g_2.set_ 1 (.int .i64 (at_ : Int))
              have b_r_3 := b_r_2.far (show _ ≠ g by omega) 1 (.int .i64 (at_ : Int))
              have HE3 := Lib.hid (Exc.set HE2.out 1 (.int .i64 (at_ : Int)))
              clear b_g_2 b_r_2
              have z3 : (w2.setCell ⟨g, 1, none⟩ (.int .i64 (at_ : Int))).heap.size = w2.heap.size := World.size_setCell _ _ _
              generalize w2.setCell ⟨g, 1, none⟩ (.int .i64 (at_ : Int)) = w3 at *
              refine (run_any 27 digitB ent_digit digit_any b_g_3 (by omega) hs).mono ?_
              rintro x w4 ⟨rfl, b_g_4, he⟩
              have b_r_4 := Exc.blk he (by omega) b_r_3
              have HE4 := Lib.hid (Exc.trans HE3.out he)
              clear b_g_3 b_r_3
              clear he
              rw [HD.out]
              have k_g := b_g_4.cell
              have f_g := b_g_4.free
              have l_g := b_g_4.lt
              have k_r := b_r_4.cell
              have f_r := b_r_4.free
              have l_r := b_r_4.lt
              go_wp2_with fail
              clear k_g f_g l_g k_r f_r l_r
              refine (parse_ok (S := D) (by omega) HU.out HA.out).mono ?_
              rintro x w5 ⟨rfl, hb⟩
              have b_g_5 := b_g_4.later hb
              have b_r_5 := b_r_4.later hb
              have HE5 := Lib.hid (Exc.then HE4.out (Nat.le_of_lt hg) hb)
              clear b_g_4 b_r_4
              clear hb
              have k_g := b_g_5.cell
              have f_g := b_g_5.free
              have l_g := b_g_5.lt
              have k_r := b_r_5.cell
              have f_r := b_r_5.free
              have l_r := b_r_5.lt
              go_wp2_with fail
              clear k_g f_g l_g k_r f_r l_r
              have b_g_6 : SC (w5.setCell ⟨g, 2, none⟩ (.bool false)) g s (at_ + runN digitB s at_) false := b_g_5.set_ 2 (.bool false)
              have b_r_6 := b_r_5.far (show _ ≠ g by omega) 2 (.bool false)
              have HE6 := Lib.hid (Exc.set HE5.out 2 (.bool false))
              clear b_g_5 b_r_5
              have z6 : (w5.setCell ⟨g, 2, none⟩ (.bool false)).heap.size = w5.heap.size := World.size_setCell _ _ _
              generalize w5.setCell ⟨g, 2, none⟩ (.bool false) = w6 at *
              obtain ⟨p1, p2, p3⟩ := put4e (b_r_6) (HE6.out) (show g ≤ _ by omega) (show w.heap.size ≤ _ by omega)
              refine bodyPost_ret (ret_wd rfl rfl p1 rfl) rfl ?_
              exact ⟨rfl, p3 _ _ (by omega) b_g_6, p2⟩
            · have hbad : NumBad s at_ a (runN digitB s at_) := .inr (.inr ⟨ha2, ha1, fun h => h45 h.2.2⟩)
              have hz45 : ((s[at_ - 1].toNat : Int) != 45) = true := by simp; omega
              clear h45 h0
              have HB : Hid (bb = true) := Lib.hid (HBB.out.2 hbad)
              clear hbad
              rw [HB.out]
              go_enter Tryd.func28, Tryd.ntmps28
              have k_g := b_g_0.cell
              have f_g := b_g_0.free
              have l_g := b_g_0.lt
              go_wp2_with fail
              clear k_g f_g l_g
              generalize hW : World.alloc _ _ = w1
              obtain ⟨hb, hz⟩ := al1 hW
              have b_r_1 := n11 hW
              have b_g_1 := b_g_0.later hb
              have HE1 := Lib.hid (Exc.then (Exc.refl g w) (Nat.le_of_lt hg) hb)
              clear b_g_0
              clear hW hb
              refine (run_any 36 datedB ent_dated dated_any b_g_1 (by omega) hs).mono ?_
              rintro x w2 ⟨rfl, b_g_2, he⟩
              have b_r_2 := Exc.blk he (by omega) b_r_1
              have HE2 := Lib.hid (Exc.trans HE1.out he)
              clear b_g_1 b_r_1
              clear he
              rw [HEE.out]
              have k_g := b_g_2.cell
              have f_g := b_g_2.free
              have l_g := b_g_2.lt
              have k_r := b_r_2.cell
              have f_r := b_r_2.free
              have l_r := b_r_2.lt
              go_wp2_with fail
              clear k_g f_g l_g k_r f_r l_r
              refine (Tryd.strings_IndexByte _ _ _).mono ?_
              rintro x wz ⟨rfl, hw⟩
              replace hw := hw.symm
              subst hw
              rw [show ((84 : Int).toNat.toUInt8) = 84 from rfl]
              have k_g := b_g_2.cell
              have f_g := b_g_2.free
              have l_g := b_g_2.lt
              have k_r := b_r_2.cell
              have f_r := b_r_2.free
              have l_r := b_r_2.lt
              go_wp2_with fail
              clear k_g f_g l_g k_r f_r l_r
              have b_g_3 : SC (w2.setCell ⟨g, 1, none⟩ (.int .i64 (at_ : Int))) g s at_ bad := b_g_2.set_ 1 (.int .i64 (at_ : Int))
              have b_r_3 := b_r_2.far (show _ ≠ g by omega) 1 (.int .i64 (at_ : Int))
              have HE3 := Lib.hid (Exc.set HE2.out 1 (.int .i64 (at_ : Int)))
              clear b_g_2 b_r_2
              have z3 : (w2.setCell ⟨g, 1, none⟩ (.int .i64 (at_ : Int))).heap.size = w2.heap.size := World.size_setCell _ _ _
              generalize w2.setCell ⟨g, 1, none⟩ (.int .i64 (at_ : Int)) = w3 at *
              refine (run_any 27 digitB ent_digit digit_any b_g_3 (by omega) hs).mono ?_
              rintro x w4 ⟨rfl, b_g_4, he⟩
              have b_r_4 := Exc.blk he (by omega) b_r_3
              have HE4 := Lib.hid (Exc.trans HE3.out he)
              clear b_g_3 b_r_3
              clear he
              rw [HD.out]
              have k_g := b_g_4.cell
              have f_g := b_g_4.free
              have l_g := b_g_4.lt
              have k_r := b_r_4.cell
              have f_r := b_r_4.free
              have l_r := b_r_4.lt
              go_wp2_with fail
              clear k_g f_g l_g k_r f_r l_r
              refine (parse_ok (S := D) (by omega) HU.out HA.out).mono ?_
              rintro x w5 ⟨rfl, hb⟩
              have b_g_5 := b_g_4.later hb
              have b_r_5 := b_r_4.later hb
              have HE5 := Lib.hid (Exc.then HE4.out (Nat.le_of_lt hg) hb)
              clear b_g_4 b_r_4
              clear hb
              have k_g := b_g_5.cell
              have f_g := b_g_5.free
              have l_g := b_g_5.lt
              have k_r := b_r_5.cell
              have f_r := b_r_5.free
              have l_r := b_r_5.lt
              go_wp2_with fail
              clear k_g f_g l_g k_r f_r l_r
              have b_g_6 : SC (w5.setCell ⟨g, 2, none⟩ (.bool true)) g s (at_ + runN digitB s at_) true := b_g_5.set_ 2 (.bool true)
              have b_r_6 := b_r_5.far (show _ ≠ g by omega) 2 (.bool true)
              have HE6 := Lib.hid (Exc.set HE5.out 2 (.bool true))
              clear b_g_5 b_r_5
              have z6 : (w5.setCell ⟨g, 2, none⟩ (.bool true)).heap.size = w5.heap.size := World.size_setCell _ _ _
              generalize w5.setCell ⟨g, 2, none⟩ (.bool true) = w6 at *
              obtain ⟨p1, p2, p3⟩ := put4e (b_r_6) (HE6.out) (show g ≤ _ by omega) (show w.heap.size ≤ _ by omega)
              refine bodyPost_ret (ret_wd rfl rfl p1 rfl) rfl ?_
              exact ⟨rfl, p3 _ _ (by omega) b_g_6, p2⟩

set_option maxRecDepth 100000 in
set_option maxHeartbeats 4000000 in
theorem number_err {w : World} {g at_ : Nat} {s : ByteArray} {bad : Bool} (b_g_0 : SC w g s at_ bad) (hat : at_ < s.size) (h84 : Lib.indexByte (s.extract at_ (at_ + runN datedB s at_)).data.toList 84 < 0) (h48 : digitB s[at_].toNat = true) (hu : ¬ ∃ u, Lib.parseUintB 64 (bs (s.extract at_ (at_ + runN digitB s at_))) = .ok u) (hv : ErrOk w) (h2 : 2 < g) (hs : s.size ≤ 1000000) :
    Calls Tryd.prog 28 #[.pointer (some ⟨g, 0, none⟩)] w fun e w' => (∃ n : Int, e = .returned (.agg #[.int .i64 3, .string ⟨#[]⟩, .int .i64 n, .int .i64 0])) ∧ SC w' g s (at_ + runN digitB s at_) true ∧ Exc g w w' := by
  have hg := b_g_0.lt
  have hm := ext_len datedB (s := s) (at_ := at_) (by omega)
  have hm2 := runN_le datedB s at_ (by omega)
  have hn2 := runN_le digitB s at_ (by omega)
  obtain ⟨E, hE, hEz⟩ := ext_any s at_ (at_ + runN datedB s at_) hm2
  rw [hE] at h84 hm
  have HEE := Lib.hid hE
  clear hE
  have hn1 : 1 ≤ runN digitB s at_ := runN_pos hat h48
  obtain ⟨D, hD, hDz, hD0⟩ := ext_first s at_ (at_ + runN digitB s at_) hn2 (by omega)
  have hp0 : 0 < D.size := by omega
  have hd0 := hD0 hp0 hat
  have HD := Lib.hid hD
  have HD0 := Lib.hid hd0
  have hc0 := u8_le (D[0]'hp0)
  clear hD0 hD hd0 h48
  rw [HD.out] at hu
  have HU := Lib.hid hu
  clear hu
  have HV := Lib.hid hv
  clear hv
  go_enter Tryd.func28, Tryd.ntmps28
  have k_g := b_g_0.cell
  have f_g := b_g_0.free
  have l_g := b_g_0.lt
  go_wp2_with fail
  clear k_g f_g l_g
  generalize hW : World.alloc _ _ = w1
  obtain ⟨hb, hz⟩ := al1 hW
  have b_r_1 := n11 hW
  have b_g_1 := b_g_0.later hb
  have HE1 := Lib.hid (Exc.then (Exc.refl g w) (Nat.le_of_lt hg) hb)
  clear b_g_0
  clear hW hb
  refine (run_any 36 datedB ent_dated dated_any b_g_1 (by omega) hs).mono ?_
  rintro x w2 ⟨rfl, b_g_2, he⟩
  have b_r_2 := Exc.blk he (by omega) b_r_1
  have HE2 := Lib.hid (Exc.trans HE1.out he)
  clear b_g_1 b_r_1
  clear he
  rw [HEE.out]
  have k_g := b_g_2.cell
  have f_g := b_g_2.free
  have l_g := b_g_2.lt
  have k_r := b_r_2.cell
  have f_r := b_r_2.free
  have l_r := b_r_2.lt
  go_wp2_with fail
  clear k_g f_g l_g k_r f_r l_r
  refine (Tryd.strings_IndexByte _ _ _).mono ?_
  rintro x wz ⟨rfl, hw⟩
  replace hw := hw.symm
  subst hw
  rw [show ((84 : Int).toNat.toUInt8) = 84 from rfl]
  have k_g := b_g_2.cell
  have f_g := b_g_2.free
  have l_g := b_g_2.lt
  have k_r := b_r_2.cell
  have f_r := b_r_2.free
  have l_r := b_r_2.lt
  go_wp2_with fail
  clear k_g f_g l_g k_r f_r l_r
  have b_g_3 : SC (w2.setCell ⟨g, 1, none⟩ (.int .i64 (at_ : Int))) g s at_ bad := b_g_2.set_ 1 (.int .i64 (at_ : Int))
  have b_r_3 := b_r_2.far (show _ ≠ g by omega) 1 (.int .i64 (at_ : Int))
  have HE3 := Lib.hid (Exc.set HE2.out 1 (.int .i64 (at_ : Int)))
  clear b_g_2 b_r_2
  have z3 : (w2.setCell ⟨g, 1, none⟩ (.int .i64 (at_ : Int))).heap.size = w2.heap.size := World.size_setCell _ _ _
  generalize w2.setCell ⟨g, 1, none⟩ (.int .i64 (at_ : Int)) = w3 at *
  refine (run_any 27 digitB ent_digit digit_any b_g_3 (by omega) hs).mono ?_
  rintro x w4 ⟨rfl, b_g_4, he⟩
  have b_r_4 := Exc.blk he (by omega) b_r_3
  have HE4 := Lib.hid (Exc.trans HE3.out he)
  clear b_g_3 b_r_3
  clear he
  rw [HD.out]
  have k_g := b_g_4.cell
  have f_g := b_g_4.free
  have l_g := b_g_4.lt
  have k_r := b_r_4.cell
  have f_r := b_r_4.free
  have l_r := b_r_4.lt
  go_wp2_with fail
  clear k_g f_g l_g k_r f_r l_r
  refine (parse_err (S := D) (by omega) HU.out (HV.out.keep HE4.out.1 h2)).mono ?_
  rintro x w5 ⟨⟨v, N, rfl⟩, hb⟩
  have b_g_5 := b_g_4.later hb
  have b_r_5 := b_r_4.later hb
  have HE5 := Lib.hid (Exc.then HE4.out (Nat.le_of_lt hg) hb)
  clear b_g_4 b_r_4
  clear hb
  have k_g := b_g_5.cell
  have f_g := b_g_5.free
  have l_g := b_g_5.lt
  have k_r := b_r_5.cell
  have f_r := b_r_5.free
  have l_r := b_r_5.lt
  go_wp2_with fail
  clear k_g f_g l_g k_r f_r l_r
  have b_g_6 : SC (w5.setCell ⟨g, 2, none⟩ (.bool true)) g s (at_ + runN digitB s at_) true := b_g_5.set_ 2 (.bool true)
  have b_r_6 := b_r_5.far (show _ ≠ g by omega) 2 (.bool true)
  have HE6 := Lib.hid (Exc.set HE5.out 2 (.bool true))
  clear b_g_5 b_r_5
  have z6 : (w5.setCell ⟨g, 2, none⟩ (.bool true)).heap.size = w5.heap.size := World.size_setCell _ _ _
  generalize w5.setCell ⟨g, 2, none⟩ (.bool true) = w6 at *
  obtain ⟨p1, p2, p3⟩ := put4e (b_r_6) (HE6.out) (show g ≤ _ by omega) (show w.heap.size ≤ _ by omega)
  refine bodyPost_ret (ret_wd rfl rfl p1 rfl) rfl ?_
  exact ⟨⟨_, rfl⟩, p3 _ _ (by omega) b_g_6, p2⟩
end Go.Proofs.YtijajfelmekmiaaDoor
