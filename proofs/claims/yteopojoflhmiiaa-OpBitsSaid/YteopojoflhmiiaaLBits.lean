/- viaticumlaw11.OpBits. -/
import Derived.Test.YteopojoflhmiiaaOpAwake
set_option linter.unusedVariables false
set_option linter.unusedSimpArgs false
namespace Go.Proofs.Yteopojoflhmiiaa
open Go.ChangeShapes Go.WideShapes Go.ChangeAt Go.RowKit

theorem wrapBV (v : BitVec 64) : IntKind.i64.wrap (v.toNat : Int) = v.toInt := by
  rw [IntKind.wrap_i64, BitVec.toInt_eq_toNat_cond]
  have := v.isLt
  split <;> omega
theorem bits_andI (a b : Int) : bits .and .i64 a b = (BitVec.ofInt 64 a &&& BitVec.ofInt 64 b).toInt := wrapBV _
theorem bits_orI (a b : Int) : bits .or .i64 a b = (BitVec.ofInt 64 a ||| BitVec.ofInt 64 b).toInt := wrapBV _
theorem bits_xorI (a b : Int) : bits .xor .i64 a b = (BitVec.ofInt 64 a ^^^ BitVec.ofInt 64 b).toInt := wrapBV _
theorem law_bits1 (a b : Int) : bits .and .i64 (bits .and .i64 a b) (bits .xor .i64 a b) = 0 := by
  rw [bits_andI a b, bits_xorI, bits_andI, BitVec.ofInt_toInt, BitVec.ofInt_toInt]
  have : (BitVec.ofInt 64 a &&& BitVec.ofInt 64 b) &&& (BitVec.ofInt 64 a ^^^ BitVec.ofInt 64 b) = 0#64 := by
    ext i hi
    simp only [BitVec.getElem_and, BitVec.getElem_xor, BitVec.getElem_zero]
    cases (BitVec.ofInt 64 a)[i] <;> cases (BitVec.ofInt 64 b)[i] <;> rfl
  rw [this]; rfl
theorem law_bits2 (a b : Int) : bits .or .i64 (bits .and .i64 a b) (bits .xor .i64 a b) = bits .or .i64 a b := by
  rw [bits_andI a b, bits_xorI, bits_orI, bits_orI, BitVec.ofInt_toInt, BitVec.ofInt_toInt]
  congr 1
  ext i hi
  simp only [BitVec.getElem_and, BitVec.getElem_xor, BitVec.getElem_or]
  cases (BitVec.ofInt 64 a)[i] <;> cases (BitVec.ofInt 64 b)[i] <;> rfl

set_option maxRecDepth 100000 in
set_option maxHeartbeats 4000000 in
theorem opBits_any (a b : Int) (ha : I64 a) (hb : I64 b) (w : World) :
    Calls Try.prog 6 #[.int .i64 a, .int .i64 b] w fun z w' => z = .returned (.bool true) ∧ Below w.heap.size w w' := by
  have h1 := law_bits1 a b
  have h2 := law_bits2 a b
  go_enter Try.func6, Try.ntmps6
  go_wp2_with fail
  generalize hW : World.alloc _ _ = w1
  obtain ⟨hb, hz⟩ := al2 hW
  have b_x_1 := n21 hW
  have b_y_1 := n22 hW
  have HB1 := Lib.hid hb
  clear hW hz hb
  refine (bin_and (x := a) (y := b) (B := 0) (vs := [_, _, _, _]) (ws := [_, _, _, _]) (int_tm _ _ ha) (int_tm _ _ hb) (Nat.zero_le _) (fixed_int _) (fixed_int _)).mono ?_
  rintro x w2 ⟨rfl, hb⟩
  have b_x_2 := b_x_1.later hb
  have b_y_2 := b_y_1.later hb
  have HB2 := Lib.hid (bthen HB1.out hb)
  clear b_x_1 b_y_1
  clear hb
  have k_x := b_x_2.cell
  have l_x := b_x_2.lt
  have k_y := b_y_2.cell
  have l_y := b_y_2.lt
  go_wp2_with fail
  clear k_x l_x k_y l_y
  generalize hW : World.alloc _ _ = w3
  obtain ⟨hb, hz⟩ := al1 hW
  have b_p0_3 := n11 hW
  have b_x_3 := b_x_2.later hb
  have b_y_3 := b_y_2.later hb
  have HB3 := Lib.hid (bthen HB2.out hb)
  clear b_x_2 b_y_2
  clear hW hz hb
  refine (bin_xor (x := a) (y := b) (B := 0) (vs := [_, _, _, _]) (ws := [_, _, _, _]) (int_tm _ _ ha) (int_tm _ _ hb) (Nat.zero_le _) (fixed_int _) (fixed_int _)).mono ?_
  rintro x w4 ⟨rfl, hb⟩
  have b_x_4 := b_x_3.later hb
  have b_y_4 := b_y_3.later hb
  have b_p0_4 := b_p0_3.later hb
  have HB4 := Lib.hid (bthen HB3.out hb)
  clear b_x_3 b_y_3 b_p0_3
  clear hb
  have k_x := b_x_4.cell
  have l_x := b_x_4.lt
  have k_y := b_y_4.cell
  have l_y := b_y_4.lt
  have k_p0 := b_p0_4.cell
  have l_p0 := b_p0_4.lt
  go_wp2_with fail
  clear k_x l_x k_y l_y k_p0 l_p0
  generalize hW : World.alloc _ _ = w5
  obtain ⟨hb, hz⟩ := al1 hW
  have b_p1_5 := n11 hW
  have b_x_5 := b_x_4.later hb
  have b_y_5 := b_y_4.later hb
  have b_p0_5 := b_p0_4.later hb
  have HB5 := Lib.hid (bthen HB4.out hb)
  clear b_x_4 b_y_4 b_p0_4
  clear hW hz hb
  refine (bin_or (x := a) (y := b) (B := 0) (vs := [_, _, _, _]) (ws := [_, _, _, _]) (int_tm _ _ ha) (int_tm _ _ hb) (Nat.zero_le _) (fixed_int _) (fixed_int _)).mono ?_
  rintro x w6 ⟨rfl, hb⟩
  have b_x_6 := b_x_5.later hb
  have b_y_6 := b_y_5.later hb
  have b_p0_6 := b_p0_5.later hb
  have b_p1_6 := b_p1_5.later hb
  have HB6 := Lib.hid (bthen HB5.out hb)
  clear b_x_5 b_y_5 b_p0_5 b_p1_5
  clear hb
  have k_x := b_x_6.cell
  have l_x := b_x_6.lt
  have k_y := b_y_6.cell
  have l_y := b_y_6.lt
  have k_p0 := b_p0_6.cell
  have l_p0 := b_p0_6.lt
  have k_p1 := b_p1_6.cell
  have l_p1 := b_p1_6.lt
  go_wp2_with fail
  clear k_x l_x k_y l_y k_p0 l_p0 k_p1 l_p1
  generalize hW : World.alloc _ _ = w7
  obtain ⟨hb, hz⟩ := al1 hW
  have b_p2_7 := n11 hW
  have b_x_7 := b_x_6.later hb
  have b_y_7 := b_y_6.later hb
  have b_p0_7 := b_p0_6.later hb
  have b_p1_7 := b_p1_6.later hb
  have HB7 := Lib.hid (bthen HB6.out hb)
  clear b_x_6 b_y_6 b_p0_6 b_p1_6
  clear hW hz hb
  have k_x := b_x_7.cell
  have l_x := b_x_7.lt
  have k_y := b_y_7.cell
  have l_y := b_y_7.lt
  have k_p0 := b_p0_7.cell
  have l_p0 := b_p0_7.lt
  have k_p1 := b_p1_7.cell
  have l_p1 := b_p1_7.lt
  have k_p2 := b_p2_7.cell
  have l_p2 := b_p2_7.lt
  go_wp2_with fail
  clear k_x l_x k_y l_y k_p0 l_p0 k_p1 l_p1 k_p2 l_p2
  refine (awake_any _).mono ?_
  rintro x w8 ⟨rfl, hb⟩
  have b_x_8 := b_x_7.later hb
  have b_y_8 := b_y_7.later hb
  have b_p0_8 := b_p0_7.later hb
  have b_p1_8 := b_p1_7.later hb
  have b_p2_8 := b_p2_7.later hb
  have HB8 := Lib.hid (bthen HB7.out hb)
  clear b_x_7 b_y_7 b_p0_7 b_p1_7 b_p2_7
  clear hb
  have k_x := b_x_8.cell
  have l_x := b_x_8.lt
  have k_y := b_y_8.cell
  have l_y := b_y_8.lt
  have k_p0 := b_p0_8.cell
  have l_p0 := b_p0_8.lt
  have k_p1 := b_p1_8.cell
  have l_p1 := b_p1_8.lt
  have k_p2 := b_p2_8.cell
  have l_p2 := b_p2_8.lt
  go_wp2_with fail
  clear k_x l_x k_y l_y k_p0 l_p0 k_p1 l_p1 k_p2 l_p2
  go_ret
  exact ⟨rfl, HB8.out⟩
end Go.Proofs.Yteopojoflhmiiaa
