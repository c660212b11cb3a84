/- viaticumlaw11.awake. -/
import Derived.Test.YtiplipdigabidaaOp3
set_option linter.unusedVariables false
set_option linter.unusedSimpArgs false
namespace Go.Proofs.Ytiplipdigabidaa
open Go.ChangeShapes Go.WideShapes Go.ChangeAt Go.RowKit

theorem flat_tm (w : World) (B : Nat) {k n : Int} {s : ByteArray} (hk : I64 k) (hn : I64 n) (hs : s.size ≤ 140737488351232) : RTm w B 1 ⟨k, n, s, []⟩ [.int .i64 k, .int .i64 n, .string s, .slice none 0 0] :=
  ⟨none, 0, rfl, Nat.le_refl _, ⟨by simp, by omega⟩, hs, hk, hn, fun h => absurd h (by simp)⟩
theorem fixed_int (x : Int) : fixedB ⟨2, x, emp, []⟩ = true := by simp [fixedB, mayB, flatMay, emp]; rfl
theorem i64_lit {n : Int} (h : -1000000 ≤ n) (h' : n ≤ 1000000) : I64 n := by unfold I64; omega
theorem int_tm (w : World) (B : Nat) {n : Int} (hn : I64 n) : RTm w B 1 ⟨2, n, emp, []⟩ [.int .i64 2, .int .i64 n, .string emp, .slice none 0 0] := flat_tm w B (i64_lit (by omega) (by omega)) hn (by decide)

set_option maxRecDepth 100000 in
set_option maxHeartbeats 4000000 in
theorem awake_any (w : World) :
    Calls Try.prog 7 #[] w fun z w' => z = .returned (.bool true) ∧ Below w.heap.size w w' := by
  go_enter Try.func7, Try.ntmps7
  go_wp2_with fail
  refine (bin_reckon (code := 10) (x := (-7)) (y := 2) (k := 2) (n := (-3)) (e := 0) (B := 0) (vs := [_, _, _, _]) (ws := [_, _, _, _]) (int_tm _ _ (i64_lit (by omega) (by omega))) (int_tm _ _ (i64_lit (by omega) (by omega))) (Nat.zero_le _) (fixed_int _) (fixed_int _) (by omega) (by decide)).mono ?_
  rintro x w1 ⟨rfl, hb⟩
  have HB1 := Lib.hid hb
  clear hb
  go_wp2_with fail
  generalize hW : World.alloc _ _ = w2
  obtain ⟨hb, hz⟩ := al1 hW
  have b_a_2 := n11 hW
  have HB2 := Lib.hid (bthen HB1.out hb)
  clear hW hz hb
  refine (bin_reckon (code := 10) (x := (-3)) (y := 0) (k := 0) (n := 0) (e := 6) (B := 0) (vs := [_, _, _, _]) (ws := [_, _, _, _]) (int_tm _ _ (i64_lit (by omega) (by omega))) (int_tm _ _ (i64_lit (by omega) (by omega))) (Nat.zero_le _) (fixed_int _) (fixed_int _) (by omega) (by decide)).mono ?_
  rintro x w3 ⟨rfl, hb⟩
  have b_a_3 := b_a_2.later hb
  have HB3 := Lib.hid (bthen HB2.out hb)
  clear b_a_2
  clear hb
  have k_a := b_a_3.cell
  have l_a := b_a_3.lt
  go_wp2_with fail
  clear k_a l_a
  generalize hW : World.alloc _ _ = w4
  obtain ⟨hb, hz⟩ := al1 hW
  have b_z_4 := n11 hW
  have b_a_4 := b_a_3.later hb
  have HB4 := Lib.hid (bthen HB3.out hb)
  clear b_a_3
  clear hW hz hb
  go_ret
  exact ⟨rfl, HB4.out⟩
end Go.Proofs.Ytiplipdigabidaa
