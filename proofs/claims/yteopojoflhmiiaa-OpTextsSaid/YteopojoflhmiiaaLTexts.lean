/- viaticumlaw11.OpTexts. -/
import Derived.Test.YteopojoflhmiiaaOpAwake
import Derived.Test.YteopojoflhmiiaaOp4
set_option linter.unusedVariables false
set_option linter.unusedSimpArgs false
namespace Go.Proofs.Yteopojoflhmiiaa
open Go.ChangeShapes Go.WideShapes Go.ChangeAt Go.RowKit

theorem fixed_text {s : ByteArray} (h : s.size ≤ 256) : fixedB ⟨3, 0, s, []⟩ = true := by simp [fixedB, mayB, flatMay, h]
theorem text_tm (w : World) (B : Nat) {s : ByteArray} (h : s.size ≤ 256) : RTm w B 1 ⟨3, 0, s, []⟩ [.int .i64 3, .int .i64 0, .string s, .slice none 0 0] := flat_tm w B (i64_lit (by omega) (by omega)) (i64_lit (by omega) (by omega)) (by omega)
theorem bs_append (s t : ByteArray) : bs (s ++ t) = bs s ++ bs t := by simp [bs]
theorem law_pre (s t : ByteArray) : Lib.hasPrefix (bs (s ++ t)) (bs s) = true := by
  rw [bs_append]; unfold Lib.hasPrefix; rw [List.isPrefixOf_iff_prefix]; exact List.prefix_append _ _
theorem law_suf (s t : ByteArray) : Lib.hasSuffix (bs (s ++ t)) (bs t) = true := by
  rw [bs_append]; unfold Lib.hasSuffix; rw [List.isSuffixOf_iff_suffix]; exact List.suffix_append _ _
theorem law_has (s t : ByteArray) : Lib.contains (bs (s ++ t)) (bs t) = true := by
  rw [bs_append]; unfold Lib.contains
  rcases Lib.index_spec (bs s ++ bs t) (bs t) with ⟨h, h2⟩ | ⟨i, h, _⟩
  · have := h2 (bs s).length (by simp)
    unfold Lib.occAt at this
    rw [List.drop_left, Bool.eq_false_iff] at this
    exact absurd (List.isPrefixOf_iff_prefix.2 (List.prefix_refl _)) this
  · rw [h]; simp
theorem size_app (s t : ByteArray) : (s ++ t).size = s.size + t.size := ByteArray.size_append

set_option maxRecDepth 100000 in
set_option maxHeartbeats 4000000 in
theorem opTexts_any (s t : ByteArray) (hs : s.size ≤ 140737488351232) (ht : t.size ≤ 140737488351232) (w : World) (h0 : 0 < w.heap.size) {m : Int} (hm : w.cell? ⟨0, 0, none⟩ = some (.int .i64 m)) :
    Calls Try.prog 8 #[.string s, .string t] w fun z w' => z = .returned (.bool true) ∧ Below w.heap.size w w' := by
  have HM := Lib.hid hm
  clear hm
  by_cases t1 : s.size ≤ 256
  rotate_left
  · have h1 : (s.size : Int) > 256 := by omega
    go_enter Try.func8, Try.ntmps8
    go_wp2_with fail
    refine (awake_any _).mono ?_
    rintro e w1 ⟨rfl, hb⟩
    have HB1 := Lib.hid hb
    clear hb
    go_wp2_with fail
    go_ret
    exact ⟨rfl, HB1.out⟩
  by_cases t2 : t.size ≤ 256
  rotate_left
  · have h2 : (t.size : Int) > 256 := by omega
    go_enter Try.func8, Try.ntmps8
    go_wp2_with fail
    refine (awake_any _).mono ?_
    rintro e w1 ⟨rfl, hb⟩
    have HB1 := Lib.hid hb
    clear hb
    go_wp2_with fail
    go_ret
    exact ⟨rfl, HB1.out⟩
  by_cases t3 : s.size + t.size ≤ 256
  rotate_left
  · have h3 : (s.size : Int) + t.size > 256 := by omega
    go_enter Try.func8, Try.ntmps8
    go_wp2_with fail
    generalize hW : World.alloc _ _ = w1
    obtain ⟨hb, hz⟩ := al2 hW
    have b_x_1 := n21 hW
    have b_y_1 := n22 hW
    have HB1 := Lib.hid hb
    clear hW hz hb
    refine (bin_long (B := 0) (vs := [_, _, _, _]) (ws := [_, _, _, _]) (text_tm _ _ t1) (text_tm _ _ t2) (Nat.zero_le _) (fixed_text t1) (fixed_text t2) t3).mono ?_
    rintro x w2 ⟨rfl, hb⟩
    have b_x_2 := b_x_1.later hb
    have b_y_2 := b_y_1.later hb
    have HB2 := Lib.hid (bthen HB1.out hb)
    clear b_x_1 b_y_1
    clear hb
    have k_x := b_x_2.cell
    have l_x := b_x_2.lt
    have k_y := b_y_2.cell
    have l_y := b_y_2.lt
    go_wp2_with fail
    clear k_x l_x k_y l_y
    generalize hW : World.alloc _ _ = w3
    obtain ⟨hb, hz⟩ := al1 hW
    have b_c_3 := n11 hW
    have b_x_3 := b_x_2.later hb
    have b_y_3 := b_y_2.later hb
    have HB3 := Lib.hid (bthen HB2.out hb)
    clear b_x_2 b_y_2
    clear hW hz hb
    have k_x := b_x_3.cell
    have l_x := b_x_3.lt
    have k_y := b_y_3.cell
    have l_y := b_y_3.lt
    have k_c := b_c_3.cell
    have l_c := b_c_3.lt
    go_wp2_with fail
    clear k_x l_x k_y l_y k_c l_c
    refine (awake_any _).mono ?_
    rintro x w4 ⟨rfl, hb⟩
    have b_x_4 := b_x_3.later hb
    have b_y_4 := b_y_3.later hb
    have b_c_4 := b_c_3.later hb
    have HB4 := Lib.hid (bthen HB3.out hb)
    clear b_x_3 b_y_3 b_c_3
    clear hb
    have k_x := b_x_4.cell
    have l_x := b_x_4.lt
    have k_y := b_y_4.cell
    have l_y := b_y_4.lt
    have k_c := b_c_4.cell
    have l_c := b_c_4.lt
    go_wp2_with fail
    clear k_x l_x k_y l_y k_c l_c
    go_ret
    exact ⟨rfl, HB4.out⟩
  have h3 : (s.size : Int) + t.size ≤ 256 := by omega
  have t4 : (s ++ t).size ≤ 256 := by rw [size_app]; exact t3
  have S1 := law_pre s t
  have S2 := law_suf s t
  have S3 := law_has s t
  have b1 : bit true = 1 := rfl
  have s1 : ((s ++ t).size : Int) = (s.size : Int) + t.size := by rw [size_app]; omega
  have HSZ := Lib.hid s1
  have HS := Lib.hid (And.intro S1 (And.intro S2 S3))
  clear s1 S1 S2 S3
  go_enter Try.func8, Try.ntmps8
  go_wp2_with fail
  generalize hW : World.alloc _ _ = w1
  obtain ⟨hb, hz⟩ := al2 hW
  have b_x_1 := n21 hW
  have b_y_1 := n22 hW
  have HB1 := Lib.hid hb
  clear hW hz hb
  refine (bin_add (B := 0) (vs := [_, _, _, _]) (ws := [_, _, _, _]) (text_tm _ _ t1) (text_tm _ _ t2) (Nat.zero_le _) (fixed_text t1) (fixed_text t2) t3).mono ?_
  rintro x w2 ⟨rfl, hb⟩
  have b_x_2 := b_x_1.later hb
  have b_y_2 := b_y_1.later hb
  have HB2 := Lib.hid (bthen HB1.out hb)
  clear b_x_1 b_y_1
  clear hb
  have k_x := b_x_2.cell
  have l_x := b_x_2.lt
  have k_y := b_y_2.cell
  have l_y := b_y_2.lt
  go_wp2_with fail
  clear k_x l_x k_y l_y
  generalize hW : World.alloc _ _ = w3
  obtain ⟨hb, hz⟩ := al1 hW
  have b_c_3 := n11 hW
  have b_x_3 := b_x_2.later hb
  have b_y_3 := b_y_2.later hb
  have HB3 := Lib.hid (bthen HB2.out hb)
  clear b_x_2 b_y_2
  clear hW hz hb
  refine (bin_starts (B := 0) (vs := [_, _, _, _]) (ws := [_, _, _, _]) (text_tm _ _ t4) (text_tm _ _ t1) (Nat.zero_le _) (fixed_text t4) (fixed_text t1) (by decide)).mono ?_
  rintro x w4 ⟨rfl, hb⟩
  have b_x_4 := b_x_3.later hb
  have b_y_4 := b_y_3.later hb
  have b_c_4 := b_c_3.later hb
  have HB4 := Lib.hid (bthen HB3.out hb)
  clear b_x_3 b_y_3 b_c_3
  clear hb
  rw [HS.out.1, b1]
  have k_x := b_x_4.cell
  have l_x := b_x_4.lt
  have k_y := b_y_4.cell
  have l_y := b_y_4.lt
  have k_c := b_c_4.cell
  have l_c := b_c_4.lt
  go_wp2_with fail
  clear k_x l_x k_y l_y k_c l_c
  generalize hW : World.alloc _ _ = w5
  obtain ⟨hb, hz⟩ := al1 hW
  have b_f_5 := n11 hW
  have b_x_5 := b_x_4.later hb
  have b_y_5 := b_y_4.later hb
  have b_c_5 := b_c_4.later hb
  have HB5 := Lib.hid (bthen HB4.out hb)
  clear b_x_4 b_y_4 b_c_4
  clear hW hz hb
  refine (bin_ends (B := 0) (vs := [_, _, _, _]) (ws := [_, _, _, _]) (text_tm _ _ t4) (text_tm _ _ t2) (Nat.zero_le _) (fixed_text t4) (fixed_text t2) (by decide)).mono ?_
  rintro x w6 ⟨rfl, hb⟩
  have b_x_6 := b_x_5.later hb
  have b_y_6 := b_y_5.later hb
  have b_c_6 := b_c_5.later hb
  have b_f_6 := b_f_5.later hb
  have HB6 := Lib.hid (bthen HB5.out hb)
  clear b_x_5 b_y_5 b_c_5 b_f_5
  clear hb
  rw [HS.out.2.1, b1]
  have k_x := b_x_6.cell
  have l_x := b_x_6.lt
  have k_y := b_y_6.cell
  have l_y := b_y_6.lt
  have k_c := b_c_6.cell
  have l_c := b_c_6.lt
  have k_f := b_f_6.cell
  have l_f := b_f_6.lt
  go_wp2_with fail
  clear k_x l_x k_y l_y k_c l_c k_f l_f
  generalize hW : World.alloc _ _ = w7
  obtain ⟨hb, hz⟩ := al1 hW
  have b_g_7 := n11 hW
  have b_x_7 := b_x_6.later hb
  have b_y_7 := b_y_6.later hb
  have b_c_7 := b_c_6.later hb
  have b_f_7 := b_f_6.later hb
  have HB7 := Lib.hid (bthen HB6.out hb)
  clear b_x_6 b_y_6 b_c_6 b_f_6
  clear hW hz hb
  refine (bin_contains (B := 0) (vs := [_, _, _, _]) (ws := [_, _, _, _]) (text_tm _ _ t4) (text_tm _ _ t2) (Nat.zero_le _) (fixed_text t4) (fixed_text t2) (m := m) ((HB7.out.cell (p := ⟨0, 0, none⟩) h0).trans HM.out) (Nat.lt_of_lt_of_le h0 HB7.out.size) t4).mono ?_
  rintro x w8 ⟨rfl, hb⟩
  have b_x_8 := b_x_7.later hb
  have b_y_8 := b_y_7.later hb
  have b_c_8 := b_c_7.later hb
  have b_f_8 := b_f_7.later hb
  have b_g_8 := b_g_7.later hb
  have HB8 := Lib.hid (bthen HB7.out hb)
  clear b_x_7 b_y_7 b_c_7 b_f_7 b_g_7
  clear hb
  rw [HS.out.2.2, b1]
  have k_x := b_x_8.cell
  have l_x := b_x_8.lt
  have k_y := b_y_8.cell
  have l_y := b_y_8.lt
  have k_c := b_c_8.cell
  have l_c := b_c_8.lt
  have k_f := b_f_8.cell
  have l_f := b_f_8.lt
  have k_g := b_g_8.cell
  have l_g := b_g_8.lt
  go_wp2_with fail
  clear k_x l_x k_y l_y k_c l_c k_f l_f k_g l_g
  generalize hW : World.alloc _ _ = w9
  obtain ⟨hb, hz⟩ := al1 hW
  have b_h_9 := n11 hW
  have b_x_9 := b_x_8.later hb
  have b_y_9 := b_y_8.later hb
  have b_c_9 := b_c_8.later hb
  have b_f_9 := b_f_8.later hb
  have b_g_9 := b_g_8.later hb
  have HB9 := Lib.hid (bthen HB8.out hb)
  clear b_x_8 b_y_8 b_c_8 b_f_8 b_g_8
  clear hW hz hb
  refine (un_length (B := 0) (vs := [_, _, _, _]) (text_tm _ _ t4) (Nat.zero_le _) (fixed_text t4)).mono ?_
  rintro x w10 ⟨rfl, hb⟩
  have b_x_10 := b_x_9.later hb
  have b_y_10 := b_y_9.later hb
  have b_c_10 := b_c_9.later hb
  have b_f_10 := b_f_9.later hb
  have b_g_10 := b_g_9.later hb
  have b_h_10 := b_h_9.later hb
  have HB10 := Lib.hid (bthen HB9.out hb)
  clear b_x_9 b_y_9 b_c_9 b_f_9 b_g_9 b_h_9
  clear hb
  rw [HSZ.out]
  have k_x := b_x_10.cell
  have l_x := b_x_10.lt
  have k_y := b_y_10.cell
  have l_y := b_y_10.lt
  have k_c := b_c_10.cell
  have l_c := b_c_10.lt
  have k_f := b_f_10.cell
  have l_f := b_f_10.lt
  have k_g := b_g_10.cell
  have l_g := b_g_10.lt
  have k_h := b_h_10.cell
  have l_h := b_h_10.lt
  go_wp2_with fail
  clear k_x l_x k_y l_y k_c l_c k_f l_f k_g l_g k_h l_h
  generalize hW : World.alloc _ _ = w11
  obtain ⟨hb, hz⟩ := al1 hW
  have b_i_11 := n11 hW
  have b_x_11 := b_x_10.later hb
  have b_y_11 := b_y_10.later hb
  have b_c_11 := b_c_10.later hb
  have b_f_11 := b_f_10.later hb
  have b_g_11 := b_g_10.later hb
  have b_h_11 := b_h_10.later hb
  have HB11 := Lib.hid (bthen HB10.out hb)
  clear b_x_10 b_y_10 b_c_10 b_f_10 b_g_10 b_h_10
  clear hW hz hb
  have k_x := b_x_11.cell
  have l_x := b_x_11.lt
  have k_y := b_y_11.cell
  have l_y := b_y_11.lt
  have k_c := b_c_11.cell
  have l_c := b_c_11.lt
  have k_f := b_f_11.cell
  have l_f := b_f_11.lt
  have k_g := b_g_11.cell
  have l_g := b_g_11.lt
  have k_h := b_h_11.cell
  have l_h := b_h_11.lt
  have k_i := b_i_11.cell
  have l_i := b_i_11.lt
  go_wp2_with fail
  clear k_x l_x k_y l_y k_c l_c k_f l_f k_g l_g k_h l_h k_i l_i
  refine (awake_any _).mono ?_
  rintro x w12 ⟨rfl, hb⟩
  have b_x_12 := b_x_11.later hb
  have b_y_12 := b_y_11.later hb
  have b_c_12 := b_c_11.later hb
  have b_f_12 := b_f_11.later hb
  have b_g_12 := b_g_11.later hb
  have b_h_12 := b_h_11.later hb
  have b_i_12 := b_i_11.later hb
  have HB12 := Lib.hid (bthen HB11.out hb)
  clear b_x_11 b_y_11 b_c_11 b_f_11 b_g_11 b_h_11 b_i_11
  clear hb
  have k_x := b_x_12.cell
  have l_x := b_x_12.lt
  have k_y := b_y_12.cell
  have l_y := b_y_12.lt
  have k_c := b_c_12.cell
  have l_c := b_c_12.lt
  have k_f := b_f_12.cell
  have l_f := b_f_12.lt
  have k_g := b_g_12.cell
  have l_g := b_g_12.lt
  have k_h := b_h_12.cell
  have l_h := b_h_12.lt
  have k_i := b_i_12.cell
  have l_i := b_i_12.lt
  go_wp2_with fail
  clear k_x l_x k_y l_y k_c l_c k_f l_f k_g l_g k_h l_h k_i l_i
  go_ret
  exact ⟨rfl, HB12.out⟩
end Go.Proofs.Yteopojoflhmiiaa
