/- lex.Quote. -/
import Derived.Test.YtijajfelmekmiaaDoorLHex
set_option linter.unusedVariables false
set_option linter.unusedSimpArgs false
namespace Go.Proofs.YtijajfelmekmiaaDoor
open Go.ChangeShapes Go.WideShapes Go.ChangeAt Go.RowKit

theorem bthen' {B : Nat} {a b c : World} (h : Below B a b) (hB : B ≤ b.heap.size) (k : Below b.heap.size b c) : Below B a c := h.trans (k.mono hB)
theorem ext_one {s : ByteArray} {k : Nat} (h : k < s.size) : s.extract k (k + 1) = mkS [s[k]] := by
  have h1 : k < (bs s).length := by rw [bs_length]; exact h
  have e := List.drop_eq_getElem_cons h1
  rw [bs_get s k h] at e
  exact ext_split (m := [s[k]]) (r := (bs s).drop (k + 1)) e
theorem take_qb {s : ByteArray} {k : Nat} (h : k < s.size) : qb ((bs s).take (k + 1)) = qb ((bs s).take k) ++ qc s[k] := by
  have hlk : k < (bs s).length := by rw [bs_length]; exact h
  rw [List.take_succ_eq_append_getElem hlk, bs_get s k h, qb_append, qb_one]
theorem qc_bs {c : UInt8} (h : (c.toNat : Int) = 34 ∨ (c.toNat : Int) = 92) : bs ((({ data := #[92] } : ByteArray)) ++ mkS [c]) = qc c := by
  unfold qc; rw [if_pos h]; simp [mkS, bs]
theorem qc_n {c : UInt8} (h : (c.toNat : Int) = 10) : bs (({ data := #[92, 110] } : ByteArray)) = qc c := by
  unfold qc; rw [if_neg (by omega), if_pos h]
theorem qc_x {c : UInt8} (h1 : ¬ ((c.toNat : Int) = 34 ∨ (c.toNat : Int) = 92)) (h2 : (c.toNat : Int) ≠ 10) (h : (c.toNat : Int) < 32 ∨ 126 < (c.toNat : Int)) : bs ((({ data := #[92, 120] } : ByteArray)) ++ mkS (hexL [c])) = qc c := by
  unfold qc; rw [if_neg h1, if_neg h2, if_pos h, hexL_one]; simp [mkS, bs]
theorem qc_plain {c : UInt8} (h1 : ¬ ((c.toNat : Int) = 34 ∨ (c.toNat : Int) = 92)) (h2 : (c.toNat : Int) ≠ 10) (h : ¬ ((c.toNat : Int) < 32 ∨ 126 < (c.toNat : Int))) : [c] = qc c := by
  unfold qc; rw [if_neg h1, if_neg h2, if_neg h]

set_option maxRecDepth 100000 in
set_option maxHeartbeats 4000000 in
theorem quote_any {w : World} {s : ByteArray} (hs : s.size ≤ 100000) :
    Calls Tryd.prog 10 #[.string s] w fun e w' => e = .returned (.string (mkS (quoteL (bs s)))) ∧ Below w.heap.size w w' := by
  go_enter Tryd.func10, Tryd.ntmps10
  go_wp2_with fail
  refine (write_byte (base := w.heap.size) (l := []) 34 (Lib.fresh_isBuilder 45 5 w) (by simp) (by simp)).mono ?_
  rintro e w1 ⟨rfl, hd, hb⟩
  have HD := Lib.hid hd
  have HB1 := Lib.hid (((Below.refl w.heap.size w).alloc (Nat.le_refl _) (.cells #[.pointer none, .slice none 0 0] 45)).trans hb)
  clear hd hb
  go_wp2_with fail
  go_loopw [9] (fun i wr => ∃ k : Nat, k ≤ s.size ∧ i = .int .i64 k ∧ Hid (BD wr w.heap.size w.heap.size (34 :: qb ((bs s).take k))) ∧ Below w.heap.size w wr) (fun i _ => s.size - (intOf i).toNat)
  case atStart => exact ⟨0, by omega, rfl, HD, HB1.out⟩
  case round =>
    obtain ⟨k, hk, rfl, HW, hbw⟩ := hrel
    have HBW := Lib.hid hbw
    have hszr := hbw.size
    have hlen : (34 :: qb ((bs s).take k)).length ≤ 1000000 := by
      have h1 := qb_len ((bs s).take k)
      have h2 : ((bs s).take k).length ≤ k := by rw [List.length_take]; omega
      rw [List.length_cons]; omega
    clear hbw
    by_cases hlt : k < s.size
    · have i1 : (k : Int) < s.size := by omega
      have HN := take_qb hlt
      have HX := ext_one hlt
      have hc8 := (s[k]'hlt).toNat_lt
      have ke := run_slice_string (P := Tryd.prog) wr 9 s .i64 .i64 (k : Int) ((k : Int) + 1) Tryd.underlying9 (by omega) (by omega) (by omega)
      rw [show (k : Int).toNat = k by omega, show ((k : Int) + 1).toNat = k + 1 by omega, HX] at ke
      have HQ := Lib.hid HN
      have HK := Lib.hid HX
      clear HN HX
      have fin : ∀ (wz : World) (z : Bytes), z = qc s[k] → BD wz w.heap.size w.heap.size ((34 :: qb ((bs s).take k)) ++ z) → BD wz w.heap.size w.heap.size (34 :: qb ((bs s).take (k + 1))) := fun wz z hz h => by
        rw [HQ.out, ← hz]; exact h
      have FIN := Lib.hid fin
      clear fin
      by_cases q1 : (s[k].toNat : Int) = 34
      · go_wp2_with fail
        refine (write_string _ HW.out hlen (by rw [size_app]; exact Nat.le_of_ble_eq_true rfl) hszr).mono ?_
        rintro e w2 ⟨rfl, hd, hb⟩
        have HW2 := Lib.hid (FIN.out _ _ (qc_bs (.inl q1)) hd)
        have HB2 := Lib.hid (HBW.out.trans hb)
        clear hd hb
        go_wp2_with fail
        go_roundw
        case rel => exact ⟨k + 1, by omega, by go_num, HW2, HB2.out⟩
        case measure => simp [intOf]; omega
      by_cases q2 : (s[k].toNat : Int) = 92
      · go_wp2_with fail
        refine (write_string _ HW.out hlen (by rw [size_app]; exact Nat.le_of_ble_eq_true rfl) hszr).mono ?_
        rintro e w2 ⟨rfl, hd, hb⟩
        have HW2 := Lib.hid (FIN.out _ _ (qc_bs (.inr q2)) hd)
        have HB2 := Lib.hid (HBW.out.trans hb)
        clear hd hb
        go_wp2_with fail
        go_roundw
        case rel => exact ⟨k + 1, by omega, by go_num, HW2, HB2.out⟩
        case measure => simp [intOf]; omega
      by_cases q3 : (s[k].toNat : Int) = 10
      · go_wp2_with fail
        refine (write_string _ HW.out hlen (by decide) hszr).mono ?_
        rintro e w2 ⟨rfl, hd, hb⟩
        have HW2 := Lib.hid (FIN.out _ _ (qc_n q3) hd)
        have HB2 := Lib.hid (HBW.out.trans hb)
        clear hd hb
        go_wp2_with fail
        go_roundw
        case rel => exact ⟨k + 1, by omega, by go_num, HW2, HB2.out⟩
        case measure => simp [intOf]; omega
      have HN1 := Lib.hid (show ¬ ((s[k].toNat : Int) = 34 ∨ (s[k].toNat : Int) = 92) by omega)
      have r1 : ((s[k].toNat : Int) == 34) = false := beq_eq_false_iff_ne.2 q1
      have r2 : ((s[k].toNat : Int) == 92) = false := beq_eq_false_iff_ne.2 q2
      have r3 : ((s[k].toNat : Int) == 10) = false := beq_eq_false_iff_ne.2 q3
      have hsx : (mkS [s[k]]).size ≤ 100000 := Nat.le_of_ble_eq_true rfl
      by_cases q4 : (s[k].toNat : Int) < 32
      · go_wp2_with fail
        refine (hexS_any hsx).mono ?_
        rintro e w2 ⟨rfl, hb⟩
        have HW1 := Lib.hid (bd_later HW.out hb)
        have HB1 := Lib.hid (bthen' HBW.out hszr hb)
        have hsz1 : w.heap.size ≤ w2.heap.size := Nat.le_trans hszr hb.size
        clear hb
        go_wp2_with fail
        refine (write_string _ HW1.out hlen (by rw [size_app]; exact Nat.le_of_ble_eq_true rfl) hsz1).mono ?_
        rintro e w3 ⟨rfl, hd, hb⟩
        have HW2 := Lib.hid (FIN.out _ _ (qc_x HN1.out q3 (.inl q4)) hd)
        have HB2 := Lib.hid (HB1.out.trans hb)
        clear hd hb
        go_wp2_with fail
        go_roundw
        case rel => exact ⟨k + 1, by omega, by go_num, HW2, HB2.out⟩
        case measure => simp [intOf]; omega
      by_cases q5 : 126 < (s[k].toNat : Int)
      · go_wp2_with fail
        refine (hexS_any hsx).mono ?_
        rintro e w2 ⟨rfl, hb⟩
        have HW1 := Lib.hid (bd_later HW.out hb)
        have HB1 := Lib.hid (bthen' HBW.out hszr hb)
        have hsz1 : w.heap.size ≤ w2.heap.size := Nat.le_trans hszr hb.size
        clear hb
        go_wp2_with fail
        refine (write_string _ HW1.out hlen (by rw [size_app]; exact Nat.le_of_ble_eq_true rfl) hsz1).mono ?_
        rintro e w3 ⟨rfl, hd, hb⟩
        have HW2 := Lib.hid (FIN.out _ _ (qc_x HN1.out q3 (.inr q5)) hd)
        have HB2 := Lib.hid (HB1.out.trans hb)
        clear hd hb
        go_wp2_with fail
        go_roundw
        case rel => exact ⟨k + 1, by omega, by go_num, HW2, HB2.out⟩
        case measure => simp [intOf]; omega
      · go_wp2_with fail
        refine (write_byte s[k] HW.out hlen hszr).mono ?_
        rintro e w2 ⟨rfl, hd, hb⟩
        have HW2 := Lib.hid (FIN.out _ _ (qc_plain HN1.out q3 (by omega)) hd)
        have HB2 := Lib.hid (HBW.out.trans hb)
        clear hd hb
        go_wp2_with fail
        go_roundw
        case rel => exact ⟨k + 1, by omega, by go_num, HW2, HB2.out⟩
        case measure => simp [intOf]; omega
    · go_wp2_with fail
      refine (write_byte 34 HW.out hlen hszr).mono ?_
      rintro e w2 ⟨rfl, hd, hb⟩
      have HW2 := Lib.hid hd
      have HB2 := Lib.hid (HBW.out.trans hb)
      have hsz2 : w.heap.size ≤ w2.heap.size := HB2.out.size
      clear hd hb
      go_wp2_with fail
      refine (Tryd.Builder_String w.heap.size w.heap.size _ _ HW2.out (by simp)).mono ?_
      rintro e w3 ⟨rfl, hb⟩
      have HB3 := Lib.hid (HB2.out.trans hb)
      clear hb
      go_wp2_with fail
      go_ret
      refine ⟨ret_str ?_, HB3.out⟩
      rw [List.take_of_length_le (by rw [bs_length]; omega)]
      rfl
end Go.Proofs.YtijajfelmekmiaaDoor
