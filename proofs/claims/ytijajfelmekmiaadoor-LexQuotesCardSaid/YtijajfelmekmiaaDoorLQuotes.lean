/- viaticumlaw15.LexQuotes. -/
import Derived.Test.YtijajfelmekmiaaDoorLQuote
set_option linter.unusedVariables false
set_option linter.unusedSimpArgs false
namespace Go.Proofs.YtijajfelmekmiaaDoor
open Go.ChangeShapes Go.WideShapes Go.ChangeAt Go.RowKit

theorem size_mkS (l : Bytes) : (mkS l).size = l.length := by rw [← bs_length, bs_mkS]
theorem quotes_text (S T : ByteArray) : bs (mkS (quoteL (bs S)) ++ ({ data := #[32, 104, 101, 120, 58] } : ByteArray) ++ mkS (hexL (bs T))) = quoteL (bs S) ++ (32 :: 104 :: 101 :: 120 :: 58 :: hexL (bs T)) := by
  rw [bs_app, bs_app, bs_mkS, bs_mkS, List.append_assoc]; rfl

set_option maxRecDepth 100000 in
set_option maxHeartbeats 8000000 in
theorem lexQuotes_any {w : World} {S T : ByteArray} (hs : S.size ≤ 140737488351232) (ht : T.size ≤ 140737488351232) (hv : ErrOk w) (h2 : 2 < w.heap.size) :
    Calls Tryd.prog 7 #[.string S, .string T] w fun e w' => e = .returned (.bool true) ∧ Below w.heap.size w w' := by
  have HV := Lib.hid hv
  clear hv
  by_cases z1 : (S.size : Int) > 300
  · go_enter Tryd.func7, Tryd.ntmps7
    go_wp2_with fail
    refine (awake_any HV.out h2).mono ?_
    rintro e w1 ⟨rfl, hb⟩
    have HB1 := Lib.hid hb
    clear hb
    go_wp2_with fail
    go_ret
    exact ⟨rfl, HB1.out⟩
  by_cases z2 : (T.size : Int) > 300
  · go_enter Tryd.func7, Tryd.ntmps7
    go_wp2_with fail
    refine (awake_any HV.out h2).mono ?_
    rintro e w1 ⟨rfl, hb⟩
    have HB1 := Lib.hid hb
    clear hb
    go_wp2_with fail
    go_ret
    exact ⟨rfl, HB1.out⟩
  go_enter Tryd.func7, Tryd.ntmps7
  go_wp2_with fail
  have hzq : (mkS (quoteL (bs S))).size ≤ 1300 := by
    have := qb_len (bs S)
    rw [bs_length] at this
    rw [size_mkS]
    simp only [quoteL, List.length_cons, List.length_append, List.length_nil]; omega
  have hzh : (mkS (hexL (bs T))).size ≤ 600 := by rw [size_mkS, hexL_len, bs_length]; omega
  refine (quote_any (s := S) (by omega)).mono ?_
  rintro e w1 ⟨rfl, hb⟩
  have HB1 := Lib.hid hb
  have HV1 := Lib.hid (HV.out.keep hb h2)
  have h21 : 2 < w1.heap.size := Nat.lt_of_lt_of_le h2 hb.size
  clear hb
  go_wp2_with fail
  refine (hexS_any (s := T) (by omega)).mono ?_
  rintro e w2 ⟨rfl, hb⟩
  have HB2 := Lib.hid (bthen HB1.out hb)
  have HV2 := Lib.hid (HV1.out.keep hb h21)
  have h22 : 2 < w2.heap.size := Nat.lt_of_lt_of_le h21 hb.size
  clear hb
  go_wp2_with fail
  have hLx := quotes_lx (bs S) (bs T)
  rw [← quotes_text, bs_length, bs_length] at hLx
  have hzU : (mkS (quoteL (bs S)) ++ ({ data := #[32, 104, 101, 120, 58] } : ByteArray) ++ mkS (hexL (bs T))).size ≤ 2000 := by
    have h5 : ({ data := #[32, 104, 101, 120, 58] } : ByteArray).size = 5 := rfl
    rw [size_app, size_app]; omega
  rw [mkS_bs, mkS_bs, ← size_mkS (quoteL (bs S))] at hLx
  have HLX := Lib.hid hLx
  clear hLx hzh
  generalize hq : mkS (quoteL (bs S)) = q at *
  clear hq
  generalize q ++ ({ data := #[32, 104, 101, 120, 58] } : ByteArray) ++ mkS (hexL (bs T)) = U at *
  refine (words_any (s := U) (by omega) HV2.out h22).mono ?_
  rintro e w3 hp
  by_cases z3 : 256 < S.size
  · have hx := HLX.out
    rw [if_pos z3, if_pos z3] at hx
    obtain ⟨hb, _, hbad⟩ := lx_words hx (by simp) hp
    obtain rfl := hbad _ rfl
    have HB3 := Lib.hid (bthen HB2.out hb)
    have HV3 := Lib.hid (HV2.out.keep hb h22)
    have h23 : 2 < w3.heap.size := Nat.lt_of_lt_of_le h22 hb.size
    have z3' : (S.size : Int) > 256 := by omega
    clear hb hp hx hbad
    go_wp2_with fail
    refine (awake_any HV3.out h23).mono ?_
    rintro e w4 ⟨rfl, hb⟩
    have HB4 := Lib.hid (bthen HB3.out hb)
    clear hb
    go_wp2_with fail
    go_ret
    exact ⟨rfl, HB4.out⟩
  by_cases z4 : 256 < T.size
  · have hx := HLX.out
    rw [if_neg z3, if_neg z3, if_pos z4, if_pos z4] at hx
    obtain ⟨hb, _, hbad⟩ := lx_words hx (by simp) hp
    have e3 := hbad _ rfl
    rw [show ((q.size + 1 : Nat) : Int) = (q.size : Int) + 1 by omega] at e3
    subst e3
    have HB3 := Lib.hid (bthen HB2.out hb)
    have HV3 := Lib.hid (HV2.out.keep hb h22)
    have h23 : 2 < w3.heap.size := Nat.lt_of_lt_of_le h22 hb.size
    have z3' : ¬ (S.size : Int) > 256 := by omega
    have z4' : (T.size : Int) > 256 := by omega
    clear hb hp hx hbad
    go_wp2_with fail
    refine (awake_any HV3.out h23).mono ?_
    rintro e w4 ⟨rfl, hb⟩
    have HB4 := Lib.hid (bthen HB3.out hb)
    clear hb
    go_wp2_with fail
    go_ret
    exact ⟨rfl, HB4.out⟩
  · have hx := HLX.out
    rw [if_neg z3, if_neg z3, if_neg z4, if_neg z4] at hx
    obtain ⟨hb, hok, _⟩ := lx_words hx (by simp) hp
    obtain ⟨v, rfl, hr⟩ := hok rfl
    obtain ⟨b, off, c, rfl, hc1, hc2⟩ := two_at hr (Nat.le_refl _)
    obtain ⟨l1, ka0, ka1, ka2, ka3⟩ := hc1
    obtain ⟨l2, kc0, kc1, kc2, kc3⟩ := hc2
    simp only at ka0 ka1 ka2 ka3 kc0 kc1 kc2 kc3
    rw [show ((q.size + 1 : Nat) : Int) = (q.size : Int) + 1 by omega] at kc3
    have HB3 := Lib.hid (bthen HB2.out hb)
    have HV3 := Lib.hid (HV2.out.keep hb h22)
    have h23 : 2 < w3.heap.size := Nat.lt_of_lt_of_le h22 hb.size
    have z3' : ¬ (S.size : Int) > 256 := by omega
    have z4' : ¬ (T.size : Int) > 256 := by omega
    clear hb hp hx hok hr l2
    go_wp2_with fail
    refine (awake_any HV3.out h23).mono ?_
    rintro e w4 ⟨rfl, hb⟩
    have HB4 := Lib.hid (bthen HB3.out hb)
    clear hb
    go_wp2_with fail
    go_ret
    exact ⟨rfl, HB4.out⟩
end Go.Proofs.YtijajfelmekmiaaDoor
