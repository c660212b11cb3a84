/- viaticumlaw15.LexNames. -/
import Derived.Test.YtijajfelmekmiaaDoorLWords
set_option linter.unusedVariables false
set_option linter.unusedSimpArgs false
namespace Go.Proofs.YtijajfelmekmiaaDoor
open Go.ChangeShapes Go.WideShapes Go.ChangeAt Go.RowKit

def nameL (m : Nat) : List UInt8 := 110 :: List.replicate m 97
theorem nameL_len (m : Nat) : (nameL m).length = m + 1 := by simp [nameL]
theorem nameL_all (m : Nat) : ∀ c ∈ nameL m, namedB c.toNat = true := by
  intro c hc
  rcases List.mem_cons.1 hc with rfl | hc
  · rfl
  · rw [(List.mem_replicate.1 hc).2]; rfl
theorem get0 {s : ByteArray} {c : UInt8} {r : List UInt8} (h : bs s = c :: r) : ∃ h0 : 0 < s.size, s[0] = c := by
  obtain ⟨h0, h1, _⟩ := bs_cons h
  exact ⟨h0, h1⟩
theorem blank0 {s : ByteArray} {c : UInt8} {r : List UInt8} (h : bs s = c :: r) (hc : blankB c.toNat = false) : runN blankB s 0 = 0 :=
  run_split (m := []) (r := bs s) (a := 0) rfl (fun _ h => by cases h) (fun x hx => by rw [h] at hx; obtain rfl := Option.some.inj hx; exact hc)
theorem size_bs {s : ByteArray} {l : List UInt8} (h : bs s = l) : s.size = l.length := by rw [← bs_length, h]

theorem name_next {s : ByteArray} {m : Nat} (h : bs s = nameL m) : ∀ k S n to bad, NextR s 0 k S n to bad → k = 1 ∧ S = s ∧ n = 0 ∧ to = s.size ∧ bad = decide (32 < m + 1) := by
  intro k S n to bad hn
  have hd : (bs s).drop 0 = nameL m ++ [] := by rw [List.drop_zero, h, List.append_nil]
  have hr : runN namedB s 0 = m + 1 := (run_split hd (nameL_all m) (fun _ h => by cases h)).trans (nameL_len m)
  have hc : cls ((bs s).drop 0) = 1 := by rw [List.drop_zero, h]; rfl
  obtain ⟨h1, h2, h3, h4, h5⟩ := next1 hn hc
  have hz : s.size = m + 1 := (size_bs h).trans (nameL_len m)
  rw [hr] at h2 h4 h5
  refine ⟨h1, ?_, h3, by omega, ?_⟩
  · rw [h2, Nat.zero_add, ← hz]
    have := ext_split (a := 0) (m := nameL m) (r := []) hd
    rw [nameL_len, Nat.zero_add, ← hz, ← h, mkS_bs] at this
    exact this
  · rw [h5, decide_eq_decide]; omega
theorem var_next {s S0 : ByteArray} {m : Nat} (h0 : bs S0 = nameL m) (h : bs s = 36 :: nameL m) : ∀ k S n to bad, NextR s 0 k S n to bad → k = 2 ∧ S = S0 ∧ n = 0 ∧ to = s.size ∧ bad = decide (32 < m + 1) := by
  intro k S n to bad hn
  have hd : (bs s).drop 1 = nameL m ++ [] := by rw [h, List.append_nil]; rfl
  have hr : runN namedB s 1 = m + 1 := (run_split hd (nameL_all m) (fun _ h => by cases h)).trans (nameL_len m)
  have hc : cls ((bs s).drop 0) = 2 := by rw [List.drop_zero, h]; rfl
  have hz : s.size = m + 1 + 1 := (size_bs h).trans (by rw [List.length_cons, nameL_len])
  have hh : nameHere s (0 + 1) = true := by
    have h1 : 1 < s.size := by omega
    unfold nameHere
    rw [dif_pos h1, ← bs_get s 1 h1]
    simp only [h]
    rfl
  obtain ⟨h1, h2, h3, h4, h5⟩ := next2 hn hc hh
  rw [Nat.zero_add, hr] at h2 h4 h5
  refine ⟨h1, ?_, h3, by omega, ?_⟩
  · have := ext_split (a := 1) (m := nameL m) (r := []) hd
    rw [nameL_len] at this
    rw [h2, this, ← h0, mkS_bs]
  · rw [h5, decide_eq_decide]; omega
theorem digit_next {s : ByteArray} {c : UInt8} (h : bs s = [36, c]) (hc : letterB c.toNat = false) : ∀ k S n to bad, NextR s 0 k S n to bad → bad = true := by
  intro k S n to bad hn
  have hcl : cls ((bs s).drop 0) = 2 := by rw [List.drop_zero, h]; rfl
  have hz : s.size = 2 := size_bs h
  refine next2n hn hcl ?_
  have h1 : 1 < s.size := by omega
  unfold nameHere
  rw [dif_pos h1, ← bs_get s 1 h1]
  simp only [h]
  exact hc

theorem names_name {s : ByteArray} {m : Nat} {w w' : World} {e : Ending} (h : bs s = nameL m) (hp : WordsPost s w e w') : Below w.heap.size w w' ∧
    (m + 1 ≤ 32 → ∃ v, e = .returned (.tuple #[v, .int .i64 0, .int .i64 0]) ∧ RSl WdR w' w'.heap.size [⟨1, s, 0, 0⟩] v) ∧
    (32 < m + 1 → e = .returned (.tuple #[.slice none 0 0, .int .i64 0, .int .i64 3])) := by
  obtain ⟨h0, _⟩ := get0 (r := List.replicate m 97) h
  refine ⟨hp.1, fun hm => (one_ok h0 (blank0 h rfl) (fun k S n to bad hn => ?_) hp).2, fun hm => (one_bad h0 (blank0 h rfl) (fun k S n to bad hn => ?_) hp).2⟩
  · obtain ⟨h1, h2, h3, h4, h5⟩ := name_next h _ _ _ _ _ hn
    exact ⟨by rw [h5, decide_eq_false]; omega, h1, h2, h3, h4⟩
  · obtain ⟨h1, h2, h3, h4, h5⟩ := name_next h _ _ _ _ _ hn
    rw [h5, decide_eq_true hm]
theorem names_var {s S0 : ByteArray} {m : Nat} {w w' : World} {e : Ending} (hS : bs S0 = nameL m) (h : bs s = 36 :: nameL m) (hp : WordsPost s w e w') : Below w.heap.size w w' ∧
    (m + 1 ≤ 32 → ∃ v, e = .returned (.tuple #[v, .int .i64 0, .int .i64 0]) ∧ RSl WdR w' w'.heap.size [⟨2, S0, 0, 0⟩] v) ∧
    (32 < m + 1 → e = .returned (.tuple #[.slice none 0 0, .int .i64 0, .int .i64 3])) := by
  obtain ⟨h0, _⟩ := get0 h
  refine ⟨hp.1, fun hm => (one_ok h0 (blank0 h rfl) (fun k S n to bad hn => ?_) hp).2, fun hm => (one_bad h0 (blank0 h rfl) (fun k S n to bad hn => ?_) hp).2⟩
  · obtain ⟨h1, h2, h3, h4, h5⟩ := var_next hS h _ _ _ _ _ hn
    exact ⟨by rw [h5, decide_eq_false]; omega, h1, h2, h3, h4⟩
  · obtain ⟨h1, h2, h3, h4, h5⟩ := var_next hS h _ _ _ _ _ hn
    rw [h5, decide_eq_true hm]
theorem names_digit {s : ByteArray} {c : UInt8} {w w' : World} {e : Ending} (h : bs s = [36, c]) (hc : letterB c.toNat = false) (hp : WordsPost s w e w') : Below w.heap.size w w' ∧ e = .returned (.tuple #[.slice none 0 0, .int .i64 0, .int .i64 3]) := by
  obtain ⟨h0, _⟩ := get0 h
  exact one_bad h0 (blank0 h rfl) (digit_next h hc) hp

theorem u64_nonneg (n : Int) : 0 ≤ IntKind.u64.wrap n := by
  have e1 : IntKind.u64.signed = false := rfl
  have e2 : IntKind.u64.bits = 64 := rfl
  unfold IntKind.wrap
  simp only [e1, e2]
  simp
  omega
theorem size_app (x y : ByteArray) : (x ++ y).size = x.size + y.size := by simp
theorem bs_app (x y : ByteArray) : bs (x ++ y) = bs x ++ bs y := by simp [bs]

set_option maxRecDepth 100000 in
set_option maxHeartbeats 8000000 in
theorem lexNames_any {w : World} {n : Int} {c : Int} (hn : I64 n) (hc : 0 ≤ c ∧ c ≤ 255) (hv : ErrOk w) (h2 : 2 < w.heap.size) :
    Calls Tryd.prog 6 #[.int .i64 n, .int .u8 c] w fun e w' => e = .returned (.bool true) ∧ Below w.heap.size w w' := by
  have HV := Lib.hid hv
  clear hv
  go_enter Tryd.func6, Tryd.ntmps6
  obtain ⟨m, hm, hm40⟩ : ∃ m : Nat, (IntKind.u64.wrap n).tmod 40 = (m : Int) ∧ m < 40 := by
    have h0 : 0 ≤ IntKind.u64.wrap n := u64_nonneg n
    refine ⟨((IntKind.u64.wrap n).tmod 40).toNat, ?_, ?_⟩
    · rw [Int.tmod_eq_emod_of_nonneg h0]; omega
    · rw [Int.tmod_eq_emod_of_nonneg h0]; omega
  go_wp2_with fail
  have e1 : wrap64 (m : Int) = m := by unfold wrap64; omega
  have e2 : wrap64 (1 + (m : Int)) = m + 1 := by unfold wrap64; omega
  have e3 : wrap64 ((m : Int) + 1 - 1) = m := by unfold wrap64; omega
  clear e1 e2 e3 hm hn
  go_loopw [5, 22] (fun v i wr => ∃ (k : Nat) (S : ByteArray), k ≤ m ∧ i = .int .i64 k ∧ v = .string S ∧ Hid (bs S = nameL k) ∧ wr = w) (fun _ i _ => m - (intOf i).toNat)
  case atStart => exact ⟨0, _, Nat.zero_le _, rfl, rfl, Lib.hid rfl, rfl⟩
  case round =>
    obtain ⟨k, S, hk, rfl, rfl, HS, rfl⟩ := hrel
    have hz := (size_bs HS.out).trans (nameL_len k)
    by_cases hlt : k < m
    · go_wp2_with fail
      go_roundw
      case rel => exact ⟨k + 1, _, by omega, by go_num, rfl, Lib.hid (by rw [bs_app, HS.out]; simp [nameL, List.replicate_succ']), trivial⟩
      case measure => simp [intOf]; omega
    · obtain rfl : k = m := by omega
      clear hk
      have HSZ := Lib.hid hz
      clear hz
      go_wp2_with fail
      refine (words_any (s := S) (by have := HSZ.out; omega) HV.out h2).mono ?_
      rintro e w1 hp
      obtain ⟨hb, hok, hbad⟩ := names_name HS.out hp
      have HB1 := Lib.hid hb
      have HV1 := Lib.hid (HV.out.keep hb h2)
      have h21 : 2 < w1.heap.size := Nat.lt_of_lt_of_le h2 hb.size
      clear hb hp
      by_cases hk32 : 32 < k + 1
      · obtain rfl := hbad hk32
        clear hok hbad
        have hz := HSZ.out
        go_wp2_with fail
        clear hz
        refine (words_any (s := (⟨#[36]⟩ : ByteArray) ++ S) (by rw [size_app]; have := HSZ.out; show 1 + S.size ≤ 20000; omega) HV1.out h21).mono ?_
        rintro e w2 hp
        obtain ⟨hb, _, hbad⟩ := names_var HS.out (by rw [bs_app, HS.out]; rfl) hp
        have HB2 := Lib.hid (bthen HB1.out hb)
        have HV2 := Lib.hid (HV1.out.keep hb h21)
        have h22 : 2 < w2.heap.size := Nat.lt_of_lt_of_le h21 hb.size
        obtain rfl := hbad hk32
        clear hb hp hbad
        have hgt : (1 + (k : Int) > 32) := by omega
        go_wp2_with fail
        refine (awake_any HV2.out h22).mono ?_
        rintro e w3 ⟨rfl, hb⟩
        have HB3 := Lib.hid (bthen HB2.out hb)
        clear hb
        go_wp2_with fail
        go_ret
        exact ⟨rfl, HB3.out⟩
      · obtain ⟨v, rfl, hr⟩ := hok (by omega)
        obtain ⟨b1, o1, c1, rfl, hw1⟩ := one_at hr (Nat.le_refl _)
        have HW1 := Lib.hid hw1
        clear hok hbad hr hw1
        have hz := HSZ.out
        go_wp2_with fail
        clear hz
        refine (words_any (s := (⟨#[36]⟩ : ByteArray) ++ S) (by rw [size_app]; have := HSZ.out; show 1 + S.size ≤ 20000; omega) HV1.out h21).mono ?_
        rintro e w2 hp
        obtain ⟨hb, hok, _⟩ := names_var HS.out (by rw [bs_app, HS.out]; rfl) hp
        have HB2 := Lib.hid (bthen HB1.out hb)
        have HV2 := Lib.hid (HV1.out.keep hb h21)
        have h22 : 2 < w2.heap.size := Nat.lt_of_lt_of_le h21 hb.size
        obtain ⟨v, rfl, hr⟩ := hok (by omega)
        obtain ⟨b2, o2, c2, rfl, hw2⟩ := one_at hr (Nat.le_refl _)
        have HW2 := Lib.hid hw2
        have HW12 := Lib.hid (HW1.out.keep hb)
        clear hb hp hok hr hw2
        have hgt : ¬ (1 + (k : Int) > 32) := by omega
        have kc := conv_one (x := 48 + c % 10) (by omega)
        go_wp2_with fail
        clear kc
        generalize hW : World.alloc _ _ = w21
        obtain ⟨hb, hz21⟩ := al1 hW
        clear hW
        have HB21 := Lib.hid (bthen HB2.out hb)
        have HV21 := Lib.hid (HV2.out.keep hb h22)
        have h221 : 2 < w21.heap.size := by omega
        have HWA := Lib.hid (HW12.out.keep hb)
        have HWB := Lib.hid (HW2.out.keep hb)
        clear hb hz21
        refine (words_any (s := (⟨#[36]⟩ : ByteArray) ++ mkS [byteOf (48 + c % 10)]) (by rw [size_app]; show 1 + 1 ≤ 20000; omega) HV21.out h221).mono ?_
        rintro e w3 hp
        obtain ⟨hb, rfl⟩ := names_digit (c := byteOf (48 + c % 10)) (by rw [bs_app, bs_mkS]; rfl) (by rw [byteOf_nat (by omega)]; unfold letterB; simp only [Bool.or_eq_false_iff, Bool.and_eq_false_iff, decide_eq_false_iff_not]; omega) hp
        have HB3 := Lib.hid (bthen HB21.out hb)
        have HV3 := Lib.hid (HV21.out.keep hb h221)
        have h23 : 2 < w3.heap.size := Nat.lt_of_lt_of_le h221 hb.size
        obtain ⟨_, ka0, ka1, ka2, ka3⟩ := HWA.out.keep hb
        obtain ⟨_, kb0, kb1, kb2, kb3⟩ := HWB.out.keep hb
        have eS : (S.toList == S.toList) = true := by simp
        clear hb hp
        go_wp2_with fail
        refine (awake_any HV3.out h23).mono ?_
        rintro e w4 ⟨rfl, hb⟩
        have HB4 := Lib.hid (bthen HB3.out hb)
        clear hb
        go_wp2_with fail
        go_ret
        exact ⟨rfl, HB4.out⟩
end Go.Proofs.YtijajfelmekmiaaDoor
