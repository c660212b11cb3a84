/- viaticumlaw15.LexInts. -/
import Derived.Test.YtijajfelmekmiaaDoorLWords
set_option linter.unusedVariables false
set_option linter.unusedSimpArgs false
namespace Go.Proofs.YtijajfelmekmiaaDoor
open Go.ChangeShapes Go.WideShapes Go.ChangeAt Go.RowKit

/-- What digits spell, behind a number. -/
def decV (acc : Nat) (l : List UInt8) : Nat := l.foldl (fun a c => a * 10 + (c.toNat - 48)) acc
theorem decV_nil (acc : Nat) : decV acc [] = acc := by unfold decV; rw [List.foldl_nil]
theorem decV_cons (acc : Nat) (c : UInt8) (r : List UInt8) : decV acc (c :: r) = decV (acc * 10 + (c.toNat - 48)) r := by unfold decV; rw [List.foldl_cons]
def Digs (l : List UInt8) : Prop := ∀ c ∈ l, 48 ≤ c.toNat ∧ c.toNat ≤ 57
theorem decV_ge : ∀ (l : List UInt8) (acc : Nat), acc * 10 ^ l.length ≤ decV acc l
  | [], acc => by rw [decV_nil]; simp
  | c :: r, acc => by
    have := decV_ge r (acc * 10 + (c.toNat - 48))
    rw [List.length_cons, Nat.pow_succ, decV_cons]
    refine Nat.le_trans ?_ this
    rw [show acc * (10 ^ r.length * 10) = acc * 10 * 10 ^ r.length by rw [Nat.mul_comm (10 ^ r.length) 10, ← Nat.mul_assoc]]
    exact Nat.mul_le_mul_right _ (by omega)
theorem decV_le (l : List UInt8) (acc : Nat) : acc ≤ decV acc l := Nat.le_trans (by have := Nat.pow_pos (n := l.length) (show 0 < 10 by omega); exact Nat.le_mul_of_pos_right acc this) (decV_ge l acc)
theorem parseM : ∀ (l : List UInt8) (acc : Nat), Digs l → decV acc l ≤ 2 ^ 64 - 1 → Lib.parseUintM (2 ^ 64 - 1) acc l = .ok (decV acc l)
  | [], acc, _, _ => rfl
  | c :: r, acc, hd, hl => by
    have hc := hd c (.head _)
    have h1 := decV_le r (acc * 10 + (c.toNat - 48))
    rw [decV_cons] at hl
    have h2 : acc * 10 + (c.toNat - 48) ≤ 2 ^ 64 - 1 := Nat.le_trans h1 hl
    unfold Lib.parseUintM
    rw [if_pos hc, if_neg (by omega), if_neg (by omega)]
    exact parseM r _ (fun x hx => hd x (.tail _ hx)) hl
theorem parseB {l : List UInt8} (h : l ≠ []) (hd : Digs l) (hl : decV 0 l ≤ 2 ^ 64 - 1) : Lib.parseUintB 64 l = .ok (decV 0 l) := by
  unfold Lib.parseUintB
  rw [if_neg h]
  exact parseM l 0 hd hl
theorem no84 : ∀ {l : List UInt8}, Digs l → Lib.indexByte l 84 < 0
  | [], _ => by simp [Lib.indexByte]
  | c :: r, hd => by
    have hc := hd c (.head _)
    have ih := no84 fun x hx => hd x (.tail _ hx)
    have hge := Lib.indexByte_ge r 84
    unfold Lib.indexByte
    have h1 : (c == 84) = false := by
      rw [beq_eq_false_iff_ne]
      intro e
      rw [e] at hc
      exact absurd hc.2 (by decide)
    have h2 : (Lib.indexByte r 84 == -1) = true := by rw [beq_iff_eq]; omega
    rw [h1, h2]
    simp
theorem digs_digit {l : List UInt8} (h : Digs l) : ∀ c ∈ l, digitB c.toNat = true := fun c hc => by
  have := h c hc
  unfold digitB
  simp only [Bool.and_eq_true, decide_eq_true_eq]
  omega
theorem digs_dated {l : List UInt8} (h : Digs l) : ∀ c ∈ l, datedB c.toNat = true := fun c hc => by
  unfold datedB
  rw [digs_digit h c hc]
  rfl
theorem next3 {s : ByteArray} {a : Nat} {k : Int} {S : ByteArray} {n : Int} {to : Nat} {bad : Bool} (h : NextR s a k S n to bad) (hc : cls ((bs s).drop a) = 3) (ht : Lib.indexByte (s.extract a (a + runN datedB s a)).data.toList 84 < 0) {u : Nat} (hu : Lib.parseUintB 64 (bs (s.extract a (a + runN digitB s a))) = .ok u) :
    k = 3 ∧ S = ⟨#[]⟩ ∧ n = wrap64 u ∧ to = a + runN digitB s a ∧ (bad = true ↔ NumBad s a u (runN digitB s a)) := by
  unfold NextR at h; rw [hc] at h
  exact (h.1 ht).1 u hu
/-- Digits to the end. -/
theorem next_digs {s : ByteArray} {a : Nat} {D : List UInt8} {k : Int} {S : ByteArray} {n : Int} {to : Nat} {bad : Bool} (h : NextR s a k S n to bad) (hd : (bs s).drop a = D) (hD : Digs D) (h0 : D ≠ []) (hv : decV 0 D ≤ 2 ^ 64 - 1) :
    k = 3 ∧ S = ⟨#[]⟩ ∧ n = wrap64 (decV 0 D) ∧ to = a + D.length ∧ (bad = true ↔ NumBad s a (decV 0 D) D.length) := by
  have hd2 : (bs s).drop a = D ++ [] := by rw [hd, List.append_nil]
  have r1 : runN datedB s a = D.length := run_split hd2 (digs_dated hD) (fun _ h => by cases h)
  have r2 : runN digitB s a = D.length := run_split hd2 (digs_digit hD) (fun _ h => by cases h)
  have e1 : s.extract a (a + D.length) = mkS D := ext_split hd2
  obtain ⟨c, r, rfl⟩ : ∃ c r, D = c :: r := by cases D with
    | nil => exact absurd rfl h0
    | cons c r => exact ⟨c, r, rfl⟩
  have hc := hD c (.head _)
  have hcl : cls ((bs s).drop a) = 3 := by
    rw [hd]
    have i34 : ¬ c.toNat = 34 := by omega
    have i36 : ¬ c.toNat = 36 := by omega
    have ne104 : ((104 : UInt8) == c) = false := by
      rw [beq_eq_false_iff_ne]; intro e; rw [← e] at hc; exact absurd hc.2 (by decide)
    have ne101 : ((101 : UInt8) == c) = false := by
      rw [beq_eq_false_iff_ne]; intro e; rw [← e] at hc; exact absurd hc.2 (by decide)
    have hl : letterB (c.toNat : Int) = false := by
      unfold letterB; simp only [Bool.or_eq_false_iff, Bool.and_eq_false_iff, decide_eq_false_iff_not]; omega
    have hg : digitB (c.toNat : Int) = true := digs_digit hD c (.head _)
    simp only [cls, Lib.hasPrefix, List.isPrefixOf, ne104, ne101, Bool.false_and, hl, hg, if_neg i34, if_neg i36]
    simp
  have := next3 h hcl (by rw [r1, e1]; show Lib.indexByte (bs (mkS (c :: r))) 84 < 0; rw [bs_mkS]; exact no84 hD) (u := decV 0 (c :: r)) (by rw [r2, e1, bs_mkS]; exact parseB h0 hD hv)
  rw [r2] at this
  exact this

def m1S : ByteArray := ⟨#[45, 57, 50, 50, 51, 51, 55, 50, 48, 51, 54, 56, 53, 52, 55, 55, 53, 56, 48, 56]⟩
def m2S : ByteArray := ⟨#[45, 32, 57, 50, 50, 51, 51, 55, 50, 48, 51, 54, 56, 53, 52, 55, 55, 53, 56, 48, 56]⟩
def bigD : List UInt8 := [57, 50, 50, 51, 51, 55, 50, 48, 51, 54, 56, 53, 52, 55, 55, 53, 56, 48, 56]
theorem big_digs : Digs bigD := by
  intro c hc
  have : (bigD.all fun c => decide (48 ≤ c.toNat ∧ c.toNat ≤ 57)) = true := by kernel_rfl
  simpa using List.all_eq_true.1 this c hc
theorem big_val : decV 0 bigD = 9223372036854775808 := by kernel_rfl
theorem m1_words {w w' : World} {e : Ending} (hp : WordsPost m1S w e w') : Below w.heap.size w w' ∧ ∃ v, e = .returned (.tuple #[v, .int .i64 0, .int .i64 0]) ∧ RSl WdR w' w'.heap.size [⟨7, m1S.extract 0 1, 0, 0⟩, ⟨3, ⟨#[]⟩, -9223372036854775808, 1⟩] v := by
  have b0 : runN blankB m1S 0 = 0 := by kernel_rfl
  have b1 : runN blankB m1S 1 = 0 := by kernel_rfl
  have hz : m1S.size = 20 := rfl
  refine path_ok (Q := fun j => if j = 0 then 0 else if j = 1 then 1 else 20) rfl (fun j hj => ?_) ?_ (by simp) hp
  · simp only [List.length_cons, List.length_nil] at hj
    rcases (show j = 0 ∨ j = 1 by omega) with rfl | rfl
    · simp only [if_true, b0, Nat.add_zero, Nat.zero_add]
      refine ⟨by omega, fun k S n to bad hx => ?_⟩
      obtain ⟨rfl, rfl, rfl, rfl, rfl⟩ := next7 hx (by kernel_rfl) (by kernel_rfl) (by decide) (q := false) (by kernel_rfl)
      exact ⟨rfl, rfl, rfl⟩
    · simp only [Nat.one_ne_zero, if_false, if_true, b1, Nat.add_zero]
      refine ⟨by omega, fun k S n to bad hx => ?_⟩
      obtain ⟨rfl, rfl, rfl, rfl, h5⟩ := next_digs (D := bigD) hx (by kernel_rfl) big_digs (by decide) (by rw [big_val]; omega)
      have ew : wrap64 ((9223372036854775808 : Nat) : Int) = -9223372036854775808 := by unfold wrap64; omega
      rw [big_val] at h5 ⊢
      rw [ew]
      refine ⟨?_, rfl, rfl⟩
      cases bad with
      | false => rfl
      | true =>
        rcases h5.1 rfl with h | ⟨_, hh, h⟩ | ⟨_, _, h⟩
        · omega
        · have e : (m1S[1]'hh).toNat = 57 := rfl
          exact absurd (e.symm.trans h) (by decide)
        · exact absurd ⟨by omega, by rw [hz]; omega, rfl⟩ h
  · simp only [List.length_cons, List.length_nil]
    rw [run_end (by show m1S.size ≤ 20; omega)]
    rfl
theorem m2_words {w w' : World} {e : Ending} (hp : WordsPost m2S w e w') : Below w.heap.size w w' ∧ e = .returned (.tuple #[.slice none 0 0, .int .i64 2, .int .i64 3]) := by
  have b0 : runN blankB m2S 0 = 0 := by kernel_rfl
  have b1 : runN blankB m2S 1 = 1 := by kernel_rfl
  have hz : m2S.size = 21 := rfl
  have := path_bad (L := [⟨7, m2S.extract 0 1, 0, 0⟩]) (Q := fun j => if j = 0 then 0 else 1) rfl (fun j hj => ?_) ?_ ?_ (by simp) hp
  · simp only [List.length_cons, List.length_nil, Nat.zero_add, Nat.one_ne_zero, if_false, b1] at this
    exact this
  · simp only [List.length_cons, List.length_nil] at hj
    obtain rfl : j = 0 := by omega
    simp only [if_true, b0, Nat.add_zero, Nat.zero_add]
    refine ⟨by omega, fun k S n to bad hx => ?_⟩
    obtain ⟨rfl, rfl, rfl, rfl, rfl⟩ := next7 hx (by kernel_rfl) (by kernel_rfl) (by decide) (q := false) (by kernel_rfl)
    exact ⟨rfl, rfl, rfl⟩
  · simp only [List.length_cons, List.length_nil, Nat.zero_add, Nat.one_ne_zero, if_false, b1]
    omega
  · simp only [List.length_cons, List.length_nil, Nat.zero_add, Nat.one_ne_zero, if_false, b1]
    intro k S n to bad hx
    obtain ⟨_, _, _, _, h5⟩ := next_digs (D := bigD) hx (by kernel_rfl) big_digs (by decide) (by rw [big_val]; omega)
    rw [big_val] at h5
    exact h5.2 (.inr (.inr ⟨by omega, by omega, fun ⟨_, hh, h⟩ => by have e : (m2S[1 + 1 - 1]'hh).toNat = 32 := rfl; exact absurd (e.symm.trans h) (by decide)⟩))

/-- What the loop leaves. -/
def DigN (N : Nat) (D : List UInt8) : Prop := Digs D ∧ D ≠ [] ∧ decV 0 D = N ∧ (1 < D.length → ∃ c r, D = c :: r ∧ c.toNat ≠ 48)
theorem num_word {s : ByteArray} {D : List UInt8} {N : Nat} {w w' : World} {e : Ending} (h : bs s = D) (hD : DigN N D) (hN : N < 9223372036854775808) (hp : WordsPost s w e w') : Below w.heap.size w w' ∧ ∃ v, e = .returned (.tuple #[v, .int .i64 0, .int .i64 0]) ∧ RSl WdR w' w'.heap.size [⟨3, ⟨#[]⟩, N, 0⟩] v := by
  obtain ⟨h1, h2, h3, h4⟩ := hD
  obtain ⟨c, r, rfl⟩ : ∃ c r, D = c :: r := by cases D with
    | nil => exact absurd rfl h2
    | cons c r => exact ⟨c, r, rfl⟩
  have hc := h1 c (.head _)
  have hz := size_bs h
  have hb : runN blankB s 0 = 0 := blank0 h (by unfold blankB; simp only [Bool.or_eq_false_iff, decide_eq_false_iff_not]; omega)
  refine one_ok (by rw [hz]; simp) hb (fun k S n to bad hx => ?_) hp
  obtain ⟨g1, g2, g3, g4, g5⟩ := next_digs (D := c :: r) hx (by rw [List.drop_zero, h]) h1 h2 (by rw [h3]; omega)
  rw [h3] at g3 g5
  refine ⟨?_, g1, g2, ?_, by rw [g4, hz]; simp⟩
  · cases bad with
    | false => rfl
    | true =>
      rcases g5.1 rfl with h | ⟨ha, _, hb⟩ | ⟨ha, _⟩
      · omega
      · obtain ⟨c', r', e, hne⟩ := h4 ha
        have e2 := (List.cons.inj e).1
        obtain ⟨q0, q1⟩ := get0 h
        rw [q1, e2] at hb
        exact absurd hb hne
      · omega
  · rw [g3]; unfold wrap64; omega
theorem num_zero {s : ByteArray} {D : List UInt8} {w w' : World} {e : Ending} (h : bs s = 48 :: D) (h1 : Digs D) (h2 : D ≠ []) (hv : decV 0 D ≤ 2 ^ 64 - 1) (hp : WordsPost s w e w') : Below w.heap.size w w' ∧ e = .returned (.tuple #[.slice none 0 0, .int .i64 0, .int .i64 3]) := by
  obtain ⟨h0, q1⟩ := get0 h
  refine one_bad h0 (blank0 h rfl) (fun k S n to bad hx => ?_) hp
  obtain ⟨_, _, _, _, h5⟩ := next_digs (D := 48 :: D) hx (by rw [List.drop_zero, h]) (fun c hc => by rcases List.mem_cons.1 hc with rfl | hc <;> first | decide | exact h1 c hc) (by simp) hv
  refine h5.2 (.inr (.inl ⟨?_, h0, by rw [q1]; rfl⟩))
  cases D with
  | nil => exact absurd rfl h2
  | cons c r => simp

theorem wrapBV (v : BitVec 64) : IntKind.i64.wrap (v.toNat : Int) = v.toInt := by
  rw [IntKind.wrap_i64, BitVec.toInt_eq_toNat_cond]
  have := v.isLt
  split <;> omega
theorem mask_any (n : Int) : ∃ N : Nat, bits .and .i64 n 9223372036854775807 = (N : Int) ∧ N < 9223372036854775808 := by
  have h : bits .and .i64 n 9223372036854775807 = (BitVec.ofInt 64 n &&& BitVec.ofInt 64 9223372036854775807).toInt := wrapBV _
  have hle : (BitVec.ofInt 64 n &&& BitVec.ofInt 64 9223372036854775807).toNat ≤ 9223372036854775807 := by
    rw [BitVec.toNat_and]
    exact Nat.le_trans Nat.and_le_right (by decide)
  refine ⟨(BitVec.ofInt 64 n &&& BitVec.ofInt 64 9223372036854775807).toNat, ?_, by omega⟩
  rw [h, BitVec.toInt_eq_toNat_cond, if_pos (by omega)]

theorem digs_len {N K : Nat} {S : ByteArray} {D : List UInt8} (h : bs S = D ∧ Digs D ∧ decV K D = N ∧ (D ≠ [] → 0 < K)) (hN : N < 9223372036854775808) : S.size ≤ 18 := by
  obtain ⟨h1, _, h3, h4⟩ := h
  rw [size_bs h1]
  rcases Nat.lt_or_ge 18 D.length with hl | hl
  · have hk := h4 (by intro e; rw [e] at hl; simp at hl)
    have h5 := decV_ge D K
    have h6 : 10 ^ 19 ≤ 10 ^ D.length := Nat.pow_le_pow_right (by omega) hl
    have h7 : 10 ^ D.length ≤ K * 10 ^ D.length := Nat.le_mul_of_pos_left _ hk
    omega
  · exact hl
theorem dig_step {N K : Nat} {S : ByteArray} {D : List UInt8} (h : bs S = D ∧ Digs D ∧ decV K D = N ∧ (D ≠ [] → 0 < K)) :
    Digs (byteOf (48 + (K : Int) % 10) :: D) ∧ decV (K / 10) (byteOf (48 + (K : Int) % 10) :: D) = N ∧ (1 < (byteOf (48 + (K : Int) % 10) :: D).length → K < 10 → ∃ c r, byteOf (48 + (K : Int) % 10) :: D = c :: r ∧ c.toNat ≠ 48) := by
  obtain ⟨h1, h2, h3, h4⟩ := h
  have e : (byteOf (48 + (K : Int) % 10)).toNat = 48 + K % 10 := by
    have := byteOf_nat (x := 48 + (K : Int) % 10) (by omega)
    omega
  refine ⟨fun c hc => ?_, ?_, fun hl hk => ⟨_, _, rfl, ?_⟩⟩
  · rcases List.mem_cons.1 hc with rfl | hc
    · omega
    · exact h2 c hc
  · rw [decV_cons, e, show K / 10 * 10 + (48 + K % 10 - 48) = K by omega, h3]
  · have := h4 (by intro e; rw [e] at hl; simp at hl)
    omega

set_option maxRecDepth 100000 in
set_option maxHeartbeats 8000000 in
theorem lexInts_any {w : World} {n : Int} (hn : I64 n) (hv : ErrOk w) (h2 : 2 < w.heap.size) :
    Calls Tryd.prog 5 #[.int .i64 n] w fun e w' => e = .returned (.bool true) ∧ Below w.heap.size w w' := by
  have HV := Lib.hid hv
  clear hv
  obtain ⟨N, hN, hN63⟩ := mask_any n
  go_enter Tryd.func5, Tryd.ntmps5
  go_wp2_with fail
  have HN := Lib.hid hN63
  clear hN hn hN63
  go_loopw [3, 4] (fun v k wr => ∃ (K : Nat) (S : ByteArray) (D : List UInt8), v = .string S ∧ k = .int .i64 K ∧ Hid (bs S = D ∧ Digs D ∧ decV K D = N ∧ (D ≠ [] → 0 < K)) ∧ Hid (Below w.heap.size w wr)) (fun _ k _ => (intOf k).toNat)
  case atStart => exact ⟨N, _, [], rfl, rfl, Lib.hid ⟨rfl, (fun _ h => by cases h), decV_nil _, fun h => absurd rfl h⟩, Lib.hid (Below.refl _ _)⟩
  case round =>
    obtain ⟨K, S, D, rfl, rfl, HD, HBW⟩ := hrel
    have hK := Nat.lt_of_le_of_lt (Nat.le_trans (decV_le D K) (Nat.le_of_eq HD.out.2.2.1)) HN.out
    have hz : S.size ≤ 18 := digs_len HD.out HN.out
    have kc := conv_one (x := 48 + (K : Int) % 10) (by omega)
    have HST := Lib.hid (dig_step (K := K) HD.out)
    have hk1 : (mkS [byteOf (48 + (K : Int) % 10)]).size = 1 := rfl
    by_cases hlt : K < 10
    · go_wp2_with fail
      clear kc
      obtain ⟨q1, q2, q3⟩ := HST.out
      have hbs : bs (mkS [byteOf (48 + (K : Int) % 10)] ++ S) = byteOf (48 + (K : Int) % 10) :: D := by rw [bs_app, bs_mkS, HD.out.1]; rfl
      have HDN := Lib.hid (show DigN N (byteOf (48 + (K : Int) % 10) :: D) from ⟨q1, by simp, by rw [show (0 : Nat) = K / 10 by omega]; exact q2, fun h => q3 h hlt⟩)
      have hz1 : (mkS [byteOf (48 + (K : Int) % 10)] ++ S).size ≤ 19 := by rw [size_app]; omega
      clear q1 q2 q3 HST HD hk1
      generalize hW : World.alloc _ _ = w1
      generalize hS1 : mkS [byteOf (48 + (K : Int) % 10)] ++ S = S1
      rw [hS1] at hbs hz1
      generalize byteOf (48 + (K : Int) % 10) :: D = D1 at *
      obtain ⟨hb, hzw⟩ := al1 hW
      have HBS := Lib.hid hbs
      have HB1 := Lib.hid (HBW.out.trans (hb.mono HBW.out.size))
      have h21 : 2 < w1.heap.size := Nat.lt_of_lt_of_le h2 HB1.out.size
      have HV1 := Lib.hid (HV.out.keep HB1.out h2)
      clear hW hb hzw hbs hS1 hz
      refine (words_any (s := S1) (by omega) HV1.out h21).mono ?_
      rintro e w2 hp
      obtain ⟨hb, v, rfl, hr⟩ := num_word HBS.out HDN.out HN.out hp
      obtain ⟨b1, o1, c1, rfl, hw1⟩ := one_at hr (Nat.le_refl _)
      have HW1 := Lib.hid hw1
      have HB2 := Lib.hid (HB1.out.trans (hb.mono HB1.out.size))
      have HV2 := Lib.hid (HV1.out.keep hb h21)
      have h22 : 2 < w2.heap.size := Nat.lt_of_lt_of_le h21 hb.size
      clear hb hp hr hw1
      go_wp2_with fail
      refine (words_any (s := (⟨#[48]⟩ : ByteArray) ++ S1) (by rw [size_app]; show 1 + S1.size ≤ 20000; omega) HV2.out h22).mono ?_
      rintro e w3 hp
      obtain ⟨hb, rfl⟩ := num_zero (D := D1) (by rw [bs_app, HBS.out]; rfl) HDN.out.1 HDN.out.2.1 (by rw [HDN.out.2.2.1]; have := HN.out; omega) hp
      have HW2 := Lib.hid (HW1.out.keep hb)
      have HB3 := Lib.hid (HB2.out.trans (hb.mono HB2.out.size))
      have HV3 := Lib.hid (HV2.out.keep hb h22)
      have h23 : 2 < w3.heap.size := Nat.lt_of_lt_of_le h22 hb.size
      clear hb hp HW1
      go_wp2_with fail
      refine (words_any (s := m1S) (by decide) HV3.out h23).mono ?_
      rintro e w4 hp
      obtain ⟨hb, v, rfl, hr⟩ := m1_words hp
      obtain ⟨b2, o2, c2, rfl, _, hw2⟩ := two_at hr (Nat.le_refl _)
      have HX2 := Lib.hid hw2
      have HW3 := Lib.hid (HW2.out.keep hb)
      have HB4 := Lib.hid (HB3.out.trans (hb.mono HB3.out.size))
      have HV4 := Lib.hid (HV3.out.keep hb h23)
      have h24 : 2 < w4.heap.size := Nat.lt_of_lt_of_le h23 hb.size
      clear hb hp hr hw2 HW2
      go_wp2_with fail
      refine (words_any (s := m2S) (by decide) HV4.out h24).mono ?_
      rintro e w5 hp
      obtain ⟨hb, rfl⟩ := m2_words hp
      obtain ⟨_, ka0, ka1, ka2, ka3⟩ := HW3.out.keep hb
      obtain ⟨_, kb0, kb1, kb2, kb3⟩ := HX2.out.keep hb
      have HB5 := Lib.hid (HB4.out.trans (hb.mono HB4.out.size))
      have HV5 := Lib.hid (HV4.out.keep hb h24)
      have h25 : 2 < w5.heap.size := Nat.lt_of_lt_of_le h24 hb.size
      clear hb hp
      go_wp2_with fail
      refine (awake_any HV5.out h25).mono ?_
      rintro e w6 ⟨rfl, hb⟩
      have HB6 := Lib.hid (HB5.out.trans (hb.mono HB5.out.size))
      clear hb
      go_wp2_with fail
      go_ret
      exact ⟨rfl, HB6.out⟩
    · go_wp2_with fail
      go_roundw
      case rel => exact ⟨K / 10, _, byteOf (48 + (K : Int) % 10) :: D, rfl, by go_num, Lib.hid ⟨by rw [bs_app, bs_mkS, HD.out.1]; rfl, HST.out.1, HST.out.2.1, fun _ => by omega⟩, Lib.hid (HBW.out.alloc HBW.out.size _)⟩
      case measure => simp [intOf]; omega
end Go.Proofs.YtijajfelmekmiaaDoor
