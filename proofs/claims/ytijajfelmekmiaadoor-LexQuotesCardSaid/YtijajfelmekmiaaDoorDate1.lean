/- The reader of dates: number, sign. -/
import Derived.Test.YtijajfelmekmiaaDoorLex3
set_option linter.unusedVariables false
set_option linter.unusedSimpArgs false
namespace Go.Proofs.YtijajfelmekmiaaDoor
open Go.ChangeShapes Go.WideShapes Go.ChangeAt Go.RowKit

/-- A reader at g. -/
abbrev DR (w : World) (g : Nat) (S : ByteArray) (b : Bool) : Prop := Blk w g #[.string S, .bool b]
theorem bs_cons {S : ByteArray} {c : UInt8} {t : Bytes} (h : bs S = c :: t) : ∃ h0 : 0 < S.size, S[0] = c ∧ bs (S.extract 1 S.size) = t := by
  have hl : 0 < S.size := by rw [← bs_length, h]; simp
  refine ⟨hl, ?_, ?_⟩
  · have e : (bs S)[0]'(by rw [bs_length]; exact hl) = S[0] := by simp [bs, ByteArray.getElem_eq_getElem_data]
    rw [← e]; simp [h]
  · have e : bs (S.extract 1 S.size) = (bs S).drop 1 := by simp [bs, List.take_of_length_le, bs_length]
    rw [e, h]; rfl
theorem u8_back' (c : UInt8) : ((c.toNat : Int).toNat).toUInt8 = c := by simp
theorem bs_nil {S : ByteArray} (h : bs S = []) : S.size = 0 := by rw [← bs_length, h]; rfl

/-- So many digits, as far as there are some. -/
def numL : Nat → Int → Bytes → Option Int × Bytes
  | 0, n, r => (some n, r)
  | _ + 1, _, [] => (none, [])
  | k + 1, n, c :: r => if 48 ≤ c.toNat ∧ c.toNat ≤ 57 then numL k (10 * n + ((c.toNat : Int) - 48)) r else (none, c :: r)
def numF (k : Nat) (most : Int) (r : Bytes) (b : Bool) : Int × Bytes × Bool :=
  match numL k 0 r with
  | (none, r') => (0, r', true)
  | (some n, r') => (n, r', b || decide (most < n))
def signF (signs : Bytes) (r : Bytes) (b : Bool) : Int × Bytes × Bool :=
  match r with
  | [] => (0, [], true)
  | c :: t => if 0 ≤ Lib.indexByte signs c then (c.toNat, t, b) else (0, c :: t, true)
def bnd : Nat → Int
  | 0 => 0
  | k + 1 => 10 * bnd k + 9
theorem numL_le : ∀ (k : Nat) (n : Int) (r : Bytes) (j : Nat) (v : Int), 0 ≤ n → n ≤ bnd j → (numL k n r).1 = some v → 0 ≤ v ∧ v ≤ bnd (j + k)
  | 0, n, r, j, v, h0, h1, h => by simp [numL] at h; subst h; exact ⟨h0, h1⟩
  | k + 1, n, [], j, v, h0, h1, h => by simp [numL] at h
  | k + 1, n, c :: r, j, v, h0, h1, h => by
    rw [numL] at h
    split at h
    · have := numL_le k _ r (j + 1) v (by omega) (by simp only [bnd]; omega) h
      rw [show j + (k + 1) = j + 1 + k by omega]
      exact this
    · simp at h
theorem numF_le {k : Nat} (hk : k ≤ 4) (most : Int) (r : Bytes) (b : Bool) : 0 ≤ (numF k most r b).1 ∧ (numF k most r b).1 ≤ 9999 := by
  unfold numF
  have hb : bnd k ≤ 9999 := by
    rcases (show k = 0 ∨ k = 1 ∨ k = 2 ∨ k = 3 ∨ k = 4 by omega) with rfl | rfl | rfl | rfl | rfl <;> decide
  rcases h : numL k 0 r with ⟨_ | n, r'⟩
  · simp
  · have := numL_le k 0 r 0 n (by omega) (by simp [bnd]) (by rw [h])
    rw [Nat.zero_add] at this
    simp only
    omega

set_option maxRecDepth 100000 in
set_option maxHeartbeats 4000000 in
theorem dnum_any {w : World} {g : Nat} {S : ByteArray} {b : Bool} (digits : Nat) (most : Int) (b_g_0 : DR w g S b) (hd : digits ≤ 4) (hs : S.size ≤ 1000000) :
    Calls Tryd.prog 42 #[.pointer (some ⟨g, 0, none⟩), .int .i64 digits, .int .i64 most] w fun e w' => ∃ S', e = .returned (.int .i64 (numF digits most (bs S) b).1) ∧ bs S' = (numF digits most (bs S) b).2.1 ∧ S'.size ≤ S.size ∧ DR w' g S' (numF digits most (bs S) b).2.2 ∧ Exc g w w' := by
  have hg := b_g_0.lt
  go_enter Tryd.func42, Tryd.ntmps42
  go_wp2_with fail
  go_loopw [7, 9] (fun v i wr => ∃ (k : Nat) (n : Int) (T : ByteArray), k ≤ digits ∧ i = .int .i64 k ∧ v = .int .i64 n ∧ T.size ≤ S.size ∧ DR wr g T b ∧ Hid (Exc g w wr) ∧ (0 ≤ n ∧ n ≤ bnd k) ∧ Hid (numL digits 0 (bs S) = numL (digits - k) n (bs T))) (fun _ i _ => digits - (intOf i).toNat)
  case atStart => exact ⟨0, 0, S, Nat.zero_le _, rfl, rfl, Nat.le_refl _, b_g_0, Lib.hid (Exc.refl _ _), ⟨by omega, by simp [bnd]⟩, Lib.hid rfl⟩
  case round =>
    obtain ⟨k, n, T, hk, rfl, rfl, hT, b_t, HE, ⟨hn0, hn1⟩, HN⟩ := hrel
    have hgr := b_t.lt
    by_cases hlt : k < digits
    · have hn2 : n ≤ 999 := by
        rcases (show k = 0 ∨ k = 1 ∨ k = 2 ∨ k = 3 by omega) with rfl | rfl | rfl | rfl <;> simp [bnd] at hn1 <;> omega
      have ed : digits - k = (digits - (k + 1)) + 1 := by omega
      rcases hl : bs T with _ | ⟨c, t⟩
      · have hz := bs_nil hl
        have hne := nil_of hz
        have HF : Hid (numL digits 0 (bs S) = (none, [])) := Lib.hid (by rw [HN.out, ed, hl]; rfl)
        have HLL := Lib.hid hl
        have HBN := Lib.hid hn1
        clear hl hz HN ed hn1
        have k_t := b_t.cell
        have f_t := b_t.free
        go_wp2_with fail
        go_ret
        refine ⟨T, ?_, ?_, hT, ?_, HE.out.set 1 (.bool true)⟩
        · show _ = Ending.returned (.int .i64 (numF digits most (bs S) b).1)
          unfold numF; rw [HF.out]; rfl
        · unfold numF; rw [HF.out, HLL.out]
        · have h : (numF digits most (bs S) b).2.2 = true := by unfold numF; rw [HF.out]
          rw [h]
          exact b_t.set_ 1 (.bool true)
      · obtain ⟨h0, h1, h2⟩ := bs_cons hl
        have hne := not_nil h0
        have H1 := Lib.hid h1
        have H2 := Lib.hid h2
        have HLL := Lib.hid hl
        have hle := u8_le T[0]
        have HBN := Lib.hid hn1
        have HED := Lib.hid ed
        clear hl h1 h2 hn1 ed
        have hx : (T.extract 1 T.size).size = T.size - 1 := by simp
        by_cases hdg : (48 : Int) ≤ (T[0].toNat : Int) ∧ (T[0].toNat : Int) ≤ (57 : Int)
        · obtain ⟨hd1, hd2⟩ := hdg
          have HF : Hid (numL digits 0 (bs S) = numL (digits - (k + 1)) ((10 : Int) * n + ((T[0].toNat : Int) - (48 : Int))) (bs (T.extract 1 T.size))) := Lib.hid (by
            rw [HN.out, HED.out, HLL.out, numL, if_pos (by rw [← H1.out]; omega), H2.out, ← H1.out])
          clear HN
          have k_t := b_t.cell
          have f_t := b_t.free
          go_wp2_with fail
          go_roundw
          case rel => exact ⟨k + 1, _, _, by omega, by go_num, rfl, by omega, b_t.set_ 0 _, Lib.hid (HE.out.set 0 _), ⟨by omega, by have := HBN.out; simp only [bnd]; omega⟩, HF⟩
          case measure => simp [intOf]; omega
        · have HF : Hid (numL digits 0 (bs S) = (none, bs T)) := Lib.hid (by
            rw [HN.out, HED.out, HLL.out, numL, if_neg (by rw [← H1.out]; omega)])
          clear HN
          rcases (show (T[0].toNat : Int) < (48 : Int) ∨ (57 : Int) < (T[0].toNat : Int) by omega) with hdg | hdg
          all_goals
            have k_t := b_t.cell
            have f_t := b_t.free
            go_wp2_with fail
            go_ret
            refine ⟨T, ?_, ?_, hT, ?_, HE.out.set 1 (.bool true)⟩
            · show _ = Ending.returned (.int .i64 (numF digits most (bs S) b).1)
              unfold numF; rw [HF.out]; rfl
            · unfold numF; rw [HF.out]
            · have h : (numF digits most (bs S) b).2.2 = true := by unfold numF; rw [HF.out]
              rw [h]
              exact b_t.set_ 1 (.bool true)
    · obtain rfl : k = digits := by omega
      have HF : Hid (numL k 0 (bs S) = (some n, bs T)) := Lib.hid (by rw [HN.out, Nat.sub_self]; rfl)
      have HBN := Lib.hid hn1
      clear HN hn1
      have k_t := b_t.cell
      have f_t := b_t.free
      have hq : b = true ∨ b = false := by cases b <;> simp
      rcases hq with rfl | rfl
      all_goals
        go_wp2_with fail
        go_ret
        refine ⟨T, ?_, ?_, hT, ?_, HE.out.set 1 _⟩
        · show _ = Ending.returned (.int .i64 (numF k most (bs S) _).1)
          unfold numF; rw [HF.out]; rfl
        · unfold numF; rw [HF.out]
        · unfold numF; rw [HF.out]; exact b_t.set_ 1 _

set_option maxRecDepth 100000 in
set_option maxHeartbeats 4000000 in
theorem dsign_any {w : World} {g : Nat} {S signs : ByteArray} {b : Bool} (b_g_0 : DR w g S b) (hs : S.size ≤ 1000000) :
    Calls Tryd.prog 43 #[.pointer (some ⟨g, 0, none⟩), .string signs] w fun e w' => ∃ S', e = .returned (.int .u8 (signF (bs signs) (bs S) b).1) ∧ bs S' = (signF (bs signs) (bs S) b).2.1 ∧ S'.size ≤ S.size ∧ DR w' g S' (signF (bs signs) (bs S) b).2.2 ∧ Exc g w w' := by
  have hg := b_g_0.lt
  rcases hl : bs S with _ | ⟨c, t⟩
  · have hz := bs_nil hl
    have hne := nil_of hz
    have HLL := Lib.hid hl
    clear hl hz
    go_enter Tryd.func43, Tryd.ntmps43
    have k_t := b_g_0.cell
    have f_t := b_g_0.free
    go_wp2_with fail
    go_ret
    exact ⟨S, rfl, HLL.out, Nat.le_refl _, b_g_0.set_ 1 (.bool true), (Exc.refl g w).set 1 (.bool true)⟩
  · obtain ⟨h0, h1, h2⟩ := bs_cons hl
    have hne := not_nil h0
    have H1 := Lib.hid h1
    have H2 := Lib.hid h2
    have HLL := Lib.hid hl
    have hle := u8_le S[0]
    have hu := u8_back' S[0]
    have hx : (S.extract 1 S.size).size = S.size - 1 := by simp
    clear hl h1 h2
    by_cases hc : (0 : Int) ≤ Lib.indexByte signs.data.toList S[0]
    · have HF : Hid (signF (bs signs) (c :: t) b = ((c.toNat : Int), t, b)) := Lib.hid (by unfold signF; simp only; rw [if_pos (by rw [← H1.out]; exact hc)])
      go_enter Tryd.func43, Tryd.ntmps43
      have k_t := b_g_0.cell
      have f_t := b_g_0.free
      go_wp2_with fail
      refine (Tryd.strings_IndexByte _ _ _).mono ?_
      rintro x wz ⟨rfl, hw⟩
      replace hw := hw.symm
      subst hw
      rw [hu]
      go_wp2_with fail
      go_ret
      rw [HF.out]
      exact ⟨_, ret_int (by rw [H1.out]), H2.out, by omega, b_g_0.set_ 0 _, (Exc.refl g w).set 0 _⟩
    · have HF : Hid (signF (bs signs) (c :: t) b = (0, c :: t, true)) := Lib.hid (by unfold signF; simp only; rw [if_neg (by rw [← H1.out]; exact hc)])
      have hc' : Lib.indexByte signs.data.toList S[0] < 0 := by omega
      go_enter Tryd.func43, Tryd.ntmps43
      have k_t := b_g_0.cell
      have f_t := b_g_0.free
      go_wp2_with fail
      refine (Tryd.strings_IndexByte _ _ _).mono ?_
      rintro x wz ⟨rfl, hw⟩
      replace hw := hw.symm
      subst hw
      rw [hu]
      go_wp2_with fail
      go_ret
      rw [HF.out]
      exact ⟨_, rfl, HLL.out, Nat.le_refl _, b_g_0.set_ 1 (.bool true), (Exc.refl g w).set 1 (.bool true)⟩
end Go.Proofs.YtijajfelmekmiaaDoor
