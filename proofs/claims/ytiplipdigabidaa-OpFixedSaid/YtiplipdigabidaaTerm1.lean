/- Contracts of the small functions on bytes, names and comparisons. -/
import Derived.Test.YtiplipdigabidaaData
import Derived.WalkLawsBesides
import Derived.BigQuiet
import Derived.Lib.Hide
import Derived.Lib.Strings
import Derived.StillTailTactics
set_option linter.unusedVariables false
set_option linter.unusedSimpArgs false
namespace Go.Proofs.Ytiplipdigabidaa
open Go.ChangeShapes Go.WideShapes Go.ChangeAt Go.RowKit

theorem ret_bool {a b : Bool} (h : a = b) : Ending.returned (.bool a) = .returned (.bool b) := by rw [h]
theorem ret_int {k : IntKind} {a b : Int} (h : a = b) : Ending.returned (.int k a) = .returned (.int k b) := by rw [h]

def letterB (c : Int) : Bool := (decide (97 ≤ c) && decide (c ≤ 122)) || (decide (65 ≤ c) && decide (c ≤ 90))

set_option maxHeartbeats 400000 in
theorem letter_any (c : Int) (w : World) (h0 : 0 ≤ c) (h1 : c ≤ 255) :
    Calls Try.prog 69 #[.int .u8 c] w fun e w' => e = .returned (.bool (letterB c)) ∧ w = w' := by
  go_enter Try.func69, Try.ntmps69
  go_wp2
  all_goals go_ret
  all_goals refine ⟨ret_bool ?_, rfl⟩
  all_goals (rw [Bool.eq_iff_iff]; simp [letterB]; try omega)

def cmpI (x y : Int) : Int := if x < y then -1 else if y < x then 1 else 0

set_option maxHeartbeats 400000 in
theorem cmpInt_any (x y : Int) (w : World) :
    Calls Try.prog 62 #[.int .i64 x, .int .i64 y] w fun e w' => e = .returned (.int .i64 (cmpI x y)) ∧ w = w' := by
  go_enter Try.func62, Try.ntmps62
  go_wp2
  all_goals go_ret
  all_goals refine ⟨ret_int ?_, rfl⟩
  all_goals (simp [cmpI]; try omega)

set_option maxHeartbeats 400000 in
theorem cmpInt64_any (x y : Int) (w : World) :
    Calls Try.prog 63 #[.int .i64 x, .int .i64 y] w fun e w' => e = .returned (.int .i64 (cmpI x y)) ∧ w = w' := by
  go_enter Try.func63, Try.ntmps63
  go_wp2
  all_goals go_ret
  all_goals refine ⟨ret_int ?_, rfl⟩
  all_goals (simp [cmpI]; try omega)

abbrev bs (s : ByteArray) : List UInt8 := s.data.toList

def cmpS (x y : List UInt8) : Int := if x < y then -1 else if y < x then 1 else 0

/-- The model's order on strings is the lexical order of the bytes' lists. -/
theorem bytesLess_eq : ∀ (x y : List UInt8), Op.bytesLess x y = decide (x < y)
  | [], [] => by simp [Op.bytesLess]
  | _ :: _, [] => by simp [Op.bytesLess]
  | [], _ :: _ => by simp [Op.bytesLess]
  | a :: x, b :: y => by
    rw [Op.bytesLess, bytesLess_eq x y]
    simp only [List.cons_lt_cons_iff]
    by_cases h1 : a < b <;> by_cases h2 : a = b <;> by_cases h3 : x < y <;> simp [h1, h2, h3]

theorem less_iff (x y : ByteArray) : (Op.bytesLess x.toList y.toList = true) ↔ bs x < bs y := by
  rw [bytesLess_eq, ByteArray.toList_eq, ByteArray.toList_eq]; simp
theorem less_not (x y : ByteArray) : (Op.bytesLess x.toList y.toList = false) ↔ ¬ bs x < bs y := by
  rw [bytesLess_eq, ByteArray.toList_eq, ByteArray.toList_eq]; simp
theorem same_iff (x y : ByteArray) : (x.toList == y.toList) = decide (bs x = bs y) := by
  rw [ByteArray.toList_eq, ByteArray.toList_eq, Bool.eq_iff_iff]; simp

set_option maxHeartbeats 400000 in
theorem cmpStr_any (x y : ByteArray) (w : World) :
    Calls Try.prog 64 #[.string x, .string y] w fun e w' => e = .returned (.int .i64 (cmpS (bs x) (bs y))) ∧ w = w' := by
  go_enter Try.func64, Try.ntmps64
  go_wp2
  all_goals go_ret
  all_goals refine ⟨ret_int ?_, rfl⟩
  all_goals (simp only [less_iff, less_not, same_iff, Bool.not_eq_true', Bool.not_eq_false', decide_eq_false_iff_not, decide_eq_true_eq] at *; unfold cmpS)
  · rw [if_pos ‹_›]
  · have h1 : ¬ bs x < bs y := ‹_›
    have h2 : ¬ bs x = bs y := ‹_›
    rw [if_neg h1, if_pos]
    rcases List.le_iff_lt_or_eq.1 (List.not_lt.1 h1) with h | h
    · exact h
    · exact absurd h.symm h2
  · have h2 : bs x = bs y := ‹_›
    rw [h2, if_neg (List.lt_irrefl _), if_neg (List.lt_irrefl _)]

set_option maxHeartbeats 400000 in
theorem hasPrefix_any (s p : ByteArray) (w : World) (hs : s.size ≤ maxLen) (hp : p.size ≤ maxLen) :
    Calls Try.prog 21 #[.string s, .string p] w fun e w' => e = .returned (.bool (Lib.hasPrefix (bs s) (bs p))) ∧ w = w' := by
  go_enter Try.func21, Try.ntmps21
  go_wp2
  all_goals go_ret
  all_goals refine ⟨ret_bool ?_, rfl⟩
  all_goals rw [← Lib.hasPrefix_of_take, ← Lib.size_eq, ← Lib.size_eq]
  · have h : p.size ≤ s.size := ‹_›
    rw [same_iff, Bool.eq_iff_iff]
    simp [h, Lib.extract_data]
  · have h : ¬ p.size ≤ s.size := ‹_›
    simp [h]

/-- May byte c stand at place i of a name? -/
def nameAt (i : Nat) (c : Int) : Bool := letterB c || (decide (i ≠ 0) && (decide (c = 95) || decide (c = 58) || (decide (48 ≤ c) && decide (c ≤ 57))))

theorem letterB_iff (c : Int) : letterB c = true ↔ (97 ≤ c ∧ c ≤ 122) ∨ (65 ≤ c ∧ c ≤ 90) := by simp [letterB]
theorem nameAt_iff (i : Nat) (c : Int) : nameAt i c = true ↔ ((97 ≤ c ∧ c ≤ 122) ∨ (65 ≤ c ∧ c ≤ 90)) ∨ (i ≠ 0 ∧ ((c = 95 ∨ c = 58) ∨ (48 ≤ c ∧ c ≤ 57))) := by simp [nameAt, letterB]

def hexB : ByteArray := ⟨#[104, 101, 120, 58]⟩

def nameB (l : List UInt8) : Bool := decide (∀ i, (h : i < l.length) → nameAt i l[i].toNat = true) && decide (1 ≤ l.length) && decide (l.length ≤ 32) && !Lib.hasPrefix l (bs hexB)

theorem bs_length (s : ByteArray) : (bs s).length = s.size := (Lib.size_eq s).symm
theorem nameB_iff (s : ByteArray) : nameB (bs s) = true ↔ ((∀ i, (h : i < s.size) → nameAt i s[i].toNat = true) ∧ 1 ≤ s.size ∧ s.size ≤ 32) ∧ Lib.hasPrefix (bs s) (bs hexB) = false := by
  simp only [nameB, Bool.and_eq_true, decide_eq_true_eq, bs_length, Bool.not_eq_true', and_assoc]
  exact Iff.rfl

set_option maxHeartbeats 400000 in
theorem name_any (s : ByteArray) (w : World) (hs : s.size ≤ maxLen) :
    Calls Try.prog 45 #[.string s] w fun e w' => e = .returned (.bool (nameB (bs s))) ∧ w = w' := by
  unfold maxLen at hs
  go_enter Try.func45, Try.ntmps45
  go_wp2_with fail
  go_loop [7] (fun i => ∃ k : Nat, k ≤ s.size ∧ i = .int .i64 k ∧ (∀ i, (h : i < k) → (h' : i < s.size) → nameAt i s[i].toNat = true)) (fun i => s.size - (intOf i).toNat)
  case atStart => exact ⟨0, Nat.zero_le _, rfl, fun i h => by omega⟩
  case round =>
    obtain ⟨k, hk, rfl, hall⟩ := hrel
    have HA := Lib.hid hall
    clear hall
    by_cases hlt : k < s.size
    · have hb : (s[k].toNat : Int) ≤ 255 := by have := s[k].toNat_lt; omega
      go_wp2_with (go_at_call 69; refine (letter_any _ _ (by omega) (by omega)).mono ?_; rintro e w' ⟨rfl, rfl⟩)
      all_goals simp only [letterB_iff, bne_iff_ne, beq_iff_eq, beq_eq_false_iff_ne, bne_eq_false_iff_eq, ne_eq] at *
      all_goals first
        | (have hn : nameAt k s[k].toNat = true := by (rw [nameAt_iff]; omega)
           go_round
           case rel => exact ⟨k + 1, by omega, by go_num, fun i h h' => by
             rcases Nat.lt_or_ge i k with h1 | h1
             · exact HA.out i h1 h'
             · obtain rfl : i = k := by omega
               exact hn⟩
           case measure => simp [intOf]; omega)
        | (have hn : ¬ nameAt k s[k].toNat = true := by (rw [nameAt_iff]; omega)
           go_ret
           refine ⟨ret_bool ?_, rfl⟩
           show false = _
           rw [eq_comm, Bool.eq_false_iff, ne_eq, nameB_iff]
           exact fun h => hn (h.1.1 k hlt))
    · go_wp2_with (go_at_call 21; refine (hasPrefix_any _ _ _ (by unfold maxLen; omega) (by decide)).mono ?_; rintro e w' ⟨rfl, rfl⟩)
      all_goals go_ret
      all_goals refine ⟨ret_bool ?_, rfl⟩
      · show (!Lib.hasPrefix (bs s) (bs hexB)) = _
        rw [Bool.eq_iff_iff, nameB_iff, Bool.not_eq_true']
        exact ⟨fun h => ⟨⟨fun i hi => HA.out i (by omega) hi, by omega, by omega⟩, h⟩, fun h => h.2⟩
      · show false = _
        rw [eq_comm, Bool.eq_false_iff, ne_eq, nameB_iff]
        omega
      · show false = _
        rw [eq_comm, Bool.eq_false_iff, ne_eq, nameB_iff]
        omega
end Go.Proofs.Ytiplipdigabidaa
