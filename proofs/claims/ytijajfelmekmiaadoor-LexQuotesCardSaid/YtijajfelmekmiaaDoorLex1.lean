/- The scanner's cells; lex.blank, letter, digit, hex, named, dated; rest, run. -/
import Derived.Test.YtijajfelmekmiaaDoorOwnL
import Derived.Test.YtijajfelmekmiaaDoorShelf
import Derived.Lib.QuietBelow
set_option linter.unusedVariables false
set_option linter.unusedSimpArgs false
namespace Go.Proofs.YtijajfelmekmiaaDoor
open Go.ChangeShapes Go.WideShapes Go.ChangeAt Go.RowKit

/-- From w to w' nothing old was written but block g. -/
def Exc (g : Nat) (w w' : World) : Prop := Below g w w' ∧ ∀ b, b < w.heap.size → b ≠ g → w'.heap[b]? = w.heap[b]?
section
variable {g : Nat} {a b c : World}
theorem Exc.refl (g : Nat) (w : World) : Exc g w w := ⟨Below.refl _ _, fun _ _ _ => rfl⟩
theorem Exc.trans (h : Exc g a b) (k : Exc g b c) : Exc g a c :=
  ⟨h.1.trans k.1, fun i hi hg => (k.2 i (Nat.lt_of_lt_of_le hi h.1.size) hg).trans (h.2 i hi hg)⟩
theorem Exc.of (hg : g ≤ a.heap.size) (h : Below a.heap.size a b) : Exc g a b := ⟨h.mono hg, fun i hi _ => h.block i hi⟩
theorem Exc.then (h : Exc g a b) (hg : g ≤ a.heap.size) (k : Below b.heap.size b c) : Exc g a c := h.trans (Exc.of (Nat.le_trans hg h.1.size) k)
theorem Exc.set (h : Exc g a b) (i : Nat) (v : Value) : Exc g a (b.setCell ⟨g, i, none⟩ v) :=
  ⟨h.1.setCell (p := ⟨g, i, none⟩) (Nat.le_refl _) v, fun k hk hg => (Below.heap_setCell b ⟨g, i, none⟩ v k hg).trans (h.2 k hk hg)⟩
theorem Exc.blk {x : Nat} {vs : Array Value} (h : Exc g a b) (hx : x ≠ g) (hb : Blk a x vs) : Blk b x vs := by
  have hl := hb.lt
  obtain ⟨T, hb⟩ := hb
  exact ⟨T, (h.2 x hl hx).trans hb⟩
end

/-- A scanner at g. -/
abbrev SC (w : World) (g : Nat) (s : ByteArray) (at_ : Nat) (bad : Bool) : Prop := Blk w g #[.string s, .int .i64 at_, .bool bad]

def blankB (c : Int) : Bool := decide (c = 32) || decide (c = 9) || decide (c = 10) || decide (c = 13)
def letterB (c : Int) : Bool := (decide (97 ≤ c) && decide (c ≤ 122)) || (decide (65 ≤ c) && decide (c ≤ 90))
def digitB (c : Int) : Bool := decide (48 ≤ c) && decide (c ≤ 57)
def hexB (c : Int) : Bool := digitB c || (decide (97 ≤ c) && decide (c ≤ 102))
def namedB (c : Int) : Bool := letterB c || digitB c || decide (c = 95) || decide (c = 58)
def datedB (c : Int) : Bool := digitB c || decide (c = 45) || decide (c = 58) || decide (c = 84) || decide (c = 90) || decide (c = 43)

set_option maxHeartbeats 400000 in
theorem blank_any (c : Int) (w : World) (h0 : 0 ≤ c) (h1 : c ≤ 255) :
    Calls Tryd.prog 13 #[.int .u8 c] w fun e w' => e = .returned (.bool (blankB c)) ∧ w = w' := by
  go_enter Tryd.func13, Tryd.ntmps13
  go_wp2
  all_goals go_ret
  all_goals refine ⟨ret_bool ?_, rfl⟩
  all_goals (rw [Bool.eq_iff_iff]; simp [blankB]; try omega)
set_option maxHeartbeats 400000 in
theorem letter_any (c : Int) (w : World) (h0 : 0 ≤ c) (h1 : c ≤ 255) :
    Calls Tryd.prog 25 #[.int .u8 c] w fun e w' => e = .returned (.bool (letterB c)) ∧ w = w' := by
  go_enter Tryd.func25, Tryd.ntmps25
  go_wp2
  all_goals go_ret
  all_goals refine ⟨ret_bool ?_, rfl⟩
  all_goals (rw [Bool.eq_iff_iff]; simp [letterB]; try omega)
set_option maxHeartbeats 400000 in
theorem digit_any (c : Int) (w : World) (h0 : 0 ≤ c) (h1 : c ≤ 255) :
    Calls Tryd.prog 27 #[.int .u8 c] w fun e w' => e = .returned (.bool (digitB c)) ∧ w = w' := by
  go_enter Tryd.func27, Tryd.ntmps27
  go_wp2
  all_goals go_ret
  all_goals refine ⟨ret_bool ?_, rfl⟩
  all_goals (rw [Bool.eq_iff_iff]; simp [digitB]; try omega)
set_option maxHeartbeats 1000000 in
theorem named_any (c : Int) (w : World) (h0 : 0 ≤ c) (h1 : c ≤ 255) :
    Calls Tryd.prog 41 #[.int .u8 c] w fun e w' => e = .returned (.bool (namedB c)) ∧ w = w' := by
  cases hl : letterB c <;> cases hd : digitB c
  all_goals
    go_enter Tryd.func41, Tryd.ntmps41
    go_wp2_with (first
      | (go_at_call 25; refine (letter_any c _ h0 h1).mono ?_; rintro e w' ⟨rfl, rfl⟩; rw [hl])
      | (go_at_call 27; refine (digit_any c _ h0 h1).mono ?_; rintro e w' ⟨rfl, rfl⟩; rw [hd]))
    all_goals go_ret
    all_goals refine ⟨ret_bool ?_, rfl⟩
    all_goals (rw [Bool.eq_iff_iff]; simp [namedB, hl, hd]; try omega)

def digits16 : ByteArray := ⟨#[48, 49, 50, 51, 52, 53, 54, 55, 56, 57, 97, 98, 99, 100, 101, 102]⟩
theorem hex_law : ∀ n : Fin 256, decide (0 ≤ Lib.indexByte (bs digits16) n.val.toUInt8) = hexB n.val := of_decide_eq_true (by kernel_rfl)
theorem dated_law : ∀ n : Fin 256, (digitB n.val || decide (0 ≤ Lib.indexByte [45, 58, 84, 90, 43] n.val.toUInt8)) = datedB n.val := of_decide_eq_true (by kernel_rfl)
set_option maxHeartbeats 1000000 in
theorem hex_any (c : Int) (w : World) (h0 : 0 ≤ c) (h1 : c ≤ 255) :
    Calls Tryd.prog 33 #[.int .u8 c] w fun e w' => e = .returned (.bool (hexB c)) ∧ w = w' := by
  obtain ⟨n, rfl⟩ : ∃ n : Nat, c = n := ⟨c.toNat, by omega⟩
  have hl := hex_law ⟨n, by omega⟩
  have HL := Lib.hid hl
  clear hl
  go_enter Tryd.func33, Tryd.ntmps33
  go_wp2_with (go_at_call 30; refine (Tryd.strings_IndexByte _ _ _).mono ?_; rintro e w' ⟨rfl, rfl⟩)
  all_goals go_ret
  all_goals exact ⟨ret_bool HL.out, rfl⟩
set_option maxHeartbeats 1000000 in
theorem dated_any (c : Int) (w : World) (h0 : 0 ≤ c) (h1 : c ≤ 255) :
    Calls Tryd.prog 36 #[.int .u8 c] w fun e w' => e = .returned (.bool (datedB c)) ∧ w = w' := by
  obtain ⟨n, rfl⟩ : ∃ n : Nat, c = n := ⟨c.toNat, by omega⟩
  have hl := dated_law ⟨n, by omega⟩
  have HL := Lib.hid hl
  clear hl
  cases hd : digitB n
  all_goals
    have HD := Lib.hid hd
    go_enter Tryd.func36, Tryd.ntmps36
    go_wp2_with (first
      | (go_at_call 27; refine (digit_any n _ h0 h1).mono ?_; rintro e w' ⟨rfl, rfl⟩; rw [HD.out])
      | (go_at_call 30; refine (Tryd.strings_IndexByte _ _ _).mono ?_; rintro e w' ⟨rfl, rfl⟩))
    all_goals go_ret
    all_goals refine ⟨ret_bool ?_, rfl⟩
    all_goals (have h := HL.out; simp only [HD.out, Bool.true_or, Bool.false_or] at h; exact h)

set_option maxHeartbeats 1000000 in
theorem rest_any {w : World} {g at_ : Nat} {s : ByteArray} {bad : Bool} (hb : SC w g s at_ bad) (hat : at_ ≤ s.size) (hs : s.size ≤ 1000000) :
    Calls Tryd.prog 18 #[.pointer (some ⟨g, 0, none⟩)] w fun e w' => e = .returned (.string (s.extract at_ s.size)) ∧ Below w.heap.size w w' := by
  go_enter Tryd.func18, Tryd.ntmps18
  have k_g := hb.cell
  have q_g := hb.regrown
  go_wp2_with fail
  refine wp_region_quiet_below (by kernel_rfl) (by kernel_rfl) ?_
  repeat (go_big_quiet_step (fail))
  refine wpQuiet_nil ?_
  intro w1 hw1
  have hb1 : Below w.heap.size w w1 := by obtain ⟨p, rfl⟩ := hw1; exact below_regrown _ _ _
  clear hw1 q_g k_g
  go_wp2_with fail
  go_ret
  exact ⟨rfl, hb1⟩
end Go.Proofs.YtijajfelmekmiaaDoor
