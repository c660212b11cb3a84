/- Contracts of the small functions on bytes, names and comparisons. -/
import Derived.Test.YtkdonhhbpacgmaaGreatMix
import Derived.WalkKit
import Derived.ProofKit
import Derived.WalkLawsBesides
import Derived.BigQuiet
import Derived.Lib.Hide
import Derived.Lib.Strings
import Derived.StillTailTactics
set_option linter.unusedVariables false
set_option linter.unusedSimpArgs false
namespace Go.Proofs.YtkdonhhbpacgmaaGreat
open Go.ChangeShapes Go.WideShapes Go.ChangeAt Go.RowKit
theorem ent {P : Program} {f : FuncId} {fn : Func} {c : Code} (hf : P.funcs[f]? = some fn) (hname : (fn.name == "runtime.NumGoroutine") = false) (hb : fn.body = some c) (args : Array Value) (w : World) :
   (callFunc f args).run P w = .ok (.enter f args) w := by
 have h1 : fn.name ≠ "runtime.NumGoroutine" := by simpa using hname
 simp [callFunc, hf, h1, hb, mark]
structure Tm where
 kind : Int
 n : Int
 s : ByteArray
 l : List Tm
def RowOf (w : World) (B k : Nat) (A : Option Addr) (n : Nat) (P : Nat → List Value → Prop) : Prop :=
 0 < n → ∃ b off, A = some ⟨b, off, none⟩ ∧ b < B ∧ ∀ i, i < n → ∃ vs : List Value, vs.length = k ∧ P i vs ∧ ∀ j v, vs[j]? = some v → w.cell? ⟨b, off + i * k + j, none⟩ = some v
theorem RowOf.mono {w : World} {B k n : Nat} {A : Option Addr} {P Q : Nat → List Value → Prop} (h : RowOf w B k A n P) (hpq : ∀ i vs, i < n → P i vs → Q i vs) : RowOf w B k A n Q := fun hn => by
 obtain ⟨b, off, e, hb, hc⟩ := h hn
 refine ⟨b, off, e, hb, fun i hi => ?_⟩
 obtain ⟨vs, hl, hp, hv⟩ := hc i hi
 exact ⟨vs, hl, hpq i vs hi hp, hv⟩
theorem RowOf.more {w : World} {B B' k n : Nat} {A : Option Addr} {P : Nat → List Value → Prop} (h : RowOf w B k A n P) (hB : B ≤ B') : RowOf w B' k A n P := fun hn => by
 obtain ⟨b, off, e, hb, hc⟩ := h hn
 exact ⟨b, off, e, by omega, hc⟩
theorem RowOf.below {w w' : World} {B C k n : Nat} {A : Option Addr} {P : Nat → List Value → Prop} (h : RowOf w B k A n P) (hw : Below C w w') (hB : B ≤ C) : RowOf w' B k A n P := fun hn => by
 obtain ⟨b, off, e, hb, hc⟩ := h hn
 refine ⟨b, off, e, hb, fun i hi => ?_⟩
 obtain ⟨vs, hl, hp, hv⟩ := hc i hi
 exact ⟨vs, hl, hp, fun j v hj => (hw.cell (p := ⟨b, off + i * k + j, none⟩) (by show b < C; omega)).trans (hv j v hj)⟩
def I64 (n : Int) : Prop := -9223372036854775808 ≤ n ∧ n ≤ 9223372036854775807
def RTm (w : World) (B : Nat) : Nat → Tm → List Value → Prop
 | 0, _, _ => False
 | d + 1, t, vs => ∃ A c, vs = [.int .i64 t.kind, .int .i64 t.n, .string t.s, .slice A t.l.length c] ∧ t.l.length ≤ c ∧ (t.l.length * 40 ≤ 140737488351232 ∧ c ≤ 9223372036854775807) ∧ t.s.size ≤ 140737488351232 ∧ I64 t.kind ∧ I64 t.n ∧
     RowOf w B 4 A t.l.length (fun i vs => ∃ x, t.l[i]? = some x ∧ RTm w B d x vs)
def RTms (w : World) (B d : Nat) (ts : List Tm) (A : Option Addr) : Prop := RowOf w B 4 A ts.length (fun i vs => ∃ x, ts[i]? = some x ∧ RTm w B d x vs)
theorem RTm.below {w w' : World} {B C : Nat} (hw : Below C w w') (hB : B ≤ C) : ∀ {d : Nat} {t : Tm} {vs : List Value}, RTm w B d t vs → RTm w' B d t vs
 | 0, _, _, h => h.elim
 | d + 1, t, vs, ⟨A, c, e, h1, h2, h3, h4, h5, h6⟩ => ⟨A, c, e, h1, h2, h3, h4, h5, (h6.below hw hB).mono fun i vs _ ⟨x, hx, hr⟩ => ⟨x, hx, RTm.below hw hB hr⟩⟩
theorem RTm.more {w : World} {B B' : Nat} (hB : B ≤ B') : ∀ {d : Nat} {t : Tm} {vs : List Value}, RTm w B d t vs → RTm w B' d t vs
 | 0, _, _, h => h.elim
 | d + 1, t, vs, ⟨A, c, e, h1, h2, h3, h4, h5, h6⟩ => ⟨A, c, e, h1, h2, h3, h4, h5, (h6.more hB).mono fun i vs _ ⟨x, hx, hr⟩ => ⟨x, hx, RTm.more hB hr⟩⟩
theorem RTms.below {w w' : World} {B C d : Nat} {ts : List Tm} {A : Option Addr} (h : RTms w B d ts A) (hw : Below C w w') (hB : B ≤ C) : RTms w' B d ts A :=
 (RowOf.below h hw hB).mono fun i vs _ ⟨x, hx, hr⟩ => ⟨x, hx, RTm.below hw hB hr⟩
theorem RTms.more {w : World} {B B' d : Nat} {ts : List Tm} {A : Option Addr} (h : RTms w B d ts A) (hB : B ≤ B') : RTms w B' d ts A :=
 (RowOf.more h hB).mono fun i vs _ ⟨x, hx, hr⟩ => ⟨x, hx, RTm.more hB hr⟩
open Go.ChangeShapes Go.WideShapes Go.ChangeAt Go.RowKit
theorem ret_bool {a b : Bool} (h : a = b) : Ending.returned (.bool a) = .returned (.bool b) := by rw [h]
theorem ret_int {k : IntKind} {a b : Int} (h : a = b) : Ending.returned (.int k a) = .returned (.int k b) := by rw [h]
def letterB (c : Int) : Bool := (decide (97 ≤ c) && decide (c ≤ 122)) || (decide (65 ≤ c) && decide (c ≤ 90))
set_option maxHeartbeats 400000 in
theorem letter_any (c : Int) (w : World) (h0 : 0 ≤ c) (h1 : c ≤ 255) :
   Calls Tryz.prog 81 #[.int .u8 c] w fun e w' => e = .returned (.bool (letterB c)) ∧ w = w' := by
 go_enter Tryz.func81, Tryz.ntmps81
 go_wp2
 all_goals go_ret
 all_goals refine ⟨ret_bool ?_, rfl⟩
 all_goals (rw [Bool.eq_iff_iff]; simp [letterB]; try omega)
def cmpI (x y : Int) : Int := if x < y then -1 else if y < x then 1 else 0
set_option maxHeartbeats 400000 in
theorem cmpInt_any (x y : Int) (w : World) :
   Calls Tryz.prog 96 #[.int .i64 x, .int .i64 y] w fun e w' => e = .returned (.int .i64 (cmpI x y)) ∧ w = w' := by
 go_enter Tryz.func96, Tryz.ntmps96
 go_wp2
 all_goals go_ret
 all_goals refine ⟨ret_int ?_, rfl⟩
 all_goals (simp [cmpI]; try omega)
set_option maxHeartbeats 400000 in
theorem cmpInt64_any (x y : Int) (w : World) :
   Calls Tryz.prog 151 #[.int .i64 x, .int .i64 y] w fun e w' => e = .returned (.int .i64 (cmpI x y)) ∧ w = w' := by
 go_enter Tryz.func151, Tryz.ntmps151
 go_wp2
 all_goals go_ret
 all_goals refine ⟨ret_int ?_, rfl⟩
 all_goals (simp [cmpI]; try omega)
abbrev bs (s : ByteArray) : List UInt8 := s.data.toList
def cmpS (x y : List UInt8) : Int := if x < y then -1 else if y < x then 1 else 0
theorem bytesLess_eq : ∀ (x y : List UInt8), Op.bytesLess x y = decide (x < y)
 | [], [] => by simp [Op.bytesLess]
 | _ :: _, [] => by simp [Op.bytesLess]
 | [], _ :: _ => by simp [Op.bytesLess]
 | a :: x, b :: y => by
   rw [Op.bytesLess, bytesLess_eq x y]
   simp only [List.cons_lt_cons_iff]
   by_cases h1 : a < b <;> by_cases h2 : a = b <;> by_cases h3 : x < y <;> simp [h1, h2, h3]
theorem less_iff (x y : ByteArray) : (Op.bytesLess x.toList y.toList = true) ↔ bs x < bs y := by
 rw [bytesLess_eq, ByteArray.toList_eq, ByteArray.toList_eq]; simp
theorem less_not (x y : ByteArray) : (Op.bytesLess x.toList y.toList = false) ↔ ¬ bs x < bs y := by
 rw [bytesLess_eq, ByteArray.toList_eq, ByteArray.toList_eq]; simp
theorem same_iff (x y : ByteArray) : (x.toList == y.toList) = decide (bs x = bs y) := by
 rw [ByteArray.toList_eq, ByteArray.toList_eq, Bool.eq_iff_iff]; simp
set_option maxHeartbeats 400000 in
theorem cmpStr_any (x y : ByteArray) (w : World) :
   Calls Tryz.prog 95 #[.string x, .string y] w fun e w' => e = .returned (.int .i64 (cmpS (bs x) (bs y))) ∧ w = w' := by
 go_enter Tryz.func95, Tryz.ntmps95
 go_wp2
 all_goals go_ret
 all_goals refine ⟨ret_int ?_, rfl⟩
 all_goals (simp only [less_iff, less_not, same_iff, Bool.not_eq_true', Bool.not_eq_false', decide_eq_false_iff_not, decide_eq_true_eq] at *; unfold cmpS)
 · rw [if_pos ‹_›]
 · have h1 : ¬ bs x < bs y := ‹_›
   have h2 : ¬ bs x = bs y := ‹_›
   rw [if_neg h1, if_pos]
   rcases List.le_iff_lt_or_eq.1 (List.not_lt.1 h1) with h | h
   · exact h
   · exact absurd h.symm h2
 · have h2 : bs x = bs y := ‹_›
   rw [h2, if_neg (List.lt_irrefl _), if_neg (List.lt_irrefl _)]
set_option maxHeartbeats 400000 in
theorem hasPrefix_any (s p : ByteArray) (w : World) (hs : s.size ≤ maxLen) (hp : p.size ≤ maxLen) :
   Calls Tryz.prog 82 #[.string s, .string p] w fun e w' => e = .returned (.bool (Lib.hasPrefix (bs s) (bs p))) ∧ w = w' := by
 go_enter Tryz.func82, Tryz.ntmps82
 go_wp2
 all_goals go_ret
 all_goals refine ⟨ret_bool ?_, rfl⟩
 all_goals rw [← Lib.hasPrefix_of_take, ← Lib.size_eq, ← Lib.size_eq]
 · have h : p.size ≤ s.size := ‹_›
   rw [same_iff, Bool.eq_iff_iff]
   simp [h, Lib.extract_data]
 · have h : ¬ p.size ≤ s.size := ‹_›
   simp [h]
def nameAt (i : Nat) (c : Int) : Bool := letterB c || (decide (i ≠ 0) && (decide (c = 95) || decide (c = 58) || (decide (48 ≤ c) && decide (c ≤ 57))))
theorem letterB_iff (c : Int) : letterB c = true ↔ (97 ≤ c ∧ c ≤ 122) ∨ (65 ≤ c ∧ c ≤ 90) := by simp [letterB]
theorem nameAt_iff (i : Nat) (c : Int) : nameAt i c = true ↔ ((97 ≤ c ∧ c ≤ 122) ∨ (65 ≤ c ∧ c ≤ 90)) ∨ (i ≠ 0 ∧ ((c = 95 ∨ c = 58) ∨ (48 ≤ c ∧ c ≤ 57))) := by simp [nameAt, letterB]
def hexB : ByteArray := ⟨#[104, 101, 120, 58]⟩
def nameB (l : List UInt8) : Bool := decide (∀ i, (h : i < l.length) → nameAt i l[i].toNat = true) && decide (1 ≤ l.length) && decide (l.length ≤ 32) && !Lib.hasPrefix l (bs hexB)
theorem bs_length (s : ByteArray) : (bs s).length = s.size := (Lib.size_eq s).symm
theorem nameB_iff (s : ByteArray) : nameB (bs s) = true ↔ ((∀ i, (h : i < s.size) → nameAt i s[i].toNat = true) ∧ 1 ≤ s.size ∧ s.size ≤ 32) ∧ Lib.hasPrefix (bs s) (bs hexB) = false := by
 simp only [nameB, Bool.and_eq_true, decide_eq_true_eq, bs_length, Bool.not_eq_true', and_assoc]
 exact Iff.rfl
set_option maxHeartbeats 400000 in
theorem name_any (s : ByteArray) (w : World) (hs : s.size ≤ maxLen) :
   Calls Tryz.prog 46 #[.string s] w fun e w' => e = .returned (.bool (nameB (bs s))) ∧ w = w' := by
 unfold maxLen at hs
 go_enter Tryz.func46, Tryz.ntmps46
 go_wp2_with fail
 go_loop [7] (fun i => ∃ k : Nat, k ≤ s.size ∧ i = .int .i64 k ∧ (∀ i, (h : i < k) → (h' : i < s.size) → nameAt i s[i].toNat = true)) (fun i => s.size - (intOf i).toNat)
 case atStart => exact ⟨0, Nat.zero_le _, rfl, fun i h => by omega⟩
 case round =>
   obtain ⟨k, hk, rfl, hall⟩ := hrel
   have HA := Lib.hid hall
   clear hall
   by_cases hlt : k < s.size
   · have hb : (s[k].toNat : Int) ≤ 255 := by have := s[k].toNat_lt; omega
     go_wp2_with (go_at_call 81; refine (letter_any _ _ (by omega) (by omega)).mono ?_; rintro e w' ⟨rfl, rfl⟩)
     all_goals simp only [letterB_iff, bne_iff_ne, beq_iff_eq, beq_eq_false_iff_ne, bne_eq_false_iff_eq, ne_eq] at *
     all_goals first
       | (have hn : nameAt k s[k].toNat = true := by (rw [nameAt_iff]; omega)
          go_round
          case rel => exact ⟨k + 1, by omega, by go_num, fun i h h' => by
            rcases Nat.lt_or_ge i k with h1 | h1
            · exact HA.out i h1 h'
            · obtain rfl : i = k := by omega
              exact hn⟩
          case measure => simp [intOf]; omega)
       | (have hn : ¬ nameAt k s[k].toNat = true := by (rw [nameAt_iff]; omega)
          go_ret
          refine ⟨ret_bool ?_, rfl⟩
          show false = _
          rw [eq_comm, Bool.eq_false_iff, ne_eq, nameB_iff]
          exact fun h => hn (h.1.1 k hlt))
   · go_wp2_with (go_at_call 82; refine (hasPrefix_any _ _ _ (by unfold maxLen; omega) (by decide)).mono ?_; rintro e w' ⟨rfl, rfl⟩)
     all_goals go_ret
     all_goals refine ⟨ret_bool ?_, rfl⟩
     · show (!Lib.hasPrefix (bs s) (bs hexB)) = _
       rw [Bool.eq_iff_iff, nameB_iff, Bool.not_eq_true']
       exact ⟨fun h => ⟨⟨fun i hi => HA.out i (by omega) hi, by omega, by omega⟩, h⟩, fun h => h.2⟩
     · show false = _
       rw [eq_comm, Bool.eq_false_iff, ne_eq, nameB_iff]
       omega
     · show false = _
       rw [eq_comm, Bool.eq_false_iff, ne_eq, nameB_iff]
       omega
end Go.Proofs.YtkdonhhbpacgmaaGreat
