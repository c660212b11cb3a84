/- term.Compare. -/
import Derived.Test.YtiplipdigabidaaGreatRows
import Derived.WalkKit
import Derived.Lib.QuietBelow
import Derived.BigQuiet
import Derived.ProofKit
import Derived.WalkLawsBesides
import Derived.Lib.Hide
import Derived.Lib.Strings
import Derived.StillTailTactics
set_option linter.unusedVariables false
set_option linter.unusedSimpArgs false
namespace Go.Proofs.YtiplipdigabidaaGreat
open Go.RowKit
def quietOp (o : Oper) : Bool :=
 match o.op with
 | .move _ | .assign _ | .pick .. | .load .. | .binOp .. | .unOp .. | .convert .. | .fieldAddr .. | .field .. | .indexAddr .. | .index .. | .extract .. | .slice .. | .lookup .. | .makeInterface .. | .makeFunc .. | .typeAssert .. => true
 | .call { callee := .builtin .len, .. } => true
 | _ => false
def PureAt (w : World) (v : Value) (r : Result Next) : Prop := r = .ok (.value v) w ∨ (r = .ok .skip w ∧ v = undef)
section
variable {P : Program} {ops : Array Oper} {C : World → Prop}
def Yld (P : Program) (ops : Array Oper) (C : World → Prop) (o : Oper) (v : Value) (a : Act) : Prop :=
 (Region.wanted o (yielded ops a.tmps) = true ∧ ∀ w, C w → PureAt w v ((execOp a.eval o).run P w)) ∨ (Region.wanted o (yielded ops a.tmps) = false ∧ v = undef)
def NoQ : Exit → Act → World → Prop := fun _ _ _ => False
def Loud (P : Program) (ops : Array Oper) (C : World → Prop) (o : Oper) (K : Act → World → Prop) (a : Act) (w : World) : Prop :=
 if Region.wanted o (yielded ops a.tmps) = true then o.wp P a w (fun a' w' => C w' ∧ K a' w') NoQ else K (a.put o.dst undef) w
def mixOp (P : Program) (ops : Array Oper) (C : World → Prop) (i : Nat) (K : Act → World → Prop) (a : Act) (w : World) : Prop :=
 match ops[i]? with
 | none => K a w
 | some o => if quietOp o = true then ∃ v, Yld P ops C o v a ∧ K (a.put o.dst v) w else Loud P ops C o K a w
theorem Loud.mono {o : Oper} {K K' : Act → World → Prop} {a : Act} {w : World} (h : ∀ a w, (C w → K a w → K' a w)) (hC : C w) (hl : Loud P ops C o K a w) : Loud P ops C o K' a w := by
 unfold Loud at *
 split
 · rename_i hw
   rw [if_pos hw] at hl
   exact Oper.wp_mono (fun a w ⟨h1, h2⟩ => ⟨h1, h a w h1 h2⟩) hl
 · rename_i hw
   rw [if_neg hw] at hl
   exact h _ _ hC hl
theorem mixOp.mono {i : Nat} {K K' : Act → World → Prop} {a : Act} {w : World} (h : ∀ a w, (C w → K a w → K' a w)) (hC : C w) (hm : mixOp P ops C i K a w) : mixOp P ops C i K' a w := by
 unfold mixOp at *
 split
 · rename_i ho; rw [ho] at hm; exact h _ _ hC hm
 · rename_i o ho
   rw [ho] at hm
   dsimp only at hm
   split
   · rename_i hq
     rw [if_pos hq] at hm
     obtain ⟨v, h1, h2⟩ := hm
     exact ⟨v, h1, h _ _ hC h2⟩
   · rename_i hq
     rw [if_neg hq] at hm
     exact Loud.mono h hC hm
end
def Closed (ops : Array Oper) (listed : Array Bool) : Prop := ∀ k ok, ops[k]? = some ok → listed.getD k false = true → ∀ e ∈ ok.after, Region.binds .any e = true → listed.getD e.on false = true
def Behind (ops : Array Oper) (o : Oper) (i : Nat) : Prop := ∀ listed, Closed ops listed → (∀ e ∈ o.after, Region.binds .any e = true → listed.getD e.on false = true) → listed.getD i false = true
section
variable {P : Program} {ops : Array Oper} {C : World → Prop} {Qf : Act → World → Prop}
def Grew (w : World) : World → Prop := fun w' => ∃ p : Regrown, w' = Sort.grow (redrawn w p.d) p.os
theorem Grew.drew (w : World) : Grew w w.drew := ⟨⟨w.drawn + 1, #[]⟩, by rw [Sort.grow_empty]; rfl⟩
theorem Grew.of {w w' : World} (h : Below w.heap.size w w') : Grew w w' := regrown_of_below h
theorem Grew.below {w w' : World} (h : Grew w w') : Below w.heap.size w w' := by obtain ⟨p, rfl⟩ := h; exact below_regrown _ _ _
end
open Go.ChangeShapes Go.WideShapes Go.ChangeAt Go.RowKit
theorem ent {P : Program} {f : FuncId} {fn : Func} {c : Code} (hf : P.funcs[f]? = some fn) (hname : (fn.name == "runtime.NumGoroutine") = false) (hb : fn.body = some c) (args : Array Value) (w : World) :
   (callFunc f args).run P w = .ok (.enter f args) w := by
 have h1 : fn.name ≠ "runtime.NumGoroutine" := by simpa using hname
 simp [callFunc, hf, h1, hb, mark]
structure Tm where
 kind : Int
 n : Int
 s : ByteArray
 l : List Tm
def RowOf (w : World) (B k : Nat) (A : Option Addr) (n : Nat) (P : Nat → List Value → Prop) : Prop :=
 0 < n → ∃ b off, A = some ⟨b, off, none⟩ ∧ b < B ∧ ∀ i, i < n → ∃ vs : List Value, vs.length = k ∧ P i vs ∧ ∀ j v, vs[j]? = some v → w.cell? ⟨b, off + i * k + j, none⟩ = some v
theorem RowOf.mono {w : World} {B k n : Nat} {A : Option Addr} {P Q : Nat → List Value → Prop} (h : RowOf w B k A n P) (hpq : ∀ i vs, i < n → P i vs → Q i vs) : RowOf w B k A n Q := fun hn => by
 obtain ⟨b, off, e, hb, hc⟩ := h hn
 refine ⟨b, off, e, hb, fun i hi => ?_⟩
 obtain ⟨vs, hl, hp, hv⟩ := hc i hi
 exact ⟨vs, hl, hpq i vs hi hp, hv⟩
theorem RowOf.more {w : World} {B B' k n : Nat} {A : Option Addr} {P : Nat → List Value → Prop} (h : RowOf w B k A n P) (hB : B ≤ B') : RowOf w B' k A n P := fun hn => by
 obtain ⟨b, off, e, hb, hc⟩ := h hn
 exact ⟨b, off, e, by omega, hc⟩
theorem RowOf.below {w w' : World} {B C k n : Nat} {A : Option Addr} {P : Nat → List Value → Prop} (h : RowOf w B k A n P) (hw : Below C w w') (hB : B ≤ C) : RowOf w' B k A n P := fun hn => by
 obtain ⟨b, off, e, hb, hc⟩ := h hn
 refine ⟨b, off, e, hb, fun i hi => ?_⟩
 obtain ⟨vs, hl, hp, hv⟩ := hc i hi
 exact ⟨vs, hl, hp, fun j v hj => (hw.cell (p := ⟨b, off + i * k + j, none⟩) (by show b < C; omega)).trans (hv j v hj)⟩
def I64 (n : Int) : Prop := -9223372036854775808 ≤ n ∧ n ≤ 9223372036854775807
def RTm (w : World) (B : Nat) : Nat → Tm → List Value → Prop
 | 0, _, _ => False
 | d + 1, t, vs => ∃ A c, vs = [.int .i64 t.kind, .int .i64 t.n, .string t.s, .slice A t.l.length c] ∧ t.l.length ≤ c ∧ (t.l.length * 40 ≤ 140737488351232 ∧ c ≤ 9223372036854775807) ∧ t.s.size ≤ 140737488351232 ∧ I64 t.kind ∧ I64 t.n ∧
     RowOf w B 4 A t.l.length (fun i vs => ∃ x, t.l[i]? = some x ∧ RTm w B d x vs)
def RTms (w : World) (B d : Nat) (ts : List Tm) (A : Option Addr) : Prop := RowOf w B 4 A ts.length (fun i vs => ∃ x, ts[i]? = some x ∧ RTm w B d x vs)
theorem RTm.below {w w' : World} {B C : Nat} (hw : Below C w w') (hB : B ≤ C) : ∀ {d : Nat} {t : Tm} {vs : List Value}, RTm w B d t vs → RTm w' B d t vs
 | 0, _, _, h => h.elim
 | d + 1, t, vs, ⟨A, c, e, h1, h2, h3, h4, h5, h6⟩ => ⟨A, c, e, h1, h2, h3, h4, h5, (h6.below hw hB).mono fun i vs _ ⟨x, hx, hr⟩ => ⟨x, hx, RTm.below hw hB hr⟩⟩
theorem RTm.more {w : World} {B B' : Nat} (hB : B ≤ B') : ∀ {d : Nat} {t : Tm} {vs : List Value}, RTm w B d t vs → RTm w B' d t vs
 | 0, _, _, h => h.elim
 | d + 1, t, vs, ⟨A, c, e, h1, h2, h3, h4, h5, h6⟩ => ⟨A, c, e, h1, h2, h3, h4, h5, (h6.more hB).mono fun i vs _ ⟨x, hx, hr⟩ => ⟨x, hx, RTm.more hB hr⟩⟩
theorem RTms.below {w w' : World} {B C d : Nat} {ts : List Tm} {A : Option Addr} (h : RTms w B d ts A) (hw : Below C w w') (hB : B ≤ C) : RTms w' B d ts A :=
 (RowOf.below h hw hB).mono fun i vs _ ⟨x, hx, hr⟩ => ⟨x, hx, RTm.below hw hB hr⟩
theorem RTms.more {w : World} {B B' d : Nat} {ts : List Tm} {A : Option Addr} (h : RTms w B d ts A) (hB : B ≤ B') : RTms w B' d ts A :=
 (RowOf.more h hB).mono fun i vs _ ⟨x, hx, hr⟩ => ⟨x, hx, RTm.more hB hr⟩
open Go.ChangeShapes Go.WideShapes Go.ChangeAt Go.RowKit
theorem ret_bool {a b : Bool} (h : a = b) : Ending.returned (.bool a) = .returned (.bool b) := by rw [h]
theorem ret_int {k : IntKind} {a b : Int} (h : a = b) : Ending.returned (.int k a) = .returned (.int k b) := by rw [h]
def letterB (c : Int) : Bool := (decide (97 ≤ c) && decide (c ≤ 122)) || (decide (65 ≤ c) && decide (c ≤ 90))
set_option maxHeartbeats 400000 in
theorem letter_any (c : Int) (w : World) (h0 : 0 ≤ c) (h1 : c ≤ 255) :
   Calls Tryz.prog 62 #[.int .u8 c] w fun e w' => e = .returned (.bool (letterB c)) ∧ w = w' := by
 go_enter Tryz.func62, Tryz.ntmps62
 go_wp2
 all_goals go_ret
 all_goals refine ⟨ret_bool ?_, rfl⟩
 all_goals (rw [Bool.eq_iff_iff]; simp [letterB]; try omega)
def cmpI (x y : Int) : Int := if x < y then -1 else if y < x then 1 else 0
set_option maxHeartbeats 400000 in
theorem cmpInt_any (x y : Int) (w : World) :
   Calls Tryz.prog 142 #[.int .i64 x, .int .i64 y] w fun e w' => e = .returned (.int .i64 (cmpI x y)) ∧ w = w' := by
 go_enter Tryz.func142, Tryz.ntmps142
 go_wp2
 all_goals go_ret
 all_goals refine ⟨ret_int ?_, rfl⟩
 all_goals (simp [cmpI]; try omega)
set_option maxHeartbeats 400000 in
theorem cmpInt64_any (x y : Int) (w : World) :
   Calls Tryz.prog 143 #[.int .i64 x, .int .i64 y] w fun e w' => e = .returned (.int .i64 (cmpI x y)) ∧ w = w' := by
 go_enter Tryz.func143, Tryz.ntmps143
 go_wp2
 all_goals go_ret
 all_goals refine ⟨ret_int ?_, rfl⟩
 all_goals (simp [cmpI]; try omega)
abbrev bs (s : ByteArray) : List UInt8 := s.data.toList
def cmpS (x y : List UInt8) : Int := if x < y then -1 else if y < x then 1 else 0
theorem bytesLess_eq : ∀ (x y : List UInt8), Op.bytesLess x y = decide (x < y)
 | [], [] => by simp [Op.bytesLess]
 | _ :: _, [] => by simp [Op.bytesLess]
 | [], _ :: _ => by simp [Op.bytesLess]
 | a :: x, b :: y => by
   rw [Op.bytesLess, bytesLess_eq x y]
   simp only [List.cons_lt_cons_iff]
   by_cases h1 : a < b <;> by_cases h2 : a = b <;> by_cases h3 : x < y <;> simp [h1, h2, h3]
theorem less_iff (x y : ByteArray) : (Op.bytesLess x.toList y.toList = true) ↔ bs x < bs y := by
 rw [bytesLess_eq, ByteArray.toList_eq, ByteArray.toList_eq]; simp
theorem less_not (x y : ByteArray) : (Op.bytesLess x.toList y.toList = false) ↔ ¬ bs x < bs y := by
 rw [bytesLess_eq, ByteArray.toList_eq, ByteArray.toList_eq]; simp
theorem same_iff (x y : ByteArray) : (x.toList == y.toList) = decide (bs x = bs y) := by
 rw [ByteArray.toList_eq, ByteArray.toList_eq, Bool.eq_iff_iff]; simp
set_option maxHeartbeats 400000 in
theorem cmpStr_any (x y : ByteArray) (w : World) :
   Calls Tryz.prog 144 #[.string x, .string y] w fun e w' => e = .returned (.int .i64 (cmpS (bs x) (bs y))) ∧ w = w' := by
 go_enter Tryz.func144, Tryz.ntmps144
 go_wp2
 all_goals go_ret
 all_goals refine ⟨ret_int ?_, rfl⟩
 all_goals (simp only [less_iff, less_not, same_iff, Bool.not_eq_true', Bool.not_eq_false', decide_eq_false_iff_not, decide_eq_true_eq] at *; unfold cmpS)
 · rw [if_pos ‹_›]
 · have h1 : ¬ bs x < bs y := ‹_›
   have h2 : ¬ bs x = bs y := ‹_›
   rw [if_neg h1, if_pos]
   rcases List.le_iff_lt_or_eq.1 (List.not_lt.1 h1) with h | h
   · exact h
   · exact absurd h.symm h2
 · have h2 : bs x = bs y := ‹_›
   rw [h2, if_neg (List.lt_irrefl _), if_neg (List.lt_irrefl _)]
set_option maxHeartbeats 400000 in
theorem hasPrefix_any (s p : ByteArray) (w : World) (hs : s.size ≤ maxLen) (hp : p.size ≤ maxLen) :
   Calls Tryz.prog 43 #[.string s, .string p] w fun e w' => e = .returned (.bool (Lib.hasPrefix (bs s) (bs p))) ∧ w = w' := by
 go_enter Tryz.func43, Tryz.ntmps43
 go_wp2
 all_goals go_ret
 all_goals refine ⟨ret_bool ?_, rfl⟩
 all_goals rw [← Lib.hasPrefix_of_take, ← Lib.size_eq, ← Lib.size_eq]
 · have h : p.size ≤ s.size := ‹_›
   rw [same_iff, Bool.eq_iff_iff]
   simp [h, Lib.extract_data]
 · have h : ¬ p.size ≤ s.size := ‹_›
   simp [h]
def nameAt (i : Nat) (c : Int) : Bool := letterB c || (decide (i ≠ 0) && (decide (c = 95) || decide (c = 58) || (decide (48 ≤ c) && decide (c ≤ 57))))
theorem letterB_iff (c : Int) : letterB c = true ↔ (97 ≤ c ∧ c ≤ 122) ∨ (65 ≤ c ∧ c ≤ 90) := by simp [letterB]
theorem nameAt_iff (i : Nat) (c : Int) : nameAt i c = true ↔ ((97 ≤ c ∧ c ≤ 122) ∨ (65 ≤ c ∧ c ≤ 90)) ∨ (i ≠ 0 ∧ ((c = 95 ∨ c = 58) ∨ (48 ≤ c ∧ c ≤ 57))) := by simp [nameAt, letterB]
def hexB : ByteArray := ⟨#[104, 101, 120, 58]⟩
def nameB (l : List UInt8) : Bool := decide (∀ i, (h : i < l.length) → nameAt i l[i].toNat = true) && decide (1 ≤ l.length) && decide (l.length ≤ 32) && !Lib.hasPrefix l (bs hexB)
theorem bs_length (s : ByteArray) : (bs s).length = s.size := (Lib.size_eq s).symm
theorem nameB_iff (s : ByteArray) : nameB (bs s) = true ↔ ((∀ i, (h : i < s.size) → nameAt i s[i].toNat = true) ∧ 1 ≤ s.size ∧ s.size ≤ 32) ∧ Lib.hasPrefix (bs s) (bs hexB) = false := by
 simp only [nameB, Bool.and_eq_true, decide_eq_true_eq, bs_length, Bool.not_eq_true', and_assoc]
 exact Iff.rfl
set_option maxHeartbeats 400000 in
theorem name_any (s : ByteArray) (w : World) (hs : s.size ≤ maxLen) :
   Calls Tryz.prog 31 #[.string s] w fun e w' => e = .returned (.bool (nameB (bs s))) ∧ w = w' := by
 unfold maxLen at hs
 go_enter Tryz.func31, Tryz.ntmps31
 go_wp2_with fail
 go_loop [7] (fun i => ∃ k : Nat, k ≤ s.size ∧ i = .int .i64 k ∧ (∀ i, (h : i < k) → (h' : i < s.size) → nameAt i s[i].toNat = true)) (fun i => s.size - (intOf i).toNat)
 case atStart => exact ⟨0, Nat.zero_le _, rfl, fun i h => by omega⟩
 case round =>
   obtain ⟨k, hk, rfl, hall⟩ := hrel
   have HA := Lib.hid hall
   clear hall
   by_cases hlt : k < s.size
   · have hb : (s[k].toNat : Int) ≤ 255 := by have := s[k].toNat_lt; omega
     go_wp2_with (go_at_call 62; refine (letter_any _ _ (by omega) (by omega)).mono ?_; rintro e w' ⟨rfl, rfl⟩)
     all_goals simp only [letterB_iff, bne_iff_ne, beq_iff_eq, beq_eq_false_iff_ne, bne_eq_false_iff_eq, ne_eq] at *
     all_goals first
       | (have hn : nameAt k s[k].toNat = true := by (rw [nameAt_iff]; omega)
          go_round
          case rel => exact ⟨k + 1, by omega, by go_num, fun i h h' => by
            rcases Nat.lt_or_ge i k with h1 | h1
            · exact HA.out i h1 h'
            · obtain rfl : i = k := by omega
              exact hn⟩
          case measure => simp [intOf]; omega)
       | (have hn : ¬ nameAt k s[k].toNat = true := by (rw [nameAt_iff]; omega)
          go_ret
          refine ⟨ret_bool ?_, rfl⟩
          show false = _
          rw [eq_comm, Bool.eq_false_iff, ne_eq, nameB_iff]
          exact fun h => hn (h.1.1 k hlt))
   · go_wp2_with (go_at_call 43; refine (hasPrefix_any _ _ _ (by unfold maxLen; omega) (by decide)).mono ?_; rintro e w' ⟨rfl, rfl⟩)
     all_goals go_ret
     all_goals refine ⟨ret_bool ?_, rfl⟩
     · show (!Lib.hasPrefix (bs s) (bs hexB)) = _
       rw [Bool.eq_iff_iff, nameB_iff, Bool.not_eq_true']
       exact ⟨fun h => ⟨⟨fun i hi => HA.out i (by omega) hi, by omega, by omega⟩, h⟩, fun h => h.2⟩
     · show false = _
       rw [eq_comm, Bool.eq_false_iff, ne_eq, nameB_iff]
       omega
     · show false = _
       rw [eq_comm, Bool.eq_false_iff, ne_eq, nameB_iff]
       omega
open Go.ChangeShapes Go.WideShapes Go.ChangeAt Go.RowKit
def cmpL (f : Tm → Tm → Int) : List Tm → List Tm → Int
 | [], [] => 0
 | [], _ :: _ => -1
 | _ :: _, [] => 1
 | x :: xs, y :: ys => if f x y = 0 then cmpL f xs ys else f x y
def or3 (x y z : Int) : Int := if x = 0 then if y = 0 then z else y else x
def cmp3 (a b : Tm) : Int := or3 (cmpI a.kind b.kind) (cmpI a.n b.n) (cmpS (bs a.s) (bs b.s))
def cmpT : Nat → Tm → Tm → Int
 | 0, a, b => cmp3 a b
 | d + 1, a, b => if cmp3 a b = 0 then cmpL (cmpT d) a.l b.l else cmp3 a b
theorem RTm.cells {w : World} {B d : Nat} {t : Tm} {vs : List Value} (h : RTm w B d t vs) : ∃ A c, vs = [.int .i64 t.kind, .int .i64 t.n, .string t.s, .slice A t.l.length c] ∧ t.l.length ≤ c ∧ (t.l.length * 40 ≤ 140737488351232 ∧ c ≤ 9223372036854775807) ∧ t.s.size ≤ 140737488351232 ∧ I64 t.kind ∧ I64 t.n ∧ RTms w B (d - 1) t.l A := by
 match d, h with
 | d + 1, ⟨A, c, h⟩ => exact ⟨A, c, h⟩
theorem RTms.elem {w wr : World} {B d k : Nat} {ts : List Tm} {A : Option Addr} (h : RTms w B d ts A) (hbw : Below w.heap.size w wr) (hB : B ≤ w.heap.size) (hk : k < ts.length) :
   ∃ b off x Ax cx, A = some ⟨b, off, none⟩ ∧ b < wr.heap.size ∧ ts[k]? = some x ∧ wr.cell? ⟨b, off + k * 4, none⟩ = some (.int .i64 x.kind) ∧ wr.cell? ⟨b, off + k * 4 + 1, none⟩ = some (.int .i64 x.n) ∧
     wr.cell? ⟨b, off + k * 4 + 2, none⟩ = some (.string x.s) ∧ wr.cell? ⟨b, off + k * 4 + 3, none⟩ = some (.slice Ax x.l.length cx) ∧
     RTm wr B d x [.int .i64 x.kind, .int .i64 x.n, .string x.s, .slice Ax x.l.length cx] := by
 obtain ⟨b, off, rfl, hb, hc⟩ := h (by omega)
 obtain ⟨vs, hl, ⟨x, hx, hr⟩, hcell⟩ := hc k hk
 obtain ⟨Ax, cx, rfl, _⟩ := hr.cells
 have hlt : b < w.heap.size := by omega
 have hsz := hbw.size
 exact ⟨b, off, x, Ax, cx, rfl, by omega, hx, (hbw.cell (p := ⟨b, off + k * 4, none⟩) hlt).trans (hcell 0 _ rfl), (hbw.cell (p := ⟨b, off + k * 4 + 1, none⟩) hlt).trans (hcell 1 _ rfl),
   (hbw.cell (p := ⟨b, off + k * 4 + 2, none⟩) hlt).trans (hcell 2 _ rfl), (hbw.cell (p := ⟨b, off + k * 4 + 3, none⟩) hlt).trans (hcell 3 _ rfl), hr.below hbw hB⟩
theorem RTms.base {w wr : World} {B d : Nat} {ts : List Tm} {A : Option Addr} (h : RTms w B d ts A) (hbw : Below w.heap.size w wr) (hB : B ≤ w.heap.size) (hk : 0 < ts.length) :
   ∃ b off, A = some ⟨b, off, none⟩ ∧ b < wr.heap.size := by
 obtain ⟨b, off, rfl, hb, _⟩ := h hk
 exact ⟨b, off, rfl, by have := hbw.size; omega⟩
theorem RTms.at_ {w wr : World} {B d k b off : Nat} {ts : List Tm} (h : RTms w B d ts (some ⟨b, off, none⟩)) (hbw : Below w.heap.size w wr) (hB : B ≤ w.heap.size) (hk : k < ts.length) :
   ∃ x Ax cx, ts[k]? = some x ∧ wr.cell? ⟨b, off + k * 4, none⟩ = some (.int .i64 x.kind) ∧ wr.cell? ⟨b, off + k * 4 + 1, none⟩ = some (.int .i64 x.n) ∧
     wr.cell? ⟨b, off + k * 4 + 2, none⟩ = some (.string x.s) ∧ wr.cell? ⟨b, off + k * 4 + 3, none⟩ = some (.slice Ax x.l.length cx) ∧
     RTm wr B d x [.int .i64 x.kind, .int .i64 x.n, .string x.s, .slice Ax x.l.length cx] := by
 obtain ⟨b', off', x, Ax, cx, e, hb, h⟩ := h.elem hbw hB hk
 simp only [Option.some.injEq, Addr.mk.injEq, and_true] at e
 obtain ⟨rfl, rfl⟩ := e
 exact ⟨x, Ax, cx, h⟩
set_option maxHeartbeats 1000000 in
theorem compareFunc_any (F : FuncId) (cap : Array Value) (f : Tm → Tm → Int) (d e : Nat) (xs ys : List Tm) (A A' : Option Addr) (c c' B : Nat) (w : World)
   (hF : ∀ args (w : World), (callFunc F args).run Tryz.prog w = .ok (.enter F args) w)
   (hA : RTms w B d xs A) (hA' : RTms w B e ys A') (hB : B ≤ w.heap.size) (hn : xs.length * 40 ≤ 140737488351232) (hn' : ys.length * 40 ≤ 140737488351232)
   (hf : ∀ (x y : Tm) (vs ws : List Value) (w1 : World), Below w.heap.size w w1 → RTm w1 B d x vs → RTm w1 B e y ws →
     Calls Tryz.prog F (#[.agg vs.toArray, .agg ws.toArray] ++ cap) w1 fun e w' => e = .returned (.int .i64 (f x y)) ∧ Below w1.heap.size w1 w') :
   Calls Tryz.prog 145 #[.slice A xs.length c, .slice A' ys.length c', .func (.func F) #[] cap] w fun e w' => e = .returned (.int .i64 (cmpL f xs ys)) ∧ Below w.heap.size w w' := by
 have HF := Lib.hid hf
 clear hf
 go_enter Tryz.func145, Tryz.ntmps145
 go_wp2_with fail
 go_loopw [13] (fun i wr => ∃ k : Nat, k ≤ xs.length ∧ i = .int .i64 k ∧ Below w.heap.size w wr ∧ cmpL f xs ys = cmpL f (xs.drop k) (ys.drop k)) (fun i _ => xs.length - (intOf i).toNat)
 case atStart => exact ⟨0, Nat.zero_le _, rfl, Below.refl _ _, rfl⟩
 case round =>
   obtain ⟨k, hk, rfl, hbw, heq⟩ := hrel
   have HE := Lib.hid heq
   clear heq
   by_cases hlt : k < xs.length
   · obtain ⟨b, off, x, Ax, cx, rfl, hb, hx, c0, c1, c2, c3, hr⟩ := hA.elem hbw hB hlt
     by_cases hlt2 : k < ys.length
     · obtain ⟨b', off', y, Ay, cy, rfl, hb', hy, e0, e1, e2, e3, hr'⟩ := hA'.elem hbw hB hlt2
       have hsz := hbw.size
       have hbw2 : ∀ o o' : Obj, Below w.heap.size w ((wr.alloc o).alloc o') := fun o o' => (hbw.alloc hsz _).alloc (by simp; omega) _
       have hbr2 : ∀ o o' : Obj, Below wr.heap.size wr ((wr.alloc o).alloc o') := fun o o' => ((Below.refl _ _).alloc (Nat.le_refl _) _).alloc (by simp) _
       have HB := Lib.hid hbw2
       have HR := Lib.hid hbr2
       have hx' : xs.drop k = x :: xs.drop (k + 1) := by
         obtain ⟨h1, h2⟩ := List.getElem?_eq_some_iff.1 hx
         rw [← h2]; exact List.drop_eq_getElem_cons h1
       have hy' : ys.drop k = y :: ys.drop (k + 1) := by
         obtain ⟨h1, h2⟩ := List.getElem?_eq_some_iff.1 hy
         rw [← h2]; exact List.drop_eq_getElem_cons h1
       have HE2 : Hid (cmpL f xs ys = if f x y = 0 then cmpL f (xs.drop (k + 1)) (ys.drop (k + 1)) else f x y) := by
         have := HE.out
         rw [hx', hy'] at this
         exact this
       clear hbw2 hbr2 hx' hy' HE
       go_wp2_with fail
       refine (HF.out x y [_, _, _, _] [_, _, _, _] _ (HB.out _ _) (hr.below (HR.out _ _) (by omega)) (hr'.below (HR.out _ _) (by omega))).mono ?_
       rintro e w1 ⟨rfl, hb1⟩
       have hbw1 := Lib.hid ((HB.out _ _).trans (hb1.mono (by simp; omega)))
       clear hb1
       by_cases hz : (f x y != 0) = true
       · go_wp2_with fail
         go_ret
         exact ⟨ret_int (by rw [HE2.out, if_neg (by simpa using hz)]), hbw1.out⟩
       · have hz' : (f x y != 0) = false := by simpa using hz
         go_wp2_with fail
         go_roundw
         case rel => exact ⟨k + 1, by omega, by go_num, hbw1.out, by rw [HE2.out, if_pos (by simpa using hz')]⟩
         case measure => simp [intOf]; omega
     · have hz : ys.drop k = [] := List.drop_eq_nil_iff.2 (by omega)
       have HE2 : Hid (cmpL f xs ys = 1) := by
         have := HE.out
         obtain ⟨h1, h2⟩ := List.getElem?_eq_some_iff.1 hx
         rw [List.drop_eq_getElem_cons h1, hz] at this
         exact this
       have hbw2 := Lib.hid (fun o : Obj => hbw.alloc hbw.size o)
       clear HE hz
       go_wp2_with fail
       go_ret
       exact ⟨ret_int HE2.out.symm, hbw2.out _⟩
   · have hz : xs.drop k = [] := List.drop_eq_nil_iff.2 (by omega)
     have HE2 := HE.out
     rw [hz] at HE2
     have HE3 := Lib.hid HE2
     clear HE HE2 hz
     by_cases hlt2 : xs.length < ys.length
     · go_wp2_with fail
       go_ret
       obtain rfl : k = xs.length := by omega
       exact ⟨ret_int (by rw [HE3.out, List.drop_eq_getElem_cons hlt2]; rfl), hbw⟩
     · go_wp2_with fail
       go_ret
       obtain rfl : k = xs.length := by omega
       exact ⟨ret_int (by rw [HE3.out, List.drop_eq_nil_iff.2 (by omega)]; rfl), hbw⟩
def OrRel (x y z : Int) (i : Value) : Prop := i = .int .i64 0 ∨ (i = .int .i64 1 ∧ x = 0) ∨ (i = .int .i64 2 ∧ x = 0 ∧ y = 0) ∨ (i = .int .i64 3 ∧ x = 0 ∧ y = 0 ∧ z = 0)
set_option maxHeartbeats 1000000 in
theorem orInt_any (x y z : Int) (b : Nat) (w : World) (h0 : w.cell? ⟨b, 0, none⟩ = some (.int .i64 x)) (h1 : w.cell? ⟨b, 1, none⟩ = some (.int .i64 y)) (h2 : w.cell? ⟨b, 2, none⟩ = some (.int .i64 z)) :
   Calls Tryz.prog 141 #[.slice (some ⟨b, 0, none⟩) 3 3] w fun e w' => e = .returned (.int .i64 (or3 x y z)) ∧ w = w' := by
 go_enter Tryz.func141, Tryz.ntmps141
 go_wp2_with fail
 go_loop [8] (fun i => OrRel x y z i) (fun i => 3 - (intOf i).toNat)
 case atStart => exact .inl rfl
 case round =>
   rcases hrel with rfl | ⟨rfl, hx⟩ | ⟨rfl, hx, hy⟩ | ⟨rfl, hx, hy, hz⟩
   · by_cases h : (x != 0) = true
     · go_wp2_with fail
       go_ret
       exact ⟨ret_int (by rw [or3, if_neg (by simpa using h)]), rfl⟩
     · have h : (x != 0) = false := by simpa using h
       go_wp2_with fail
       go_round
       case rel => exact .inr (.inl ⟨rfl, by simpa using h⟩)
       case measure => simp [intOf]
   · have HX := Lib.hid hx
     clear hx
     by_cases h : (y != 0) = true
     · go_wp2_with fail
       go_ret
       exact ⟨ret_int (by rw [or3, if_pos HX.out, if_neg (by simpa using h)]), rfl⟩
     · have h : (y != 0) = false := by simpa using h
       go_wp2_with fail
       go_round
       case rel => exact .inr (.inr (.inl ⟨rfl, HX.out, by simpa using h⟩))
       case measure => simp [intOf]
   · have HX := Lib.hid hx
     have HY := Lib.hid hy
     clear hx hy
     by_cases h : (z != 0) = true
     · go_wp2_with fail
       go_ret
       exact ⟨ret_int (by rw [or3, if_pos HX.out, if_pos HY.out]), rfl⟩
     · have h : (z != 0) = false := by simpa using h
       go_wp2_with fail
       go_round
       case rel => exact .inr (.inr (.inr ⟨rfl, HX.out, HY.out, by simpa using h⟩))
       case measure => simp [intOf]
   · have HX := Lib.hid hx
     have HY := Lib.hid hy
     have HZ := Lib.hid hz
     clear hx hy hz
     go_wp2_with fail
     go_ret
     exact ⟨ret_int (by rw [or3, if_pos HX.out, if_pos HY.out, HZ.out]), rfl⟩
end Go.Proofs.YtiplipdigabidaaGreat
