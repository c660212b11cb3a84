/- Plain laws of the patterns' spec: how much is left, how long programs are, where their steps lead. -/
import Derived.Test.YtiplipdigabidaaGreatRegSpec
import Derived.Test.YtiplipdigabidaaGreatOrd
import Derived.BigQuiet
set_option linter.unusedVariables false
set_option linter.unusedSimpArgs false
namespace Go.Proofs.YtiplipdigabidaaGreat
open Go.ChangeShapes Go.WideShapes Go.ChangeAt Go.RowKit
def psA (s : ByteArray) (p : PS) : Array Value := #[.string s, .int .i64 p.at_, .int .i64 p.deep, .int .i64 p.e]
theorem wrap_id {n : Int} (h0 : -9223372036854775808 ≤ n) (h1 : n < 9223372036854775808) : wrap64 n = n := by rw [wrapI]; split <;> omega
theorem byteAt_get {s : ByteArray} {k : Nat} (h : k < s.size) : byteAt s k = s[k].toNat := by
 have hl : k < (bs s).length := by rw [bs_length]; exact h
 unfold byteAt
 rw [List.getElem?_eq_getElem hl]
 rfl
theorem byteAt_lt (s : ByteArray) (k : Nat) : byteAt s k < 256 := by
 unfold byteAt
 rcases (bs s)[k]? with _ | b
 · simp
 · simp; exact b.toNat_lt
set_option maxRecDepth 100000 in
set_option maxHeartbeats 1000000 in
theorem ends_any {w : World} {P : Nat} {s : ByteArray} {p : PS} (hb : Blk w P (psA s p)) (hs : s.size ≤ 1000000) (ha : p.at_ ≤ 1000000) :
   Calls Tryz.prog 155 #[.pointer (some ⟨P, 0, none⟩)] w fun e w' => e = .returned (.bool (endsP s p)) ∧ Below w.heap.size w w' := by
 obtain ⟨at_, deep, e⟩ := p
 have hb : Blk w P #[.string s, .int .i64 at_, .int .i64 deep, .int .i64 e] := hb
 have q_p := hb.regrown
 simp only at ha
 rcases Bool.eq_false_or_eq_true (e != 0) with he | he
 all_goals
   go_enter Tryz.func155, Tryz.ntmps155
   go_wp2_with fail
   refine wp_region_quiet_below (by kernel_rfl) (by kernel_rfl) ?_
   repeat (go_big_quiet_step (fail))
   refine wpQuiet_nil ?_
   intro w3 hw3
   have hb1 : Below w.heap.size w w3 := by obtain ⟨p, rfl⟩ := hw3; exact below_regrown _ _ _
   clear hw3 q_p
   go_wp2_with fail
   go_ret
   refine ⟨ret_bool ?_, hb1⟩
   simp only [bne_iff_ne, ne_eq, bne_eq_false_iff_eq] at he
   simp [endsP, he]
set_option maxRecDepth 100000 in
set_option maxHeartbeats 1000000 in
theorem is_any {w : World} {P : Nat} {s : ByteArray} {p : PS} {c : Nat} (hb : Blk w P (psA s p)) (hs : s.size ≤ 1000000) (ha : p.at_ ≤ 1000000) :
   Calls Tryz.prog 168 #[.pointer (some ⟨P, 0, none⟩), .int .u8 c] w fun e w' => e = .returned (.bool (isP s p c)) ∧ Below w.heap.size w w' := by
 have hb0 := hb
 have HB0 := Lib.hid hb
 rcases Bool.eq_false_or_eq_true (endsP s p) with he | he
 · have HE := Lib.hid he
   clear he
   go_enter Tryz.func168, Tryz.ntmps168
   go_wp2_with fail
   refine wp_region_quiet_below (by kernel_rfl) (by kernel_rfl) ?_
   repeat (go_big_quiet_step ((go_at_call 155; exact Calls.regrown_of (as_bool HE.out (ends_any (HB0.out.later (below_regrown _ _ _)) hs ha)))))
   refine wpQuiet_nil ?_
   intro w3 hw3
   have hb1 : Below w.heap.size w w3 := by obtain ⟨p, rfl⟩ := hw3; exact below_regrown _ _ _
   clear hw3
   go_wp2_with fail
   go_ret
   exact ⟨ret_bool (by unfold isP; rw [HE.out]; rfl), hb1⟩
 · have HE := Lib.hid he
   have hlt : p.at_ < s.size := by
     unfold endsP at he
     simp only [Bool.or_eq_false_iff, decide_eq_false_iff_not] at he
     omega
   have HX : Hid (byteAt s p.at_ = s[p.at_].toNat) := Lib.hid (byteAt_get hlt)
   obtain ⟨at_, deep, e⟩ := p
   have hb : Blk w P #[.string s, .int .i64 at_, .int .i64 deep, .int .i64 e] := hb
   have q_p := hb.regrown
   simp only at ha hlt HX
   clear he hb0
   go_enter Tryz.func168, Tryz.ntmps168
   go_wp2_with fail
   refine wp_region_quiet_below (by kernel_rfl) (by kernel_rfl) ?_
   repeat (go_big_quiet_step ((go_at_call 155; exact Calls.regrown_of (as_bool HE.out (ends_any (HB0.out.later (below_regrown _ _ _)) hs ha)))))
   refine wpQuiet_nil ?_
   intro w3 hw3
   have hb1 : Below w.heap.size w w3 := by obtain ⟨p, rfl⟩ := hw3; exact below_regrown _ _ _
   clear hw3 q_p
   go_wp2_with fail
   go_ret
   refine ⟨ret_bool ?_, hb1⟩
   unfold isP
   rw [HE.out]
   simp only [Bool.not_false, Bool.true_and]
   rw [HX.out, Bool.eq_iff_iff]
   simp
   try omega
set_option maxRecDepth 100000 in
set_option maxHeartbeats 1000000 in
theorem fails_any {w : World} {P : Nat} {s : ByteArray} {p : PS} {n : Int} (hb : Blk w P (psA s p)) :
   Calls Tryz.prog 156 #[.pointer (some ⟨P, 0, none⟩), .int .i64 n] w fun e w' => e = .returned (.tuple #[]) ∧ Exc P w w' ∧ Blk w' P (psA s (failP p n)) := by
 obtain ⟨at_, deep, e⟩ := p
 have hb : Blk w P #[.string s, .int .i64 at_, .int .i64 deep, .int .i64 e] := hb
 have k_p := hb.cell
 have f_p := hb.free
 have HB := Lib.hid hb
 clear hb
 by_cases he : e = 0
 · subst he
   go_enter Tryz.func156, Tryz.ntmps156
   go_wp2_with fail
   go_end0
   exact ⟨rfl, (Exc.refl P w).set 3 _, HB.out.set_ 3 _⟩
 · have HE := Lib.hid he
   go_enter Tryz.func156, Tryz.ntmps156
   go_wp2_with fail
   go_end0
   refine ⟨rfl, Exc.refl P w, ?_⟩
   unfold failP
   rw [if_neg HE.out]
   exact HB.out
theorem next_le {s : ByteArray} {p : PS} : (nextP s p).2.at_ ≤ p.at_ + 1 := by
 unfold nextP failP PS.step
 split <;> (try split) <;> simp
theorem next_at {s : ByteArray} {p : PS} (h : endsP s p = false) : p.e = 0 ∧ p.at_ < s.size := by
 unfold endsP at h
 simp only [Bool.or_eq_false_iff, decide_eq_false_iff_not, ne_eq, Classical.not_not] at h
 omega
set_option maxRecDepth 100000 in
set_option maxHeartbeats 1000000 in
theorem next_any {w : World} {P : Nat} {s : ByteArray} {p : PS} (hb : Blk w P (psA s p)) (hs : s.size ≤ 1000000) (ha : p.at_ ≤ 1000000) :
   Calls Tryz.prog 174 #[.pointer (some ⟨P, 0, none⟩)] w fun e w' => e = .returned (.int .u8 (nextP s p).1) ∧ Exc P w w' ∧ Blk w' P (psA s (nextP s p).2) := by
 have HB := Lib.hid hb
 have hlt := hb.lt
 clear hb
 rcases Bool.eq_false_or_eq_true (endsP s p) with he | he
 · have HN : Hid (nextP s p = (0, failP p 3)) := Lib.hid (by unfold nextP; rw [if_pos he])
   have HE := Lib.hid he
   clear he
   go_enter Tryz.func174, Tryz.ntmps174
   go_wp2_with fail
   refine (ends_any HB.out hs ha).mono ?_
   rintro x w1 ⟨rfl, hb1⟩
   rw [HE.out]
   have HB1 := Lib.hid (HB.out.later hb1)
   have HX1 := Lib.hid (Exc.of (Nat.le_of_lt hlt) hb1)
   clear hb1
   go_wp2_with fail
   refine (fails_any HB1.out).mono ?_
   rintro x w2 ⟨rfl, hx, hb2⟩
   have HB2 := Lib.hid hb2
   have HX2 := Lib.hid (HX1.out.trans hx)
   clear hx hb2
   go_wp2_with fail
   go_ret
   rw [HN.out]
   exact ⟨rfl, HX2.out, HB2.out⟩
 · have HN : Hid (nextP s p = (byteAt s p.at_, p.step)) := Lib.hid (by unfold nextP; rw [if_neg (by rw [he]; simp)])
   have HE := Lib.hid he
   obtain ⟨h0, h1⟩ := next_at he
   have HG : Hid (byteAt s p.at_ = s[p.at_].toNat) := Lib.hid (byteAt_get h1)
   clear he
   go_enter Tryz.func174, Tryz.ntmps174
   go_wp2_with fail
   refine (ends_any HB.out hs ha).mono ?_
   rintro x w1 ⟨rfl, hb1⟩
   rw [HE.out]
   have hbb : Blk w1 P (psA s p) := HB.out.later hb1
   have HX1 := Lib.hid (Exc.of (Nat.le_of_lt hlt) hb1)
   obtain ⟨at_, deep, e⟩ := p
   have hbb : Blk w1 P #[.string s, .int .i64 at_, .int .i64 deep, .int .i64 e] := hbb
   simp only at ha h0 h1 HG HN
   subst h0
   have hw1 : wrap64 ((at_ : Int) + 1) = (at_ : Int) + 1 := wrap_id (by omega) (by omega)
   have hw2 : wrap64 ((at_ : Int) + 1 - 1) = (at_ : Int) := (congrArg wrap64 (by omega)).trans (wrap_id (n := (at_ : Int)) (by omega) (by omega))
   have k_p := hbb.cell
   have f_p := hbb.free
   have HBB := Lib.hid (show Blk (w1.setCell ⟨P, 1, none⟩ (.int .i64 ((at_ : Int) + 1))) P #[.string s, .int .i64 ((at_ : Int) + 1), .int .i64 deep, .int .i64 0] from hbb.set_ 1 _)
   have HX2 := Lib.hid (HX1.out.set 1 (.int .i64 ((at_ : Int) + 1)))
   clear hb1 hbb
   go_wp2_with fail
   generalize w1.setCell _ _ = w2 at *
   have q_p := HBB.out.regrown
   refine wp_region_quiet_below (by kernel_rfl) (by kernel_rfl) ?_
   repeat (go_big_quiet_step (fail))
   refine wpQuiet_nil ?_
   intro w3 hw3
   have hb3 : Below w2.heap.size w2 w3 := by obtain ⟨p, rfl⟩ := hw3; exact below_regrown _ _ _
   clear hw3 q_p
   have HX3 := Lib.hid (HX2.out.then (Nat.le_of_lt hlt) hb3)
   have HB3 := Lib.hid (HBB.out.later hb3)
   clear hb3 k_p f_p
   go_wp2_with fail
   go_ret
   rw [HN.out]
   refine ⟨?_, HX3.out, ?_⟩
   · rw [HG.out]; rfl
   · have := HB3.out
     unfold psA PS.step
     simpa using this
set_option maxRecDepth 100000 in
set_option maxHeartbeats 1000000 in
theorem member_any {w : World} {P : Nat} {s : ByteArray} {p : PS} (hb : Blk w P (psA s p)) (hs : s.size ≤ 1000000) (ha : p.at_ < 1000000) :
   Calls Tryz.prog 179 #[.pointer (some ⟨P, 0, none⟩)] w fun e w' => e = .returned (.int .u8 (memberP s p).1) ∧ Exc P w w' ∧ Blk w' P (psA s (memberP s p).2) := by
 have HB := Lib.hid hb
 clear hb
 go_enter Tryz.func179, Tryz.ntmps179
 go_wp2_with fail
 refine (next_any HB.out hs (by omega)).mono ?_
 rintro x w1 ⟨rfl, hx, hb1⟩
 have HB1 := Lib.hid hb1
 have HX1 := Lib.hid hx
 have hat := next_le (s := s) (p := p)
 clear hx hb1
 by_cases h92 : (nextP s p).1 = 92
 · have HM : Hid (memberP s p = nextP s (nextP s p).2) := Lib.hid (by unfold memberP; simp only; rw [if_pos h92])
   rw [h92]
   clear h92
   go_wp2_with fail
   refine (next_any HB1.out hs (by omega)).mono ?_
   rintro x w2 ⟨rfl, hx, hb2⟩
   have HB2 := Lib.hid hb2
   have HX2 := Lib.hid (HX1.out.trans hx)
   clear hx hb2
   go_wp2_with fail
   go_ret
   rw [HM.out]
   exact ⟨rfl, HX2.out, HB2.out⟩
 · have HM : Hid (memberP s p = nextP s p) := Lib.hid (by unfold memberP; simp only; rw [if_neg h92])
   have h92' : ¬ ((nextP s p).1 : Int) = 92 := by omega
   clear h92
   go_wp2_with fail
   go_ret
   rw [HM.out]
   exact ⟨rfl, HX1.out, HB1.out⟩
def inA (i : Ins) : Array Value := #[.int .i64 i.kind, .int .u64 i.a, .int .u64 i.b, .int .u64 i.c, .int .u64 i.d, .int .i64 i.x, .int .i64 i.y]
set_option maxRecDepth 100000 in
set_option maxHeartbeats 2000000 in
theorem has_bit {w : World} {G : Nat} {i : Ins} {c : Nat} (hb : Blk w G (inA i)) (hc : c < 256) :
   Calls Tryz.prog 177 #[.pointer (some ⟨G, 0, none⟩), .int .u8 c] w fun e w' => e = .returned (.tuple #[]) ∧ Exc G w w' ∧ Blk w' G (inA (hasI i c)) := by
 obtain ⟨kind, a, b, c0, d, x, y⟩ := i
 have hb : Blk w G #[.int .i64 kind, .int .u64 a, .int .u64 b, .int .u64 c0, .int .u64 d, .int .i64 x, .int .i64 y] := hb
 have k_p := hb.cell
 have f_p := hb.free
 have hj : c / 64 = 0 ∨ c / 64 = 1 ∨ c / 64 = 2 ∨ c / 64 = 3 := by omega
 have hr : (c : Int).tmod 64 = ((c % 64 : Nat) : Int) := rfl
 have hr2 : ((c % 64 : Nat) : Int) < 64 := by omega
 have hr3 : (0 : Int) ≤ ((c % 64 : Nat) : Int) := by omega
 rcases hj with hj | hj | hj | hj
 · have hq : (c : Int).tdiv 64 = ((c / 64 : Nat) : Int) := rfl
   rw [hj] at hq
   go_enter Tryz.func177, Tryz.ntmps177
   go_wp2_with fail
   go_region
   go_wp2_with fail
   go_end0
   refine ⟨rfl, ((Exc.refl G w).set _ _).drew, ?_⟩
   have h9 := (hb.set_ 1 (.int .u64 (bits BinOp.or IntKind.u64 a (IntKind.u64.wrap (2 ^ (c % 64)))))).drew
   have e9 : inA (hasI ⟨kind, a, b, c0, d, x, y⟩ c) = (#[.int .i64 kind, .int .u64 a, .int .u64 b, .int .u64 c0, .int .u64 d, .int .i64 x, .int .i64 y] : Array Value).setIfInBounds 1 (.int .u64 (bits BinOp.or IntKind.u64 a (IntKind.u64.wrap (2 ^ (c % 64))))) := by
     unfold inA hasI Ins.put Ins.word
     rw [hj]
     simp
   rw [e9]
   exact h9
 · have hq : (c : Int).tdiv 64 = ((c / 64 : Nat) : Int) := rfl
   rw [hj] at hq
   go_enter Tryz.func177, Tryz.ntmps177
   go_wp2_with fail
   go_region
   go_wp2_with fail
   go_end0
   refine ⟨rfl, ((Exc.refl G w).set _ _).drew, ?_⟩
   have h9 := (hb.set_ 2 (.int .u64 (bits BinOp.or IntKind.u64 b (IntKind.u64.wrap (2 ^ (c % 64)))))).drew
   have e9 : inA (hasI ⟨kind, a, b, c0, d, x, y⟩ c) = (#[.int .i64 kind, .int .u64 a, .int .u64 b, .int .u64 c0, .int .u64 d, .int .i64 x, .int .i64 y] : Array Value).setIfInBounds 2 (.int .u64 (bits BinOp.or IntKind.u64 b (IntKind.u64.wrap (2 ^ (c % 64))))) := by
     unfold inA hasI Ins.put Ins.word
     rw [hj]
     simp
   rw [e9]
   exact h9
 · have hq : (c : Int).tdiv 64 = ((c / 64 : Nat) : Int) := rfl
   rw [hj] at hq
   go_enter Tryz.func177, Tryz.ntmps177
   go_wp2_with fail
   go_region
   go_wp2_with fail
   go_end0
   refine ⟨rfl, ((Exc.refl G w).set _ _).drew, ?_⟩
   have h9 := (hb.set_ 3 (.int .u64 (bits BinOp.or IntKind.u64 c0 (IntKind.u64.wrap (2 ^ (c % 64)))))).drew
   have e9 : inA (hasI ⟨kind, a, b, c0, d, x, y⟩ c) = (#[.int .i64 kind, .int .u64 a, .int .u64 b, .int .u64 c0, .int .u64 d, .int .i64 x, .int .i64 y] : Array Value).setIfInBounds 3 (.int .u64 (bits BinOp.or IntKind.u64 c0 (IntKind.u64.wrap (2 ^ (c % 64))))) := by
     unfold inA hasI Ins.put Ins.word
     rw [hj]
     simp
   rw [e9]
   exact h9
 · have hq : (c : Int).tdiv 64 = ((c / 64 : Nat) : Int) := rfl
   rw [hj] at hq
   go_enter Tryz.func177, Tryz.ntmps177
   go_wp2_with fail
   go_region
   go_wp2_with fail
   go_end0
   refine ⟨rfl, ((Exc.refl G w).set _ _).drew, ?_⟩
   have h9 := (hb.set_ 4 (.int .u64 (bits BinOp.or IntKind.u64 d (IntKind.u64.wrap (2 ^ (c % 64)))))).drew
   have e9 : inA (hasI ⟨kind, a, b, c0, d, x, y⟩ c) = (#[.int .i64 kind, .int .u64 a, .int .u64 b, .int .u64 c0, .int .u64 d, .int .i64 x, .int .i64 y] : Array Value).setIfInBounds 4 (.int .u64 (bits BinOp.or IntKind.u64 d (IntKind.u64.wrap (2 ^ (c % 64))))) := by
     unfold inA hasI Ins.put Ins.word
     rw [hj]
     simp
   rw [e9]
   exact h9
open Go.ChangeShapes Go.WideShapes Go.ChangeAt Go.RowKit
def remP (s : ByteArray) (p : PS) : Nat := if p.e = 0 then s.size - p.at_ else 0
theorem rem_le (s : ByteArray) (p : PS) : remP s p ≤ s.size := by unfold remP; split <;> omega
theorem ends_rem (s : ByteArray) (p : PS) : endsP s p = decide (remP s p = 0) := by
 unfold endsP remP
 by_cases h : p.e = 0
 · simp [h]; omega
 · simp [h]
theorem fail_rem {s : ByteArray} {p : PS} {e : Int} (he : e ≠ 0) : remP s (failP p e) = 0 := by
 unfold failP remP
 by_cases h : p.e = 0
 · simp [h, he]
 · simp [h]
theorem fail_at (p : PS) (e : Int) : (failP p e).at_ = p.at_ := by unfold failP; split <;> rfl
theorem fail_deep (p : PS) (e : Int) : (failP p e).deep = p.deep := by unfold failP; split <;> rfl
theorem fail_e {p : PS} {e : Int} (he : e ≠ 0) : (failP p e).e ≠ 0 := by unfold failP; split <;> simp_all
structure Less (s : ByteArray) (d : Nat) (p q : PS) : Prop where
 rem : remP s q + d ≤ remP s p ∨ d ≠ 0 ∧ remP s p = 0 ∧ remP s q = 0
 deep : q.deep = p.deep
 at_ : p.at_ ≤ s.size → q.at_ ≤ s.size
 up : p.at_ ≤ q.at_
theorem Less.refl (s : ByteArray) (p : PS) : Less s 0 p p := ⟨.inl (Nat.le_refl _), rfl, id, Nat.le_refl _⟩
theorem Less.zero {s : ByteArray} {d : Nat} {p q : PS} (h : Less s d p q) : Less s 0 p q := ⟨.inl (by rcases h.rem with h | ⟨_, h, k⟩ <;> omega), h.deep, h.at_, h.up⟩
theorem Less.le {s : ByteArray} {d : Nat} {p q : PS} (h : Less s d p q) : remP s q ≤ remP s p := by rcases h.rem with h | ⟨_, h, k⟩ <;> omega
theorem Less.trans {s : ByteArray} {p q r : PS} (h : Less s 0 p q) (k : Less s 0 q r) : Less s 0 p r := ⟨.inl (by have := h.le; have := k.le; omega), k.deep.trans h.deep, fun x => k.at_ (h.at_ x), Nat.le_trans h.up k.up⟩
theorem Less.one {s : ByteArray} {p q r : PS} (h : Less s 1 p q) (k : Less s 0 q r) : Less s 1 p r := ⟨by have := k.le; rcases h.rem with h | ⟨_, h, k⟩ <;> omega, k.deep.trans h.deep, fun x => k.at_ (h.at_ x), Nat.le_trans h.up k.up⟩
theorem Less.fail {s : ByteArray} {d : Nat} {p q : PS} {e : Int} (h : Less s d p q) (he : e ≠ 0) : Less s d p (failP q e) :=
 ⟨by rw [fail_rem he]; rcases h.rem with h | ⟨_, h, k⟩ <;> omega, by rw [fail_deep, h.deep], by rw [fail_at]; exact h.at_, by rw [fail_at]; exact h.up⟩
theorem Less.failed {s : ByteArray} {p : PS} {e : Int} (he : e ≠ 0) : Less s 1 p (failP p e) :=
 ⟨by rw [fail_rem he]; omega, by rw [fail_deep], by rw [fail_at]; exact id, by rw [fail_at]; exact Nat.le_refl _⟩
theorem Less.stepped {s : ByteArray} {p : PS} (h : endsP s p = false) : Less s 1 p p.step := by
 rw [ends_rem] at h
 have h : remP s p ≠ 0 := by simpa using h
 unfold remP at h
 refine ⟨.inl ?_, rfl, fun hx => ?_, by simp [PS.step]⟩
 · unfold remP PS.step
   split at h
   · rename_i he
     simp [he]
     omega
   · exact absurd rfl h
 · unfold PS.step
   split at h
   · simp; omega
   · exact absurd rfl h
theorem is_ends {s : ByteArray} {p : PS} {c : Nat} (h : isP s p c = true) : endsP s p = false := by
 unfold isP at h
 rw [Bool.and_eq_true] at h
 simpa using h.1
theorem Less.byte {s : ByteArray} {p : PS} {c : Nat} (h : isP s p c = true) : Less s 1 p p.step := Less.stepped (is_ends h)
theorem next_less (s : ByteArray) (p : PS) : Less s 1 p (nextP s p).2 := by
 unfold nextP
 rcases Bool.eq_false_or_eq_true (endsP s p) with h | h
 · rw [if_pos h]; exact Less.failed (by decide)
 · rw [if_neg (by rw [h]; simp)]; exact Less.stepped h
theorem byte_lt (s : ByteArray) (k : Nat) : byteAt s k < 256 := by
 unfold byteAt
 rcases (bs s)[k]? with _ | b
 · simp
 · simp; exact b.toNat_lt
theorem next_lt (s : ByteArray) (p : PS) : (nextP s p).1 < 256 := by
 unfold nextP
 split
 · simp
 · exact byte_lt _ _
theorem member_less (s : ByteArray) (p : PS) : Less s 1 p (memberP s p).2 := by
 unfold memberP
 simp only
 split
 · exact (next_less s p).one (next_less s _).zero
 · exact next_less s p
theorem member_lt (s : ByteArray) (p : PS) : (memberP s p).1 < 256 := by
 unfold memberP
 simp only
 split <;> exact next_lt _ _
theorem span_less (s : ByteArray) (p : PS) : Less s 1 p (spanP s p).2 := by
 unfold spanP
 simp only
 split
 · rename_i h
   rw [Bool.and_eq_true] at h
   exact ((member_less s p).one (Less.byte h.1).zero).one (member_less s _).zero
 · exact member_less s p
theorem class_loop_less (s : ByteArray) : ∀ n p i, Less s 0 p (classL s n p i).2
 | 0, p, i => Less.refl s p
 | n + 1, p, i => by
   unfold classL
   split
   · simp only
     refine Less.trans ?_ (class_loop_less s n _ _)
     split
     · exact ((span_less s p).fail (by decide)).zero
     · exact (span_less s p).zero
   · exact Less.refl s p
theorem class_less (s : ByteArray) (p : PS) : Less s 0 p (classP s p).2 := by
 unfold classP
 simp only
 have h1 : Less s 0 p (if isP s p 94 = true then p.step else p) := by
   split
   · rename_i h; exact (Less.byte h).zero
   · exact Less.refl s p
 have h2 : ∀ q : PS, Less s 0 p q → Less s 0 p (if isP s q 93 = true then failP q 3 else q) := by
   intro q hq
   split
   · exact hq.fail (by decide)
   · exact hq
 exact (((h2 _ h1).trans (class_loop_less s _ _ _)).trans (next_less s _).zero)
structure Made (s : ByteArray) (d : Nat) (p : PS) (r : List Ins × PS) : Prop where
 less : Less s 0 p r.2
 one : remP s p ≠ 0 → remP s r.2 + d ≤ remP s p
 len : r.1.length + 2 * remP s r.2 ≤ 2 * remP s p
theorem moved_length (l : List Ins) (k : Int) : (movedL l k).length = l.length := by simp [movedL]
theorem Less.lt {s : ByteArray} {p q : PS} (h : Less s 1 p q) (hp : remP s p ≠ 0) : remP s q + 1 ≤ remP s p := by rcases h.rem with h | ⟨_, h, k⟩ <;> omega
theorem made_all (s : ByteArray) : ∀ n, (∀ p, Made s 0 p (patR s n p)) ∧ (∀ p out, Less s 0 p (rowR s n p out).2 ∧ (rowR s n p out).1.length + 2 * remP s (rowR s n p out).2 ≤ out.length + 2 * remP s p) ∧ (∀ p, remP s p ≠ 0 → Made s (if n ≤ 1 then 0 else 1) p (pieceR s n p)) ∧ (∀ p, remP s p ≠ 0 → Made s (if n = 0 then 0 else 1) p (atomR s n p)) := by
 intro n
 induction n with
 | zero =>
   refine ⟨fun p => ⟨Less.refl s p, fun _ => by simp [patR], by simp [patR]⟩, fun p out => ⟨Less.refl s p, by simp [rowR]⟩, fun p _ => ⟨Less.refl s p, fun _ => by simp [pieceR], by simp [pieceR]⟩, fun p _ => ⟨Less.refl s p, fun _ => by simp [atomR], by simp [atomR]⟩⟩
 | succ n ih =>
   obtain ⟨ihp, ihr, ihc, iha⟩ := ih
   refine ⟨fun p => ?_, fun p out => ?_, fun p hp => ?_, fun p hp => ?_⟩
   · unfold patR
     simp only
     obtain ⟨h1, h2⟩ := ihr p []
     split
     · rename_i hb
       have hs := Less.byte hb
       have hne : remP s (rowR s n p []).2 ≠ 0 := by
         have := is_ends hb
         rw [ends_rem] at this
         simpa using this
       have h3 := ihp (rowR s n p []).2.step
       have h4 := hs.lt hne
       have h5 := h3.len
       have h6 := h3.less.le
       have h7 := h1.le
       refine ⟨(h1.trans hs.zero).trans h3.less, fun _ => by simp only; omega, ?_⟩
       simp only [eitherL, List.length_append, moved_length, List.length_cons, List.length_nil] at h2 ⊢
       omega
     · refine ⟨h1, fun _ => h1.le, ?_⟩
       simpa using h2
   · unfold rowR
     split
     · rename_i hc
       have hne : remP s p ≠ 0 := by
         rw [Bool.and_eq_true] at hc
         have := hc.1
         rw [ends_rem] at this
         simpa using this
       have h1 := ihc p hne
       have h2 := ihr (pieceR s n p).2 (out ++ movedL (pieceR s n p).1 out.length)
       refine ⟨h1.less.trans h2.1, ?_⟩
       have h3 := h2.2
       rw [List.length_append, moved_length] at h3
       have h4 := h1.len
       simp only
       omega
     · exact ⟨Less.refl s p, by simp⟩
   · unfold pieceR
     simp only
     have h1 := iha p hp
     have hd : (if n + 1 ≤ 1 then 0 else 1) = (if n = 0 then 0 else 1) := by by_cases h : n = 0 <;> simp [h]
     rw [hd]
     generalize (if n = 0 then 0 else 1) = dd at *
     have hb : ∀ c, isP s (atomR s n p).2 c = true → Less s 1 (atomR s n p).2 (atomR s n p).2.step ∧ remP s (atomR s n p).2.step + 1 ≤ remP s (atomR s n p).2 := by
       intro c hc
       refine ⟨Less.byte hc, (Less.byte hc).lt ?_⟩
       have := is_ends hc
       rw [ends_rem] at this
       simpa using this
     have hl := h1.len
     have ho := h1.one hp
     split
     · rename_i hc
       obtain ⟨h2, h3⟩ := hb _ hc
       exact ⟨h1.less.trans h2.zero, fun _ => by simp only; omega, by simp [moved_length]; omega⟩
     · split
       · rename_i hc
         obtain ⟨h2, h3⟩ := hb _ hc
         exact ⟨h1.less.trans h2.zero, fun _ => by simp only; omega, by simp [moved_length]; omega⟩
       · split
         · rename_i hc
           obtain ⟨h2, h3⟩ := hb _ hc
           exact ⟨h1.less.trans h2.zero, fun _ => by simp only; omega, by simp [moved_length]; omega⟩
         · exact h1
   · rw [if_neg (by omega)]
     unfold atomR
     simp only
     have h1 := next_less s p
     have h2 := h1.lt hp
     have leaf : ∀ (i : Ins) (q : PS), Less s 0 (nextP s p).2 q → Made s 1 p ([i], q) := by
       intro i q hq
       have := hq.le
       exact ⟨h1.zero.trans hq, fun _ => by simp only; omega, by simp; omega⟩
     split
     · rename_i hc
       split
       · have h3 := fail_rem (s := s) (p := (nextP s p).2) (e := 4) (by decide)
         exact ⟨(h1.fail (by decide)).zero, fun _ => by simp only; omega, by simp [h3]⟩
       · have h3 := ihp ⟨(nextP s p).2.at_, (nextP s p).2.deep + 1, (nextP s p).2.e⟩
         generalize hq : patR s n ⟨(nextP s p).2.at_, (nextP s p).2.deep + 1, (nextP s p).2.e⟩ = q at *
         have h4 := next_less s q.2
         generalize hz : nextP s q.2 = z at *
         have hr : remP s ⟨(nextP s p).2.at_, (nextP s p).2.deep + 1, (nextP s p).2.e⟩ = remP s (nextP s p).2 := rfl
         have h5 := h3.less.le
         have h6 := h3.len
         have h7 := h4.le
         have hdp : q.2.deep = (nextP s p).2.deep + 1 := h3.less.deep
         have hdz : z.2.deep = q.2.deep := h4.deep
         have hkey : ∀ f : PS, Less s 0 z.2 f → Made s 1 p (q.1, ⟨f.at_, f.deep - 1, f.e⟩) := by
           intro f hf
           have hrf : remP s ⟨f.at_, f.deep - 1, f.e⟩ = remP s f := rfl
           have h8 := hf.le
           refine ⟨⟨.inl (by simp only; rw [hrf]; omega), ?_, ?_, ?_⟩, fun _ => by simp only; rw [hrf]; omega, by simp only; rw [hrf]; omega⟩
           · have := hf.deep; have := h1.deep; simp only; omega
           · exact fun hx => hf.at_ (h4.at_ (h3.less.at_ (h1.at_ hx)))
           · exact Nat.le_trans h1.up (Nat.le_trans h3.less.up (Nat.le_trans h4.up hf.up))
         refine hkey _ ?_
         split
         · exact (Less.refl s _).fail (by decide)
         · exact Less.refl s _
     · split
       · exact leaf _ _ (class_less s _)
       · split
         · exact leaf _ _ (Less.refl s _)
         · split
           · exact leaf _ _ (Less.refl s _)
           · split
             · exact leaf _ _ (Less.refl s _)
             · split
               · exact leaf _ _ (next_less s _).zero
               · split
                 · exact leaf _ _ ((Less.refl s _).fail (by decide))
                 · exact leaf _ _ (Less.refl s _)
theorem pat_made (s : ByteArray) (n : Nat) (p : PS) : Made s 0 p (patR s n p) := (made_all s n).1 p
theorem row_made (s : ByteArray) (n : Nat) (p : PS) (out : List Ins) : Less s 0 p (rowR s n p out).2 ∧ (rowR s n p out).1.length + 2 * remP s (rowR s n p out).2 ≤ out.length + 2 * remP s p := (made_all s n).2.1 p out
theorem piece_made (s : ByteArray) (n : Nat) (p : PS) (hp : remP s p ≠ 0) (hn : 2 ≤ n) : Made s 1 p (pieceR s n p) := by
 have := (made_all s n).2.2.1 p hp
 rwa [if_neg (by omega)] at this
theorem atom_made (s : ByteArray) (n : Nat) (p : PS) (hp : remP s p ≠ 0) (hn : 1 ≤ n) : Made s 1 p (atomR s n p) := by
 have := (made_all s n).2.2.2 p hp
 rwa [if_neg (by omega)] at this
end Go.Proofs.YtiplipdigabidaaGreat
