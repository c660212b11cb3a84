/- regex's parser: its small steps. -/
import Derived.Test.YtiplipdigabidaaGreatMatSpec
import Derived.Test.YtiplipdigabidaaGreatExc
import Derived.Test.YtiplipdigabidaaGreatShelf
import Derived.BigQuiet
import Derived.Test.YtiplipdigabidaaGreatSrc
import Derived.Laws.MakeOwn

set_option linter.unusedVariables false
set_option linter.unusedSimpArgs false
namespace Go.Proofs.YtiplipdigabidaaGreat
open Go.ChangeShapes Go.WideShapes Go.ChangeAt Go.RowKit

def psA (s : ByteArray) (p : PS) : Array Value := #[.string s, .int .i64 p.at_, .int .i64 p.deep, .int .i64 p.e]
theorem wrap_id {n : Int} (h0 : -9223372036854775808 ≤ n) (h1 : n < 9223372036854775808) : wrap64 n = n := by rw [wrapI]; split <;> omega
theorem byteAt_get {s : ByteArray} {k : Nat} (h : k < s.size) : byteAt s k = s[k].toNat := by
  have hl : k < (bs s).length := by rw [bs_length]; exact h
  unfold byteAt
  rw [List.getElem?_eq_getElem hl]
  rfl
theorem byteAt_lt (s : ByteArray) (k : Nat) : byteAt s k < 256 := by
  unfold byteAt
  rcases (bs s)[k]? with _ | b
  · simp
  · simp; exact b.toNat_lt

set_option maxRecDepth 100000 in
set_option maxHeartbeats 1000000 in
theorem ends_any {w : World} {P : Nat} {s : ByteArray} {p : PS} (hb : Blk w P (psA s p)) (hs : s.size ≤ 1000000) (ha : p.at_ ≤ 1000000) :
    Calls Tryz.prog 155 #[.pointer (some ⟨P, 0, none⟩)] w fun e w' => e = .returned (.bool (endsP s p)) ∧ Below w.heap.size w w' := by
  obtain ⟨at_, deep, e⟩ := p
  have hb : Blk w P #[.string s, .int .i64 at_, .int .i64 deep, .int .i64 e] := hb
  have q_p := hb.regrown
  simp only at ha
  rcases Bool.eq_false_or_eq_true (e != 0) with he | he
  all_goals
    go_enter Tryz.func155, Tryz.ntmps155
    go_wp2_with fail
    refine wp_region_quiet_below (by kernel_rfl) (by kernel_rfl) ?_
    repeat (go_big_quiet_step (fail))
    refine wpQuiet_nil ?_
    intro w3 hw3
    have hb1 : Below w.heap.size w w3 := by obtain ⟨p, rfl⟩ := hw3; exact below_regrown _ _ _
    clear hw3 q_p
    go_wp2_with fail
    go_ret
    refine ⟨ret_bool ?_, hb1⟩
    simp only [bne_iff_ne, ne_eq, bne_eq_false_iff_eq] at he
    simp [endsP, he]

set_option maxRecDepth 100000 in
set_option maxHeartbeats 1000000 in
theorem is_any {w : World} {P : Nat} {s : ByteArray} {p : PS} {c : Nat} (hb : Blk w P (psA s p)) (hs : s.size ≤ 1000000) (ha : p.at_ ≤ 1000000) :
    Calls Tryz.prog 168 #[.pointer (some ⟨P, 0, none⟩), .int .u8 c] w fun e w' => e = .returned (.bool (isP s p c)) ∧ Below w.heap.size w w' := by
  have hb0 := hb
  have HB0 := Lib.hid hb
  rcases Bool.eq_false_or_eq_true (endsP s p) with he | he
  · have HE := Lib.hid he
    clear he
    go_enter Tryz.func168, Tryz.ntmps168
    go_wp2_with fail
    refine wp_region_quiet_below (by kernel_rfl) (by kernel_rfl) ?_
    repeat (go_big_quiet_step ((go_at_call 155; exact Calls.regrown_of (as_bool HE.out (ends_any (HB0.out.later (below_regrown _ _ _)) hs ha)))))
    refine wpQuiet_nil ?_
    intro w3 hw3
    have hb1 : Below w.heap.size w w3 := by obtain ⟨p, rfl⟩ := hw3; exact below_regrown _ _ _
    clear hw3
    go_wp2_with fail
    go_ret
    exact ⟨ret_bool (by unfold isP; rw [HE.out]; rfl), hb1⟩
  · have HE := Lib.hid he
    have hlt : p.at_ < s.size := by
      unfold endsP at he
      simp only [Bool.or_eq_false_iff, decide_eq_false_iff_not] at he
      omega
    have HX : Hid (byteAt s p.at_ = s[p.at_].toNat) := Lib.hid (byteAt_get hlt)
    obtain ⟨at_, deep, e⟩ := p
    have hb : Blk w P #[.string s, .int .i64 at_, .int .i64 deep, .int .i64 e] := hb
    have q_p := hb.regrown
    simp only at ha hlt HX
    clear he hb0
    go_enter Tryz.func168, Tryz.ntmps168
    go_wp2_with fail
    refine wp_region_quiet_below (by kernel_rfl) (by kernel_rfl) ?_
    repeat (go_big_quiet_step ((go_at_call 155; exact Calls.regrown_of (as_bool HE.out (ends_any (HB0.out.later (below_regrown _ _ _)) hs ha)))))
    refine wpQuiet_nil ?_
    intro w3 hw3
    have hb1 : Below w.heap.size w w3 := by obtain ⟨p, rfl⟩ := hw3; exact below_regrown _ _ _
    clear hw3 q_p
    go_wp2_with fail
    go_ret
    refine ⟨ret_bool ?_, hb1⟩
    unfold isP
    rw [HE.out]
    simp only [Bool.not_false, Bool.true_and]
    rw [HX.out, Bool.eq_iff_iff]
    simp
    try omega

set_option maxRecDepth 100000 in
set_option maxHeartbeats 1000000 in
theorem fails_any {w : World} {P : Nat} {s : ByteArray} {p : PS} {n : Int} (hb : Blk w P (psA s p)) :
    Calls Tryz.prog 156 #[.pointer (some ⟨P, 0, none⟩), .int .i64 n] w fun e w' => e = .returned (.tuple #[]) ∧ Exc P w w' ∧ Blk w' P (psA s (failP p n)) := by
  obtain ⟨at_, deep, e⟩ := p
  have hb : Blk w P #[.string s, .int .i64 at_, .int .i64 deep, .int .i64 e] := hb
  have k_p := hb.cell
  have f_p := hb.free
  have HB := Lib.hid hb
  clear hb
  by_cases he : e = 0
  · subst he
    go_enter Tryz.func156, Tryz.ntmps156
    go_wp2_with fail
    go_end0
    exact ⟨rfl, (Exc.refl P w).set 3 _, HB.out.set_ 3 _⟩
  · have HE := Lib.hid he
    go_enter Tryz.func156, Tryz.ntmps156
    go_wp2_with fail
    go_end0
    refine ⟨rfl, Exc.refl P w, ?_⟩
    unfold failP
    rw [if_neg HE.out]
    exact HB.out

theorem next_le {s : ByteArray} {p : PS} : (nextP s p).2.at_ ≤ p.at_ + 1 := by
  unfold nextP failP PS.step
  split <;> (try split) <;> simp
theorem next_at {s : ByteArray} {p : PS} (h : endsP s p = false) : p.e = 0 ∧ p.at_ < s.size := by
  unfold endsP at h
  simp only [Bool.or_eq_false_iff, decide_eq_false_iff_not, ne_eq, Classical.not_not] at h
  omega

set_option maxRecDepth 100000 in
set_option maxHeartbeats 1000000 in
theorem next_any {w : World} {P : Nat} {s : ByteArray} {p : PS} (hb : Blk w P (psA s p)) (hs : s.size ≤ 1000000) (ha : p.at_ ≤ 1000000) :
    Calls Tryz.prog 174 #[.pointer (some ⟨P, 0, none⟩)] w fun e w' => e = .returned (.int .u8 (nextP s p).1) ∧ Exc P w w' ∧ Blk w' P (psA s (nextP s p).2) := by
  have HB := Lib.hid hb
  have hlt := hb.lt
  clear hb
  rcases Bool.eq_false_or_eq_true (endsP s p) with he | he
  · have HN : Hid (nextP s p = (0, failP p 3)) := Lib.hid (by unfold nextP; rw [if_pos he])
    have HE := Lib.hid he
    clear he
    go_enter Tryz.func174, Tryz.ntmps174
    go_wp2_with fail
    refine (ends_any HB.out hs ha).mono ?_
    rintro x w1 ⟨rfl, hb1⟩
    rw [HE.out]
    have HB1 := Lib.hid (HB.out.later hb1)
    have HX1 := Lib.hid (Exc.of (Nat.le_of_lt hlt) hb1)
    clear hb1
    go_wp2_with fail
    refine (fails_any HB1.out).mono ?_
    rintro x w2 ⟨rfl, hx, hb2⟩
    have HB2 := Lib.hid hb2
    have HX2 := Lib.hid (HX1.out.trans hx)
    clear hx hb2
    go_wp2_with fail
    go_ret
    rw [HN.out]
    exact ⟨rfl, HX2.out, HB2.out⟩
  · have HN : Hid (nextP s p = (byteAt s p.at_, p.step)) := Lib.hid (by unfold nextP; rw [if_neg (by rw [he]; simp)])
    have HE := Lib.hid he
    obtain ⟨h0, h1⟩ := next_at he
    have HG : Hid (byteAt s p.at_ = s[p.at_].toNat) := Lib.hid (byteAt_get h1)
    clear he
    go_enter Tryz.func174, Tryz.ntmps174
    go_wp2_with fail
    refine (ends_any HB.out hs ha).mono ?_
    rintro x w1 ⟨rfl, hb1⟩
    rw [HE.out]
    have hbb : Blk w1 P (psA s p) := HB.out.later hb1
    have HX1 := Lib.hid (Exc.of (Nat.le_of_lt hlt) hb1)
    obtain ⟨at_, deep, e⟩ := p
    have hbb : Blk w1 P #[.string s, .int .i64 at_, .int .i64 deep, .int .i64 e] := hbb
    simp only at ha h0 h1 HG HN
    subst h0
    have hw1 : wrap64 ((at_ : Int) + 1) = (at_ : Int) + 1 := wrap_id (by omega) (by omega)
    have hw2 : wrap64 ((at_ : Int) + 1 - 1) = (at_ : Int) := (congrArg wrap64 (by omega)).trans (wrap_id (n := (at_ : Int)) (by omega) (by omega))
    have k_p := hbb.cell
    have f_p := hbb.free
    have HBB := Lib.hid (show Blk (w1.setCell ⟨P, 1, none⟩ (.int .i64 ((at_ : Int) + 1))) P #[.string s, .int .i64 ((at_ : Int) + 1), .int .i64 deep, .int .i64 0] from hbb.set_ 1 _)
    have HX2 := Lib.hid (HX1.out.set 1 (.int .i64 ((at_ : Int) + 1)))
    clear hb1 hbb
    go_wp2_with fail
    generalize w1.setCell _ _ = w2 at *
    have q_p := HBB.out.regrown
    refine wp_region_quiet_below (by kernel_rfl) (by kernel_rfl) ?_
    repeat (go_big_quiet_step (fail))
    refine wpQuiet_nil ?_
    intro w3 hw3
    have hb3 : Below w2.heap.size w2 w3 := by obtain ⟨p, rfl⟩ := hw3; exact below_regrown _ _ _
    clear hw3 q_p
    have HX3 := Lib.hid (HX2.out.then (Nat.le_of_lt hlt) hb3)
    have HB3 := Lib.hid (HBB.out.later hb3)
    clear hb3 k_p f_p
    go_wp2_with fail
    go_ret
    rw [HN.out]
    refine ⟨?_, HX3.out, ?_⟩
    · rw [HG.out]; rfl
    · have := HB3.out
      unfold psA PS.step
      simpa using this

set_option maxRecDepth 100000 in
set_option maxHeartbeats 1000000 in
theorem member_any {w : World} {P : Nat} {s : ByteArray} {p : PS} (hb : Blk w P (psA s p)) (hs : s.size ≤ 1000000) (ha : p.at_ < 1000000) :
    Calls Tryz.prog 179 #[.pointer (some ⟨P, 0, none⟩)] w fun e w' => e = .returned (.int .u8 (memberP s p).1) ∧ Exc P w w' ∧ Blk w' P (psA s (memberP s p).2) := by
  have HB := Lib.hid hb
  clear hb
  go_enter Tryz.func179, Tryz.ntmps179
  go_wp2_with fail
  refine (next_any HB.out hs (by omega)).mono ?_
  rintro x w1 ⟨rfl, hx, hb1⟩
  have HB1 := Lib.hid hb1
  have HX1 := Lib.hid hx
  have hat := next_le (s := s) (p := p)
  clear hx hb1
  by_cases h92 : (nextP s p).1 = 92
  · have HM : Hid (memberP s p = nextP s (nextP s p).2) := Lib.hid (by unfold memberP; simp only; rw [if_pos h92])
    rw [h92]
    clear h92
    go_wp2_with fail
    refine (next_any HB1.out hs (by omega)).mono ?_
    rintro x w2 ⟨rfl, hx, hb2⟩
    have HB2 := Lib.hid hb2
    have HX2 := Lib.hid (HX1.out.trans hx)
    clear hx hb2
    go_wp2_with fail
    go_ret
    rw [HM.out]
    exact ⟨rfl, HX2.out, HB2.out⟩
  · have HM : Hid (memberP s p = nextP s p) := Lib.hid (by unfold memberP; simp only; rw [if_neg h92])
    have h92' : ¬ ((nextP s p).1 : Int) = 92 := by omega
    clear h92
    go_wp2_with fail
    go_ret
    rw [HM.out]
    exact ⟨rfl, HX1.out, HB1.out⟩

def inA (i : Ins) : Array Value := #[.int .i64 i.kind, .int .u64 i.a, .int .u64 i.b, .int .u64 i.c, .int .u64 i.d, .int .i64 i.x, .int .i64 i.y]
set_option maxRecDepth 100000 in
set_option maxHeartbeats 2000000 in
theorem has_bit {w : World} {G : Nat} {i : Ins} {c : Nat} (hb : Blk w G (inA i)) (hc : c < 256) :
    Calls Tryz.prog 177 #[.pointer (some ⟨G, 0, none⟩), .int .u8 c] w fun e w' => e = .returned (.tuple #[]) ∧ Exc G w w' ∧ Blk w' G (inA (hasI i c)) := by
  obtain ⟨kind, a, b, c0, d, x, y⟩ := i
  have hb : Blk w G #[.int .i64 kind, .int .u64 a, .int .u64 b, .int .u64 c0, .int .u64 d, .int .i64 x, .int .i64 y] := hb
  have k_p := hb.cell
  have f_p := hb.free
  have hj : c / 64 = 0 ∨ c / 64 = 1 ∨ c / 64 = 2 ∨ c / 64 = 3 := by omega
  have hr : (c : Int).tmod 64 = ((c % 64 : Nat) : Int) := rfl
  have hr2 : ((c % 64 : Nat) : Int) < 64 := by omega
  have hr3 : (0 : Int) ≤ ((c % 64 : Nat) : Int) := by omega
  rcases hj with hj | hj | hj | hj
  · have hq : (c : Int).tdiv 64 = ((c / 64 : Nat) : Int) := rfl
    rw [hj] at hq
    go_enter Tryz.func177, Tryz.ntmps177
    go_wp2_with fail
    go_region
    go_wp2_with fail
    go_end0
    refine ⟨rfl, ((Exc.refl G w).set _ _).drew, ?_⟩
    have h9 := (hb.set_ 1 (.int .u64 (bits BinOp.or IntKind.u64 a (IntKind.u64.wrap (2 ^ (c % 64)))))).drew
    have e9 : inA (hasI ⟨kind, a, b, c0, d, x, y⟩ c) = (#[.int .i64 kind, .int .u64 a, .int .u64 b, .int .u64 c0, .int .u64 d, .int .i64 x, .int .i64 y] : Array Value).setIfInBounds 1 (.int .u64 (bits BinOp.or IntKind.u64 a (IntKind.u64.wrap (2 ^ (c % 64))))) := by
      unfold inA hasI Ins.put Ins.word
      rw [hj]
      simp
    rw [e9]
    exact h9
  · have hq : (c : Int).tdiv 64 = ((c / 64 : Nat) : Int) := rfl
    rw [hj] at hq
    go_enter Tryz.func177, Tryz.ntmps177
    go_wp2_with fail
    go_region
    go_wp2_with fail
    go_end0
    refine ⟨rfl, ((Exc.refl G w).set _ _).drew, ?_⟩
    have h9 := (hb.set_ 2 (.int .u64 (bits BinOp.or IntKind.u64 b (IntKind.u64.wrap (2 ^ (c % 64)))))).drew
    have e9 : inA (hasI ⟨kind, a, b, c0, d, x, y⟩ c) = (#[.int .i64 kind, .int .u64 a, .int .u64 b, .int .u64 c0, .int .u64 d, .int .i64 x, .int .i64 y] : Array Value).setIfInBounds 2 (.int .u64 (bits BinOp.or IntKind.u64 b (IntKind.u64.wrap (2 ^ (c % 64))))) := by
      unfold inA hasI Ins.put Ins.word
      rw [hj]
      simp
    rw [e9]
    exact h9
  · have hq : (c : Int).tdiv 64 = ((c / 64 : Nat) : Int) := rfl
    rw [hj] at hq
    go_enter Tryz.func177, Tryz.ntmps177
    go_wp2_with fail
    go_region
    go_wp2_with fail
    go_end0
    refine ⟨rfl, ((Exc.refl G w).set _ _).drew, ?_⟩
    have h9 := (hb.set_ 3 (.int .u64 (bits BinOp.or IntKind.u64 c0 (IntKind.u64.wrap (2 ^ (c % 64)))))).drew
    have e9 : inA (hasI ⟨kind, a, b, c0, d, x, y⟩ c) = (#[.int .i64 kind, .int .u64 a, .int .u64 b, .int .u64 c0, .int .u64 d, .int .i64 x, .int .i64 y] : Array Value).setIfInBounds 3 (.int .u64 (bits BinOp.or IntKind.u64 c0 (IntKind.u64.wrap (2 ^ (c % 64))))) := by
      unfold inA hasI Ins.put Ins.word
      rw [hj]
      simp
    rw [e9]
    exact h9
  · have hq : (c : Int).tdiv 64 = ((c / 64 : Nat) : Int) := rfl
    rw [hj] at hq
    go_enter Tryz.func177, Tryz.ntmps177
    go_wp2_with fail
    go_region
    go_wp2_with fail
    go_end0
    refine ⟨rfl, ((Exc.refl G w).set _ _).drew, ?_⟩
    have h9 := (hb.set_ 4 (.int .u64 (bits BinOp.or IntKind.u64 d (IntKind.u64.wrap (2 ^ (c % 64)))))).drew
    have e9 : inA (hasI ⟨kind, a, b, c0, d, x, y⟩ c) = (#[.int .i64 kind, .int .u64 a, .int .u64 b, .int .u64 c0, .int .u64 d, .int .i64 x, .int .i64 y] : Array Value).setIfInBounds 4 (.int .u64 (bits BinOp.or IntKind.u64 d (IntKind.u64.wrap (2 ^ (c % 64))))) := by
      unfold inA hasI Ins.put Ins.word
      rw [hj]
      simp
    rw [e9]
    exact h9
end Go.Proofs.YtiplipdigabidaaGreat

/- Rows of steps; regex.moved. -/
set_option linter.unusedVariables false
set_option linter.unusedSimpArgs false
namespace Go.Proofs.YtiplipdigabidaaGreat
open Go.ChangeShapes Go.WideShapes Go.ChangeAt Go.RowKit

def insC (i : Ins) : List Value := [.int .i64 i.kind, .int .u64 i.a, .int .u64 i.b, .int .u64 i.c, .int .u64 i.d, .int .i64 i.x, .int .i64 i.y]
def InsR : Reader Ins where
  k := 7
  rd := fun _ _ i vs => vs = insC i
  keep := fun _ _ h => h
  wide := fun _ h => h
  len := fun h => by subst h; rfl
theorem single_in : Single InsR := fun {w B x vs} h u hu => by
  obtain rfl : vs = insC x := h
  simp only [insC, List.mem_cons, List.not_mem_nil, or_false] at hu
  rcases hu with rfl | rfl | rfl | rfl | rfl | rfl | rfl <;> rfl
theorem infoIn : (Tryz.prog.info? 166).map (fun i => (i.zero, i.size, i.bytes)) = some (some (.agg #[.int .i64 0, .int .u64 0, .int .u64 0, .int .u64 0, .int .u64 0, .int .i64 0, .int .i64 0]), 7, 56) := by kernel_rfl

/-- Cells of steps, one behind another. -/
def flatI : List Ins → List Value
  | [] => []
  | i :: l => insC i ++ flatI l
theorem flatI_length : ∀ l : List Ins, (flatI l).length = l.length * 7
  | [] => rfl
  | i :: l => by simp [flatI, flatI_length l, insC]; omega
theorem flatI_get : ∀ (l : List Ins) (k : Nat) (i : Ins) (j : Nat), l[k]? = some i → j < 7 → (flatI l)[k * 7 + j]? = (insC i)[j]?
  | [], k, i, j, h, _ => by simp at h
  | a :: l, 0, i, j, h, hj => by
    simp only [List.getElem?_cons_zero, Option.some.injEq] at h
    subst h
    rw [flatI, List.getElem?_append_left (by simp [insC]; omega)]
    simp
  | a :: l, k + 1, i, j, h, hj => by
    rw [flatI, List.getElem?_append_right (by simp [insC]; omega)]
    have e : (k + 1) * 7 + j - (insC a).length = k * 7 + j := by simp [insC]; omega
    rw [e]
    exact flatI_get l k i j (by simpa using h) hj
theorem flatI_append (a b : List Ins) : flatI (a ++ b) = flatI a ++ flatI b := by
  induction a with
  | nil => rfl
  | cons i a ih => simp [flatI, ih]
theorem flatI_flat (w : World) (B : Nat) : ∀ l : List Ins, Flat InsR w B l (flatI l)
  | [] => Flat.nil
  | i :: l => Flat.append (xs := [i]) (Flat.one (R := InsR) rfl) (flatI_flat w B l)
theorem flatI_put (l : List Ins) (k : Nat) (i : Ins) (hk : k < l.length) :
    (((((((flatI l).set (k * 7) (.int .i64 i.kind)).set (k * 7 + 1) (.int .u64 i.a)).set (k * 7 + 2) (.int .u64 i.b)).set (k * 7 + 3) (.int .u64 i.c)).set (k * 7 + 4) (.int .u64 i.d)).set (k * 7 + 5) (.int .i64 i.x)).set (k * 7 + 6) (.int .i64 i.y) = flatI (l.set k i) := by
  induction l generalizing k with
  | nil => simp at hk
  | cons a l ih =>
    cases k with
    | zero => simp [flatI, insC]
    | succ k =>
      have := ih k (by simpa using hk)
      rw [List.set_cons_succ, flatI, flatI, ← this]
      have e : ∀ (j : Nat) (v : Value) (m : List Value), (insC a ++ m).set ((k + 1) * 7 + j) v = insC a ++ m.set (k * 7 + j) v := by
        intro j v m
        rw [List.set_append_right _ _ (by simp [insC]; omega)]
        congr 2
        simp [insC]; omega
      have e0 := e 0
      simp only [Nat.add_zero] at e0
      rw [e0, e, e, e, e, e, e]
def zeroI : Ins := ⟨0, 0, 0, 0, 0, 0, 0⟩
theorem made_zeros (n : Nat) : madeCells #[.int .i64 0, .int .u64 0, .int .u64 0, .int .u64 0, .int .u64 0, .int .i64 0, .int .i64 0] (n * 7) = (flatI (List.replicate n zeroI)).toArray := by
  apply Array.ext'
  apply List.ext_getElem?
  intro q
  by_cases hq : q < n * 7
  · have h1 : (flatI (List.replicate n zeroI))[q / 7 * 7 + q % 7]? = (insC zeroI)[q % 7]? := flatI_get _ _ _ _ (by rw [List.getElem?_replicate, if_pos (by omega)]) (by omega)
    have e : q / 7 * 7 + q % 7 = q := by omega
    rw [e] at h1
    rw [h1]
    have h2 : q % 7 = 0 ∨ q % 7 = 1 ∨ q % 7 = 2 ∨ q % 7 = 3 ∨ q % 7 = 4 ∨ q % 7 = 5 ∨ q % 7 = 6 := by omega
    have h3 : (madeCells #[.int .i64 0, .int .u64 0, .int .u64 0, .int .u64 0, .int .u64 0, .int .i64 0, .int .i64 0] (n * 7)).toList[q]? = some ((#[.int .i64 0, .int .u64 0, .int .u64 0, .int .u64 0, .int .u64 0, .int .i64 0, .int .i64 0] : Array Value)[q % 7]!) := by
      have hs : q < (madeCells #[.int .i64 0, .int .u64 0, .int .u64 0, .int .u64 0, .int .u64 0, .int .i64 0, .int .i64 0] (n * 7)).toList.length := by rw [Array.length_toList, size_madeCells]; exact hq
      rw [List.getElem?_eq_getElem hs]
      simp [madeCells]
    rw [h3]
    rcases h2 with h | h | h | h | h | h | h <;> (rw [h]; rfl)
  · rw [List.getElem?_eq_none (by rw [Array.length_toList, size_madeCells]; omega), List.getElem?_eq_none (by show (flatI _).length ≤ q; rw [flatI_length]; simp; omega)]

/-- A block known whole, with its cells' type. -/
def BlkT (w : World) (b : Nat) (vs : Array Value) (T : TypeId) : Prop := w.heap[b]? = some (.cells vs T (0, 0))
section
variable {w w' : World} {b c : Nat} {vs : Array Value} {T : TypeId}
theorem BlkT.blk (h : BlkT w b vs T) : Blk w b vs := ⟨T, h⟩
theorem BlkT.keep {B : Nat} (h : BlkT w b vs T) (hb : Below B w w') (hB : b < B) : BlkT w' b vs T := (hb.block b hB).trans h
theorem BlkT.later (h : BlkT w b vs T) (hb : Below w.heap.size w w') : BlkT w' b vs T := h.keep hb h.blk.lt
theorem BlkT.set_ (h : BlkT w b vs T) (i : Nat) (u : Value) : BlkT (w.setCell ⟨b, i, none⟩ u) b (vs.setIfInBounds i u) T := by
  unfold BlkT at h ⊢
  simp [World.setCell, Array.getElem?_modify, h]
theorem BlkT.far (h : BlkT w b vs T) (hne : b ≠ c) (i : Nat) (u : Value) : BlkT (w.setCell ⟨c, i, none⟩ u) b vs T := (Below.heap_setCell w ⟨c, i, none⟩ u b hne).trans h
theorem BlkT.drew (h : BlkT w b vs T) : BlkT w.drew b vs T := h
/-- A slice of one's own from a block that is known whole. -/
theorem BlkT.own {α : Type} {R : Reader α} {base B n : Nat} {xs : List α} {cells : List Value} (h : BlkT w b cells.toArray T) (hf : Flat R w B xs cells) (hb : base ≤ b) (hn : xs.length = n) (hlen : n ≤ maxLen) : OwnR R T w base B (.slice (some ⟨b, 0, none⟩) n n) xs := by
  subst hn
  refine ⟨cells, ⟨hf.1, .inr ⟨b, xs.length, cells.toArray, rfl, hb, h, Nat.le_refl _, hlen, ?_, ?_⟩⟩, hf⟩
  · simp [hf.1]
  · simp
    exact List.take_of_length_le (by rw [hf.1]; exact Nat.le_refl _)
end
/-- What a call hands back that makes a row of steps. -/
def ListE (w w' : World) (l : List Ins) (e : Ending) : Prop := (∃ A c, e = .returned (.slice A l.length c) ∧ OwnR InsR 166 w' w.heap.size 0 (.slice A l.length c) l) ∧ Below w.heap.size w w'
theorem make_ins (n : Nat) (hn : n ≤ 1000000) (w : World) : (Instr.makeSlice 139 (.int .i64 (n : Int)) (.int .i64 (n : Int))).run Tryz.prog w = .ok (.slice (some ⟨w.heap.size, 0, none⟩) n n) (w.alloc (.cells (flatI (List.replicate n zeroI)).toArray 166)) := by
  obtain ⟨i0, hi0, hz0, hz1, hz2⟩ := info_parts infoIn
  have hr := run_make (P := Tryz.prog) w 139 166 i0 _ Tryz.underlying139 hi0 hz0 .i64 .i64 n n (by omega) (Int.le_refl _) (by rw [hz2]; omega) (by omega)
  simp only [Int.toNat_natCast] at hr
  rw [hz1] at hr
  rw [hr, ← made_zeros]
  rfl
theorem put7' {w : World} {g k : Nat} {l : List Ins} {T : TypeId} (h : BlkT w g (flatI l).toArray T) {i : Ins} {kd a b c d x y : Int} (hi : i = ⟨kd, a, b, c, d, x, y⟩) (hk : k < l.length) :
    BlkT (((((((w.setCell ⟨g, k * 7, none⟩ (.int .i64 kd)).setCell ⟨g, k * 7 + 1, none⟩ (.int .u64 a)).setCell ⟨g, k * 7 + 2, none⟩ (.int .u64 b)).setCell ⟨g, k * 7 + 3, none⟩ (.int .u64 c)).setCell ⟨g, k * 7 + 4, none⟩ (.int .u64 d)).setCell ⟨g, k * 7 + 5, none⟩ (.int .i64 x)).setCell ⟨g, k * 7 + 6, none⟩ (.int .i64 y)) g (flatI (l.set k i)).toArray T := by
  have e := flatI_put l k ⟨kd, a, b, c, d, x, y⟩ hk
  simp only at e
  subst hi
  have := ((((((h.set_ (k * 7) (.int .i64 kd)).set_ (k * 7 + 1) (.int .u64 a)).set_ (k * 7 + 2) (.int .u64 b)).set_ (k * 7 + 3) (.int .u64 c)).set_ (k * 7 + 4) (.int .u64 d)).set_ (k * 7 + 5) (.int .i64 x)).set_ (k * 7 + 6) (.int .i64 y)
  simp only [List.setIfInBounds_toArray] at this
  rw [e] at this
  exact this
theorem below7 {w w2 : World} {B g : Nat} (h : Below B w w2) (hg : B ≤ g) {i0 i1 i2 i3 i4 i5 i6 : Nat} (v0 v1 v2 v3 v4 v5 v6 : Value) :
    Below B w (((((((w2.setCell ⟨g, i0, none⟩ v0).setCell ⟨g, i1, none⟩ v1).setCell ⟨g, i2, none⟩ v2).setCell ⟨g, i3, none⟩ v3).setCell ⟨g, i4, none⟩ v4).setCell ⟨g, i5, none⟩ v5).setCell ⟨g, i6, none⟩ v6) :=
  ((((((h.setCell (p := ⟨g, i0, none⟩) hg v0).setCell (p := ⟨g, i1, none⟩) hg v1).setCell (p := ⟨g, i2, none⟩) hg v2).setCell (p := ⟨g, i3, none⟩) hg v3).setCell (p := ⟨g, i4, none⟩) hg v4).setCell (p := ⟨g, i5, none⟩) hg v5).setCell (p := ⟨g, i6, none⟩) hg v6
theorem moved_step {l : List Ins} {k : Nat} {i : Ins} {by_ : Int} (h : l[k]? = some i) : ((movedL (l.take k) by_ ++ List.replicate (l.length - k) zeroI).set k (movedI by_ i)) = movedL (l.take (k + 1)) by_ ++ List.replicate (l.length - (k + 1)) zeroI := by
  obtain ⟨hk, e⟩ := List.getElem?_eq_some_iff.1 h
  have hl : (movedL (l.take k) by_).length = k := by rw [moved_length, List.length_take]; omega
  obtain ⟨m, hm⟩ : ∃ m, l.length - k = m + 1 := ⟨l.length - k - 1, by omega⟩
  have hm2 : l.length - (k + 1) = m := by omega
  rw [hm, hm2, List.set_append_right _ _ (by omega), hl, Nat.sub_self, List.replicate_succ, List.set_cons_zero, List.take_succ_eq_append_getElem hk, e]
  simp [movedL]

set_option maxRecDepth 100000 in
set_option maxHeartbeats 1000000 in
theorem moved_any {B c : Nat} {l : List Ins} {A : Option Addr} {k0 : Int} {w : World} (hl : RL InsR w B l A) (hB : B ≤ w.heap.size) (hn : l.length ≤ 1000000) :
    Calls Tryz.prog 172 #[.slice A l.length c, .int .i64 k0] w fun e w' => ListE w w' (movedL l k0) e := by
  have HL := Lib.hid hl
  have HN := Lib.hid hn
  have hmk := fun w => make_ins l.length hn w
  clear hl
  go_enter Tryz.func172, Tryz.ntmps172
  go_wp2_with fail
  generalize hW : World.alloc _ _ = w1
  obtain ⟨hb, hz⟩ := al1 hW
  have bo := Lib.hid (show BlkT w1 w.heap.size (flatI (List.replicate l.length zeroI)).toArray 166 from hW ▸ heap_alloc_new w _)
  have HB1 := Lib.hid hb
  clear hW hz hb hmk
  go_loopw [13] (fun i wr => ∃ k : Nat, k ≤ l.length ∧ i = .int .i64 k ∧ Hid (Below w.heap.size w wr) ∧ w.heap.size < wr.heap.size ∧ Hid (BlkT wr w.heap.size (flatI (movedL (l.take k) k0 ++ List.replicate (l.length - k) zeroI)).toArray 166)) (fun i _ => l.length - (intOf i).toNat)
  case atStart => exact ⟨0, Nat.zero_le _, rfl, HB1, bo.out.blk.lt, by simpa [movedL] using bo⟩
  case round =>
    obtain ⟨k, hk, rfl, HBW, hsz, HI⟩ := hrel
    by_cases hlt : k < l.length
    · have HLr := Lib.hid (HL.out.keep HBW.out hB)
      have hBr : B ≤ wr.heap.size := by omega
      obtain ⟨b_, off, rfl, hob⟩ := HLr.out.base (Below.refl _ _) hBr (by omega)
      obtain ⟨x, vs, hx, hlen, hcell, hr⟩ := HLr.out.at_ (Below.refl _ _) hBr hlt
      obtain rfl : vs = insC x := hr
      have c0 : wr.cell? ⟨b_, off + k * 7, none⟩ = some (.int .i64 x.kind) := hcell 0 _ rfl
      have c1 : wr.cell? ⟨b_, off + k * 7 + 1, none⟩ = some (.int .u64 x.a) := hcell 1 _ rfl
      have c2 : wr.cell? ⟨b_, off + k * 7 + 2, none⟩ = some (.int .u64 x.b) := hcell 2 _ rfl
      have c3 : wr.cell? ⟨b_, off + k * 7 + 3, none⟩ = some (.int .u64 x.c) := hcell 3 _ rfl
      have c4 : wr.cell? ⟨b_, off + k * 7 + 4, none⟩ = some (.int .u64 x.d) := hcell 4 _ rfl
      have c5 : wr.cell? ⟨b_, off + k * 7 + 5, none⟩ = some (.int .i64 x.x) := hcell 5 _ rfl
      have c6 : wr.cell? ⟨b_, off + k * 7 + 6, none⟩ = some (.int .i64 x.y) := hcell 6 _ rfl
      have HX := Lib.hid hx
      have hG := HI.out.blk.cell
      have fG := HI.out.blk.free
      have hzk : (movedL (l.take k) k0 ++ List.replicate (l.length - k) zeroI)[k]? = some zeroI := by
        have hl : (movedL (l.take k) k0).length = k := by rw [moved_length, List.length_take]; omega
        rw [List.getElem?_append_right (by omega), hl, Nat.sub_self, List.getElem?_replicate, if_pos (by omega)]
      have gz : ∀ j, j < 7 → wr.cell? ⟨w.heap.size, k * 7 + j, none⟩ = (insC zeroI)[j]? := fun j hj => (hG (k * 7 + j)).trans ((List.getElem?_toArray).trans (flatI_get _ k zeroI j hzk hj))
      have g0 : wr.cell? ⟨w.heap.size, k * 7, none⟩ = some (.int .i64 0) := gz 0 (by omega)
      have g1 : wr.cell? ⟨w.heap.size, k * 7 + 1, none⟩ = some (.int .u64 0) := gz 1 (by omega)
      have g2 : wr.cell? ⟨w.heap.size, k * 7 + 2, none⟩ = some (.int .u64 0) := gz 2 (by omega)
      have g3 : wr.cell? ⟨w.heap.size, k * 7 + 3, none⟩ = some (.int .u64 0) := gz 3 (by omega)
      have g4 : wr.cell? ⟨w.heap.size, k * 7 + 4, none⟩ = some (.int .u64 0) := gz 4 (by omega)
      have g5 : wr.cell? ⟨w.heap.size, k * 7 + 5, none⟩ = some (.int .i64 0) := gz 5 (by omega)
      have g6 : wr.cell? ⟨w.heap.size, k * 7 + 6, none⟩ = some (.int .i64 0) := gz 6 (by omega)
      have HS : Hid ((movedL (l.take k) k0 ++ List.replicate (l.length - k) zeroI).set k (movedI k0 x) = movedL (l.take (k + 1)) k0 ++ List.replicate (l.length - (k + 1)) zeroI) := Lib.hid (moved_step HX.out)
      have HLN : Hid (k < (movedL (l.take k) k0 ++ List.replicate (l.length - k) zeroI).length) := Lib.hid (by rw [List.length_append, moved_length, List.length_take, List.length_replicate]; omega)
      clear hG hzk gz
      generalize movedL (l.take k) k0 ++ List.replicate (l.length - k) zeroI = cur at *
      have hkind : x.kind = 2 ∨ x.kind ≠ 2 ∧ x.kind = 3 ∨ x.kind ≠ 2 ∧ x.kind ≠ 3 := by omega
      rcases hkind with h2 | ⟨h2, h3⟩ | ⟨h2, h3⟩
      · have HM : Hid (movedI k0 x = ⟨x.kind, x.a, x.b, x.c, x.d, wrap64 (x.x + k0), wrap64 (x.y + k0)⟩) := Lib.hid (by unfold movedI; rw [if_pos h2])
        have hq2 : (x.kind == 2) = true := by simpa using h2
        clear h2
        go_wp2_with fail
        go_roundw
        case rel =>
          have hp := put7' HI.out HM.out HLN.out
          rw [HS.out] at hp
          exact ⟨k + 1, by omega, by go_num, Lib.hid ((below7 HBW.out (Nat.le_refl _) _ _ _ _ _ _ _).alloc (by simp only [World.size_setCell]; omega) _), by simp only [World.size_setCell, World.size_alloc]; omega, Lib.hid (hp.later ((Below.refl _ _).alloc (Nat.le_refl _) _))⟩
        case measure => simp [intOf]; omega
      · have HM : Hid (movedI k0 x = ⟨x.kind, x.a, x.b, x.c, x.d, wrap64 (x.x + k0), x.y⟩) := Lib.hid (by unfold movedI; rw [if_neg h2, if_pos h3])
        have hq2 : (x.kind == 2) = false := by simpa using h2
        have hq3 : (x.kind == 3) = true := by simpa using h3
        clear h2 h3
        go_wp2_with fail
        go_roundw
        case rel =>
          have hp := put7' HI.out HM.out HLN.out
          rw [HS.out] at hp
          exact ⟨k + 1, by omega, by go_num, Lib.hid ((below7 HBW.out (Nat.le_refl _) _ _ _ _ _ _ _).alloc (by simp only [World.size_setCell]; omega) _), by simp only [World.size_setCell, World.size_alloc]; omega, Lib.hid (hp.later ((Below.refl _ _).alloc (Nat.le_refl _) _))⟩
        case measure => simp [intOf]; omega
      · have HM : Hid (movedI k0 x = x) := Lib.hid (by unfold movedI; rw [if_neg h2, if_neg h3])
        have hq2 : (x.kind == 2) = false := by simpa using h2
        have hq3 : (x.kind == 3) = false := by simpa using h3
        clear h2 h3
        go_wp2_with fail
        go_roundw
        case rel =>
          have hp := put7' HI.out HM.out HLN.out
          rw [HS.out] at hp
          exact ⟨k + 1, by omega, by go_num, Lib.hid ((below7 HBW.out (Nat.le_refl _) _ _ _ _ _ _ _).alloc (by simp only [World.size_setCell]; omega) _), by simp only [World.size_setCell, World.size_alloc]; omega, Lib.hid (hp.later ((Below.refl _ _).alloc (Nat.le_refl _) _))⟩
        case measure => simp [intOf]; omega
    · have HE : Hid (movedL (l.take k) k0 ++ List.replicate (l.length - k) zeroI = movedL l k0) := Lib.hid (by rw [List.take_of_length_le (by omega), show l.length - k = 0 by omega]; simp)
      rw [HE.out] at HI
      go_wp2_with fail
      go_ret
      have ho := HI.out.own (R := InsR) (base := w.heap.size) (B := 0) (flatI_flat wr 0 (movedL l k0)) (Nat.le_refl _) (moved_length l k0) (by unfold maxLen; omega)
      refine ⟨⟨some ⟨w.heap.size, 0, none⟩, l.length, ?_, ?_⟩, HBW.out⟩
      · rw [moved_length]; rfl
      · rw [moved_length]; exact ho
end Go.Proofs.YtiplipdigabidaaGreat

