/- Patterns as programs: what regex.Compile computes, as functions (a mirror of the program's own steps). -/
import Derived.Test.YtiplipdigabidaaGreatSet
import Derived.Test.YtiplipdigabidaaGreatOrd
import Derived.Laws.Bits64b
set_option linter.unusedVariables false
set_option linter.unusedSimpArgs false
namespace Go.Proofs.YtiplipdigabidaaGreat
open Go.ChangeShapes Go.WideShapes Go.ChangeAt Go.RowKit
theorem wrapU (n : Int) : IntKind.u64.wrap n = n % 18446744073709551616 := IntKind.wrap_u64 n
theorem wrapI (n : Int) : wrap64 n = if n % 18446744073709551616 < 9223372036854775808 then n % 18446744073709551616 else n % 18446744073709551616 - 18446744073709551616 := by
 unfold wrap64; omega
theorem ret_u {k : IntKind} {a b : Int} (h : a = b) : Ending.returned (.int k a) = .returned (.int k b) := by rw [h]
theorem ret_ib {k : IntKind} {a b : Int} {x y : Bool} (h : a = b) (h' : x = y) : Ending.returned (.tuple #[.int k a, .bool x]) = .returned (.tuple #[.int k b, .bool y]) := by rw [h, h']
set_option maxHeartbeats 400000 in
theorem magn_any (n : Int) (hn : I64 n) (w : World) :
   Calls Tryz.prog 129 #[.int .i64 n] w fun e w' => e = .returned (.int .u64 (n.natAbs : Int)) ∧ w = w' := by
 obtain ⟨h0, h1⟩ := hn
 rcases Int.lt_or_le n 0 with hlt | hge
 · go_enter Tryz.func129, Tryz.ntmps129
   go_wp2_with fail
   go_ret
   exact ⟨ret_u (by rw [wrapU, wrapU]; omega), rfl⟩
 · go_enter Tryz.func129, Tryz.ntmps129
   go_wp2_with fail
   go_ret
   exact ⟨ret_u (by omega), rfl⟩
def fitsB (n : Int) : Bool := decide (-9223372036854775808 ≤ n) && decide (n ≤ 9223372036854775807)
theorem fitsB_iff (n : Int) : fitsB n = true ↔ I64 n := by simp [fitsB, I64]
theorem fitsB_not (n : Int) : fitsB n = false ↔ ¬ I64 n := by rw [← fitsB_iff]; simp
theorem mag_mul (a b : Int) : 0 ≤ (a.natAbs : Int) * (b.natAbs : Int) := Int.mul_nonneg (by omega) (by omega)
theorem sgn_diff {a b : Int} (h : (!decide (a < 0) == decide (b < 0)) = true) : a * b = -((a.natAbs : Int) * (b.natAbs : Int)) := by
 have h : ¬ (a < 0 ↔ b < 0) := by simpa using h
 by_cases h1 : a < 0
 · have e1 : (a.natAbs : Int) = -a := by omega
   have e2 : (b.natAbs : Int) = b := by omega
   rw [e1, e2, Int.neg_mul, Int.neg_neg]
 · have e1 : (a.natAbs : Int) = a := by omega
   have e2 : (b.natAbs : Int) = -b := by omega
   rw [e1, e2, Int.mul_neg, Int.neg_neg]
theorem sgn_same {a b : Int} (h : (!decide (a < 0) == decide (b < 0)) = false) : a * b = (a.natAbs : Int) * (b.natAbs : Int) := by
 have h : (a < 0 ↔ b < 0) := by simpa using h
 by_cases h1 : a < 0
 · have e1 : (a.natAbs : Int) = -a := by omega
   have e2 : (b.natAbs : Int) = -b := by omega
   rw [e1, e2, Int.neg_mul, Int.mul_neg, Int.neg_neg]
 · have e1 : (a.natAbs : Int) = a := by omega
   have e2 : (b.natAbs : Int) = b := by omega
   rw [e1, e2]
theorem fits_diff {a b P : Int} (h : a * b = -P) (hP : 0 ≤ P) (h0 : P / 18446744073709551616 = 0) : decide (P % 18446744073709551616 ≤ 9223372036854775808) = fitsB (a * b) ∧ (fitsB (a * b) = true → wrap64 (IntKind.u64.wrap (-(P % 18446744073709551616))) = a * b) := by
 rw [h]
 refine ⟨?_, fun hf => ?_⟩
 · rw [Bool.eq_iff_iff, fitsB_iff, decide_eq_true_eq]; unfold I64; omega
 · rw [fitsB_iff] at hf; unfold I64 at hf; rw [wrapU, wrapI]; split <;> omega
theorem fits_same {a b P : Int} (h : a * b = P) (hP : 0 ≤ P) (h0 : P / 18446744073709551616 = 0) : decide (P % 18446744073709551616 < 9223372036854775808) = fitsB (a * b) ∧ (fitsB (a * b) = true → wrap64 (P % 18446744073709551616) = a * b) := by
 rw [h]
 refine ⟨?_, fun hf => ?_⟩
 · rw [Bool.eq_iff_iff, fitsB_iff, decide_eq_true_eq]; unfold I64; omega
 · rw [fitsB_iff] at hf; unfold I64 at hf; rw [wrapI]; split <;> omega
theorem fits_not {a b P : Int} (h : a * b = -P ∨ a * b = P) (hP : 0 ≤ P) (h0 : ¬ P / 18446744073709551616 = 0) : false = fitsB (a * b) := by
 rw [eq_comm, fitsB_not]; unfold I64
 rcases h with h | h <;> rw [h] <;> omega
theorem mag_lt {a : Int} (h : I64 a) : a.natAbs < 18446744073709551616 := by unfold I64 at h; omega
set_option maxHeartbeats 1000000 in
theorem product_any (a b : Int) (ha : I64 a) (hb : I64 b) (w : World) :
   Calls Tryz.prog 114 #[.int .i64 a, .int .i64 b] w fun e w' => (∃ m : Int, e = .returned (.tuple #[.int .i64 m, .bool (fitsB (a * b))]) ∧ (fitsB (a * b) = true → m = a * b)) ∧ w = w' := by
 have HP := Lib.hid (mag_mul a b)
 generalize hf : fitsB (a * b) = F
 have HF := Lib.hid hf
 clear hf
 go_enter Tryz.func114, Tryz.ntmps114
 go_wp2_with (first
   | (go_at_call 129; refine (magn_any _ (by assumption) _).mono ?_; rintro e w' ⟨rfl, rfl⟩)
   | (go_at_call 130; refine (Tryz.bits_Mul64 a.natAbs b.natAbs (mag_lt ha) (mag_lt hb) _).mono ?_; rintro e w' ⟨rfl, rfl⟩))
 · have h := fits_diff (sgn_diff ‹_›) HP.out ‹_›
   go_ret2
   rw [HF.out] at h
   exact ⟨⟨_, ret_ib rfl h.1, h.2⟩, rfl⟩
 · have h := fits_not (.inl (sgn_diff ‹_›)) HP.out ‹_›
   go_ret2
   rw [HF.out] at h
   exact ⟨⟨_, ret_ib rfl h, fun hh => absurd (h.trans hh) (by simp)⟩, rfl⟩
 · have h := fits_same (sgn_same ‹_›) HP.out ‹_›
   go_ret2
   rw [HF.out] at h
   exact ⟨⟨_, ret_ib rfl h.1, h.2⟩, rfl⟩
 · have h := fits_not (.inr (sgn_same ‹_›)) HP.out ‹_›
   go_ret2
   rw [HF.out] at h
   exact ⟨⟨_, ret_ib rfl h, fun hh => absurd (h.trans hh) (by simp)⟩, rfl⟩
def recV (code a b : Int) : Int := if code = 7 then a + b else if code = 8 then a - b else if code = 9 then a * b else a.tdiv b
def recE (code a b : Int) : Int := if code = 10 ∧ b = 0 then 6 else if fitsB (recV code a b) then 0 else 5
def recR (code a b : Int) : Int × Int × Int := if recE code a b = 0 then (2, recV code a b, 0) else (0, 0, recE code a b)
theorem rec_bad {code a b k n e e' : Int} (h : recE code a b = e') (he : e' ≠ 0) (hr : recR code a b = (k, n, e)) :
   Ending.returned (.tuple #[.agg #[.int .i64 0, .int .i64 0, .string ⟨#[]⟩, .slice none 0 0], .int .i64 e']) = .returned (.tuple #[.agg #[.int .i64 k, .int .i64 n, .string ⟨#[]⟩, .slice none 0 0], .int .i64 e]) := by
 subst h
 unfold recR at hr
 rw [if_neg he] at hr
 simp only [Prod.mk.injEq] at hr
 obtain ⟨rfl, rfl, rfl⟩ := hr
 rfl
theorem rec_good {code a b k n e v : Int} (h : recE code a b = 0) (hv : v = recV code a b) (hr : recR code a b = (k, n, e)) :
   Ending.returned (.tuple #[.agg #[.int .i64 2, .int .i64 v, .string ⟨#[]⟩, .slice none 0 0], .int .i64 0]) = .returned (.tuple #[.agg #[.int .i64 k, .int .i64 n, .string ⟨#[]⟩, .slice none 0 0], .int .i64 e]) := by
 subst hv
 unfold recR at hr
 rw [if_pos h] at hr
 simp only [Prod.mk.injEq] at hr
 obtain ⟨rfl, rfl, rfl⟩ := hr
 rfl
theorem add_over {a b : Int} (ha : I64 a) (hb : I64 b) (h : (!decide (a < wrap64 (a + b)) == decide (0 < b)) = true) : recE 7 a b = 5 := by
 have h : ¬ (a < wrap64 (a + b) ↔ 0 < b) := by simpa using h
 have hf : fitsB (a + b) = false := by
   rw [fitsB_not]; unfold I64 at *; rw [wrapI] at h; split at h <;> omega
 show (if (7 : Int) = 10 ∧ b = 0 then 6 else if fitsB (a + b) = true then 0 else 5) = (5 : Int)
 rw [if_neg (by omega), hf]; rfl
theorem add_fits {a b : Int} (ha : I64 a) (hb : I64 b) (h : (!decide (a < wrap64 (a + b)) == decide (0 < b)) = false) : recE 7 a b = 0 ∧ wrap64 (a + b) = recV 7 a b := by
 have h : (a < wrap64 (a + b) ↔ 0 < b) := by simpa using h
 have hf : I64 (a + b) := by
   unfold I64 at *; rw [wrapI] at h; split at h <;> omega
 constructor
 · show (if (7 : Int) = 10 ∧ b = 0 then 6 else if fitsB (a + b) = true then 0 else 5) = (0 : Int)
   rw [if_neg (by omega), (fitsB_iff _).2 hf]; rfl
 · show wrap64 (a + b) = a + b
   unfold I64 at hf; rw [wrapI]; split <;> omega
theorem sub_over {a b : Int} (ha : I64 a) (hb : I64 b) (h : (!decide (wrap64 (a - b) < a) == decide (0 < b)) = true) : recE 8 a b = 5 := by
 have h : ¬ (wrap64 (a - b) < a ↔ 0 < b) := by simpa using h
 have hf : fitsB (a - b) = false := by
   rw [fitsB_not]; unfold I64 at *; rw [wrapI] at h; split at h <;> omega
 show (if (8 : Int) = 10 ∧ b = 0 then 6 else if fitsB (a - b) = true then 0 else 5) = (5 : Int)
 rw [if_neg (by omega), hf]; rfl
theorem sub_fits {a b : Int} (ha : I64 a) (hb : I64 b) (h : (!decide (wrap64 (a - b) < a) == decide (0 < b)) = false) : recE 8 a b = 0 ∧ wrap64 (a - b) = recV 8 a b := by
 have h : (wrap64 (a - b) < a ↔ 0 < b) := by simpa using h
 have hf : I64 (a - b) := by
   unfold I64 at *; rw [wrapI] at h; split at h <;> omega
 constructor
 · show (if (8 : Int) = 10 ∧ b = 0 then 6 else if fitsB (a - b) = true then 0 else 5) = (0 : Int)
   rw [if_neg (by omega), (fitsB_iff _).2 hf]; rfl
 · show wrap64 (a - b) = a - b
   unfold I64 at hf; rw [wrapI]; split <;> omega
theorem mul_over {a b : Int} (h : fitsB (a * b) = false) : recE 9 a b = 5 := by
 show (if (9 : Int) = 10 ∧ b = 0 then 6 else if fitsB (a * b) = true then 0 else 5) = (5 : Int)
 rw [if_neg (by omega), h]; rfl
theorem mul_fits {a b : Int} (h : fitsB (a * b) = true) : recE 9 a b = 0 := by
 show (if (9 : Int) = 10 ∧ b = 0 then 6 else if fitsB (a * b) = true then 0 else 5) = (0 : Int)
 rw [if_neg (by omega), h]; rfl
theorem zeroB (w : World) : Blk (w.alloc (.cells #[.int .i64 0, .int .i64 0, .string ⟨#[]⟩, .slice none 0 0] 33)) w.heap.size #[.int .i64 0, .int .i64 0, .string ⟨#[]⟩, .slice none 0 0] := n11 rfl
theorem div_bounds {a b : Int} (ha : I64 a) (h0 : ¬ b = 0) (h1 : ¬ b = -1) : I64 (a.tdiv b) := by
 by_cases hb : b = 1
 · subst hb; rw [Int.tdiv_one]; exact ha
 · have e := Int.natAbs_tdiv a b
   have l : a.natAbs / b.natAbs ≤ a.natAbs / 2 := Nat.div_le_div_left (by omega) (by omega)
   unfold I64 at *
   have e2 : (a.tdiv b).natAbs = a.natAbs / b.natAbs := e
   omega
theorem div_m1_over {a b : Int} (h1 : b = -1) (h : (!a != -9223372036854775808) = true) : recE 10 a b = 5 := by
 subst h1
 have h : a = -9223372036854775808 := by simpa using h
 subst h
 decide
theorem div_m1 {a b : Int} (ha : I64 a) (h1 : b = -1) (h : (!a != -9223372036854775808) = false) : recE 10 a b = 0 ∧ wrap64 (-a) = recV 10 a b := by
 subst h1
 have h : ¬ a = -9223372036854775808 := by simpa using h
 have e : recV 10 a (-1) = -a := by show a.tdiv (-1) = -a; rw [Int.tdiv_neg, Int.tdiv_one]
 unfold I64 at ha
 refine ⟨?_, ?_⟩
 · unfold recE; rw [if_neg (by omega), e, (fitsB_iff _).2 (by unfold I64; omega)]; rfl
 · rw [e, wrapI]; split <;> omega
theorem div_ok {a b : Int} (ha : I64 a) (h0 : ¬ b = 0) (h1 : ¬ b = -1) : recE 10 a b = 0 ∧ wrap64 (a.tdiv b) = recV 10 a b := by
 have h := div_bounds ha h0 h1
 refine ⟨?_, ?_⟩
 · unfold recE; rw [if_neg (by omega)]
   show (if fitsB (a.tdiv b) = true then 0 else 5) = (0 : Int)
   rw [(fitsB_iff _).2 h]; rfl
 · show wrap64 (a.tdiv b) = a.tdiv b
   unfold I64 at h; rw [wrapI]; split <;> omega
theorem put4 {w w2 : World} {g : Nat} {a0 a1 a2 a3 v0 v1 v2 v3 : Value} (h : Blk w2 g #[a0, a1, a2, a3]) (hb : Below w.heap.size w w2) (hg : w.heap.size ≤ g) :
   Blk ((((w2.setCell ⟨g, 0, none⟩ v0).setCell ⟨g, 1, none⟩ v1).setCell ⟨g, 2, none⟩ v2).setCell ⟨g, 3, none⟩ v3) g #[v0, v1, v2, v3] ∧
   Below w.heap.size w ((((w2.setCell ⟨g, 0, none⟩ v0).setCell ⟨g, 1, none⟩ v1).setCell ⟨g, 2, none⟩ v2).setCell ⟨g, 3, none⟩ v3) :=
 ⟨(((h.set_ 0 v0).set_ 1 v1).set_ 2 v2).set_ 3 v3, (((hb.setCell (p := ⟨g, 0, none⟩) hg v0).setCell (p := ⟨g, 1, none⟩) hg v1).setCell (p := ⟨g, 2, none⟩) hg v2).setCell (p := ⟨g, 3, none⟩) hg v3⟩
set_option maxHeartbeats 1000000 in
theorem reckon_any (code a b k n e : Int) (hc : code = 7 ∨ code = 8 ∨ code = 9 ∨ code = 10) (ha : I64 a) (hb : I64 b) (hr : recR code a b = (k, n, e)) (w : World) :
   Calls Tryz.prog 85 #[.int .i64 code, .int .i64 a, .int .i64 b] w fun x w' => x = .returned (.tuple #[.agg #[.int .i64 k, .int .i64 n, .string ⟨#[]⟩, .slice none 0 0], .int .i64 e]) ∧ Below w.heap.size w w' := by
 have HR := Lib.hid hr
 clear hr
 rcases hc with rfl | rfl | rfl | rfl
 · go_enter Tryz.func85, Tryz.ntmps85
   go_wp2_with fail
   · have h := add_over ha hb ‹_›
     refine bodyPost_ret (ret_tm2 rfl rfl (zeroB w) rfl) rfl ?_
     exact ⟨rec_bad h (by omega) HR.out, (Below.refl _ _).alloc (Nat.le_refl _) _⟩
   · have h := add_fits ha hb ‹_›
     have HH := Lib.hid h.1
     have HB := Lib.hid ((Below.refl w.heap.size w).alloc (Nat.le_refl _) (.cells #[.int .i64 0, .int .i64 0, .string ⟨#[]⟩, .slice none 0 0] 33))
     have hz := zeroB w
     rw [h.2]
     generalize hW : World.alloc _ _ = w1 at *
     refine (number_any _ _).mono ?_
     rintro x w2 ⟨rfl, hb2⟩
     have b_z := hz.later hb2
     have HB2 := Lib.hid (bthen HB.out hb2)
     have k_z := b_z.cell
     have f_z := b_z.free
     have l_z := b_z.lt
     clear hz h hb2
     go_wp2_with fail
     refine bodyPost_ret (ret_tm2 rfl rfl (put4 b_z HB2.out (Nat.le_refl _)).1 rfl) rfl ?_
     exact ⟨rec_good HH.out rfl HR.out, (put4 b_z HB2.out (Nat.le_refl _)).2⟩
 · go_enter Tryz.func85, Tryz.ntmps85
   go_wp2_with fail
   · have h := sub_over ha hb ‹_›
     refine bodyPost_ret (ret_tm2 rfl rfl (zeroB w) rfl) rfl ?_
     exact ⟨rec_bad h (by omega) HR.out, (Below.refl _ _).alloc (Nat.le_refl _) _⟩
   · have h := sub_fits ha hb ‹_›
     have HH := Lib.hid h.1
     have HB := Lib.hid ((Below.refl w.heap.size w).alloc (Nat.le_refl _) (.cells #[.int .i64 0, .int .i64 0, .string ⟨#[]⟩, .slice none 0 0] 33))
     have hz := zeroB w
     rw [h.2]
     generalize hW : World.alloc _ _ = w1 at *
     refine (number_any _ _).mono ?_
     rintro x w2 ⟨rfl, hb2⟩
     have b_z := hz.later hb2
     have HB2 := Lib.hid (bthen HB.out hb2)
     have k_z := b_z.cell
     have f_z := b_z.free
     have l_z := b_z.lt
     clear hz h hb2
     go_wp2_with fail
     refine bodyPost_ret (ret_tm2 rfl rfl (put4 b_z HB2.out (Nat.le_refl _)).1 rfl) rfl ?_
     exact ⟨rec_good HH.out rfl HR.out, (put4 b_z HB2.out (Nat.le_refl _)).2⟩
 · cases hf : fitsB (a * b)
   · have HF := Lib.hid hf
     go_enter Tryz.func85, Tryz.ntmps85
     go_wp2_with fail
     refine (product_any a b ha hb _).mono ?_
     rintro x w1_ ⟨⟨m, rfl, hm⟩, rfl⟩
     rw [hf]
     clear hf hm
     go_wp2_with fail
     · have h := mul_over HF.out
       refine bodyPost_ret (ret_tm2 rfl rfl (zeroB w) rfl) rfl ?_
       exact ⟨rec_bad h (by omega) HR.out, (Below.refl _ _).alloc (Nat.le_refl _) _⟩
   · have HF := Lib.hid hf
     go_enter Tryz.func85, Tryz.ntmps85
     go_wp2_with fail
     refine (product_any a b ha hb _).mono ?_
     rintro x w1_ ⟨⟨m, rfl, hm⟩, rfl⟩
     rw [hf]
     rw [hf] at hm
     obtain rfl := hm rfl
     clear hf
     go_wp2_with fail
     · have h := (show recE 9 a b = 0 ∧ a * b = recV 9 a b from ⟨mul_fits HF.out, rfl⟩)
       have HH := Lib.hid h.1
       have HB := Lib.hid ((Below.refl w.heap.size w).alloc (Nat.le_refl _) (.cells #[.int .i64 0, .int .i64 0, .string ⟨#[]⟩, .slice none 0 0] 33))
       have hz := zeroB w
       rw [h.2]
       generalize hW : World.alloc _ _ = w1 at *
       refine (number_any _ _).mono ?_
       rintro x w2 ⟨rfl, hb2⟩
       have b_z := hz.later hb2
       have HB2 := Lib.hid (bthen HB.out hb2)
       have k_z := b_z.cell
       have f_z := b_z.free
       have l_z := b_z.lt
       clear hz h hb2
       go_wp2_with fail
       refine bodyPost_ret (ret_tm2 rfl rfl (put4 b_z HB2.out (Nat.le_refl _)).1 rfl) rfl ?_
       exact ⟨rec_good HH.out rfl HR.out, (put4 b_z HB2.out (Nat.le_refl _)).2⟩
 · rcases Decidable.em (b = 0) with hb0 | hb0
   · subst hb0
     go_enter Tryz.func85, Tryz.ntmps85
     go_wp2_with fail
     have h : recE 10 a 0 = 6 := rfl
     refine bodyPost_ret (ret_tm2 rfl rfl (zeroB w) rfl) rfl ?_
     exact ⟨rec_bad h (by omega) HR.out, (Below.refl _ _).alloc (Nat.le_refl _) _⟩
   · go_enter Tryz.func85, Tryz.ntmps85
     go_wp2_with fail
     · have h := div_m1_over ‹_› ‹_›
       refine bodyPost_ret (ret_tm2 rfl rfl (zeroB w) rfl) rfl ?_
       exact ⟨rec_bad h (by omega) HR.out, (Below.refl _ _).alloc (Nat.le_refl _) _⟩
     · have hm1 : b = -1 := ‹_›
       subst hm1
       have h := div_m1 ha rfl ‹_›
       have HH := Lib.hid h.1
       have HB := Lib.hid ((Below.refl w.heap.size w).alloc (Nat.le_refl _) (.cells #[.int .i64 0, .int .i64 0, .string ⟨#[]⟩, .slice none 0 0] 33))
       have hz := zeroB w
       rw [h.2]
       generalize hW : World.alloc _ _ = w1 at *
       refine (number_any _ _).mono ?_
       rintro x w2 ⟨rfl, hb2⟩
       have b_z := hz.later hb2
       have HB2 := Lib.hid (bthen HB.out hb2)
       have k_z := b_z.cell
       have f_z := b_z.free
       have l_z := b_z.lt
       clear hz h hb2
       go_wp2_with fail
       refine bodyPost_ret (ret_tm2 rfl rfl (put4 b_z HB2.out (Nat.le_refl _)).1 rfl) rfl ?_
       exact ⟨rec_good HH.out rfl HR.out, (put4 b_z HB2.out (Nat.le_refl _)).2⟩
     · have h := div_ok ha hb0 ‹_›
       have HH := Lib.hid h.1
       have HB := Lib.hid ((Below.refl w.heap.size w).alloc (Nat.le_refl _) (.cells #[.int .i64 0, .int .i64 0, .string ⟨#[]⟩, .slice none 0 0] 33))
       have hz := zeroB w
       rw [h.2]
       generalize hW : World.alloc _ _ = w1 at *
       refine (number_any _ _).mono ?_
       rintro x w2 ⟨rfl, hb2⟩
       have b_z := hz.later hb2
       have HB2 := Lib.hid (bthen HB.out hb2)
       have k_z := b_z.cell
       have f_z := b_z.free
       have l_z := b_z.lt
       clear hz h hb2
       go_wp2_with fail
       refine bodyPost_ret (ret_tm2 rfl rfl (put4 b_z HB2.out (Nat.le_refl _)).1 rfl) rfl ?_
       exact ⟨rec_good HH.out rfl HR.out, (put4 b_z HB2.out (Nat.le_refl _)).2⟩
open Go.ChangeShapes Go.WideShapes Go.ChangeAt Go.RowKit
structure Ins where
 kind : Int
 a : Int
 b : Int
 c : Int
 d : Int
 x : Int
 y : Int
def Ins.word (i : Ins) (j : Nat) : Int := if j = 0 then i.a else if j = 1 then i.b else if j = 2 then i.c else i.d
def Ins.put (i : Ins) (j : Nat) (v : Int) : Ins := if j = 0 then { i with a := v } else if j = 1 then { i with b := v } else if j = 2 then { i with c := v } else { i with d := v }
def hasI (i : Ins) (c : Nat) : Ins := i.put (c / 64) (bits .or .u64 (i.word (c / 64)) (IntKind.u64.wrap (1 * 2 ^ (c % 64))))
def charI : Ins := ⟨1, 0, 0, 0, 0, 0, 0⟩
def allOnes : Int := 18446744073709551615
def anyI : Ins := ⟨1, allOnes, allOnes, allOnes, allOnes, 0, 0⟩
def movedI (k : Int) (i : Ins) : Ins := if i.kind = 2 then { i with x := wrap64 (i.x + k), y := wrap64 (i.y + k) } else if i.kind = 3 then { i with x := wrap64 (i.x + k) } else i
def splitI (x y : Int) : Ins := ⟨2, 0, 0, 0, 0, x, y⟩
def jumpI (x : Int) : Ins := ⟨3, 0, 0, 0, 0, x, 0⟩
def doneI : Ins := ⟨6, 0, 0, 0, 0, 0, 0⟩
def movedL (l : List Ins) (k : Int) : List Ins := l.map (movedI k)
def eitherL (a b : List Ins) : List Ins := [splitI 1 (a.length + 2)] ++ movedL a 1 ++ [jumpI (a.length + 2 + b.length)] ++ movedL b (a.length + 2)
structure PS where
 at_ : Nat
 deep : Nat
 e : Int
def byteAt (s : ByteArray) (k : Nat) : Nat := ((bs s)[k]?.map UInt8.toNat).getD 0
def endsP (s : ByteArray) (p : PS) : Bool := decide (p.e ≠ 0) || decide (s.size ≤ p.at_)
def isP (s : ByteArray) (p : PS) (c : Nat) : Bool := !endsP s p && decide (byteAt s p.at_ = c)
def failP (p : PS) (e : Int) : PS := if p.e = 0 then { p with e := e } else p
def PS.step (p : PS) : PS := { p with at_ := p.at_ + 1 }
def nextP (s : ByteArray) (p : PS) : Nat × PS := if endsP s p then (0, failP p 3) else (byteAt s p.at_, p.step)
def memberP (s : ByteArray) (p : PS) : Nat × PS :=
 let r := nextP s p
 if r.1 = 92 then nextP s r.2 else r
def rangeI (i : Ins) (f t : Nat) : Ins := (List.range (t + 1 - f)).foldl (fun i k => hasI i (f + k)) i
def spanP (s : ByteArray) (p : PS) : (Nat × Nat) × PS :=
 let r := memberP s p
 if isP s r.2 45 && (decide (r.2.at_ + 1 < s.size) && decide (byteAt s (r.2.at_ + 1) ≠ 93)) then
   let q := memberP s r.2.step
   ((r.1, q.1), q.2)
 else ((r.1, r.1), r.2)
def classL (s : ByteArray) : Nat → PS → Ins → Ins × PS
 | 0, p, i => (i, p)
 | n + 1, p, i =>
   if !endsP s p && !isP s p 93 then
     let r := spanP s p
     classL s n (if r.1.2 < r.1.1 then failP r.2 3 else r.2) (rangeI i r.1.1 r.1.2)
   else (i, p)
def compW (v : Int) : Int := bits .xor .u64 (if IntKind.u64.signed = true then -1 else IntKind.u64.max) v
def complI (i : Ins) : Ins := ⟨i.kind, compW i.a, compW i.b, compW i.c, compW i.d, i.x, i.y⟩
def classP (s : ByteArray) (p : PS) : Ins × PS :=
 let not_ := isP s p 94
 let p1 := if not_ then p.step else p
 let p2 := if isP s p1 93 then failP p1 3 else p1
 let r := classL s (s.size + 1 - p2.at_) p2 charI
 let q := nextP s r.2
 (if not_ then complI r.1 else r.1, q.2)
def barred (c : Nat) : Bool := decide (c = 41) || decide (c = 42) || decide (c = 43) || decide (c = 63) || decide (c = 124)
mutual
def patR (s : ByteArray) : Nat → PS → List Ins × PS
 | 0, p => ([], p)
 | n + 1, p =>
   let r := rowR s n p []
   if isP s r.2 124 then
     let q := patR s n r.2.step
     (eitherL r.1 q.1, q.2)
   else r
def rowR (s : ByteArray) : Nat → PS → List Ins → List Ins × PS
 | 0, p, out => (out, p)
 | n + 1, p, out =>
   if !endsP s p && (!isP s p 124 && !isP s p 41) then
     let r := pieceR s n p
     rowR s n r.2 (out ++ movedL r.1 out.length)
   else (out, p)
def pieceR (s : ByteArray) : Nat → PS → List Ins × PS
 | 0, p => ([], p)
 | n + 1, p =>
   let r := atomR s n p
   if isP s r.2 42 then ([splitI 1 (r.1.length + 2)] ++ movedL r.1 1 ++ [jumpI 0], r.2.step)
   else if isP s r.2 43 then (r.1 ++ [splitI 0 (r.1.length + 1)], r.2.step)
   else if isP s r.2 63 then ([splitI 1 (r.1.length + 1)] ++ movedL r.1 1, r.2.step)
   else r
def atomR (s : ByteArray) : Nat → PS → List Ins × PS
 | 0, p => ([], p)
 | n + 1, p =>
   let r := nextP s p
   if r.1 = 40 ∧ r.2.e = 0 then
     if r.2.deep = 20 then ([], failP r.2 4)
     else
       let q := patR s n ⟨r.2.at_, r.2.deep + 1, r.2.e⟩
       let z := nextP s q.2
       let f := if z.1 ≠ 41 then failP z.2 3 else z.2
       (q.1, ⟨f.at_, f.deep - 1, f.e⟩)
   else if r.1 = 91 then
     let q := classP s r.2
     ([q.1], q.2)
   else if r.1 = 46 then ([anyI], r.2)
   else if r.1 = 94 then ([⟨4, 0, 0, 0, 0, 0, 0⟩], r.2)
   else if r.1 = 36 then ([⟨5, 0, 0, 0, 0, 0, 0⟩], r.2)
   else if r.1 = 92 then
     let q := nextP s r.2
     ([hasI charI q.1], q.2)
   else if barred r.1 then ([charI], failP r.2 3)
   else ([hasI charI r.1], r.2)
end
def fuelOf (rem : Nat) : Nat := 4 * rem + 4
def finP (s : ByteArray) (p : PS) : PS := if endsP s p then p else failP p 3
def compR (s : ByteArray) : List Ins × Int :=
 if 256 < s.size then ([], 4)
 else
   let r := patR s (fuelOf s.size) ⟨0, 0, 0⟩
   if (finP s r.2).e = 0 then (r.1 ++ [doneI], 0) else ([], (finP s r.2).e)
end Go.Proofs.YtiplipdigabidaaGreat
