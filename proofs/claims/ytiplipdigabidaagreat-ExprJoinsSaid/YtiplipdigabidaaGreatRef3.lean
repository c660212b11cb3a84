/- The document's own answers on terms (viaticumref6): May, maySet, Fixed, Same, as the program's. -/
import Derived.Test.YtiplipdigabidaaGreatRb1
import Derived.Test.YtiplipdigabidaaGreatRefHas
set_option linter.unusedVariables false
set_option linter.unusedSimpArgs false
namespace Go.Proofs.YtiplipdigabidaaGreat
open Go.ChangeShapes Go.WideShapes Go.ChangeAt Go.RowKit
def intsV (code a b : Int) : Int × Int :=
 if code = 17 then (bits .and .i64 a b, 0) else if code = 18 then (bits .or .i64 a b, 0) else if code = 19 then (bits .xor .i64 a b, 0) else ((recR code a b).2.1, (recR code a b).2.2)
theorem ints_ok {code a b : Int} (h17 : code < 17) (hc : ¬ (code = 10 ∧ b = 0)) (h : I64 (recV code a b)) : intsV code a b = (recV code a b, 0) := by
 have he : recE code a b = 0 := by unfold recE; rw [if_neg hc, (fitsB_iff _).2 h]; rfl
 unfold intsV
 rw [if_neg (by omega), if_neg (by omega), if_neg (by omega)]
 unfold recR
 rw [if_pos he]
theorem ints_no {code a b : Int} (h17 : code < 17) (hc : ¬ (code = 10 ∧ b = 0)) (h : ¬ I64 (recV code a b)) : intsV code a b = (0, 5) := by
 have he : recE code a b = 5 := by unfold recE; rw [if_neg hc, (fitsB_not _).2 h]; rfl
 unfold intsV
 rw [if_neg (by omega), if_neg (by omega), if_neg (by omega)]
 unfold recR
 rw [he, if_neg (by omega)]
theorem ret_ii {a b c d : Int} (h : a = c) (h2 : b = d) : Ending.returned (.tuple #[.int .i64 a, .int .i64 b]) = .returned (.tuple #[.int .i64 c, .int .i64 d]) := by rw [h, h2]
theorem i64_wrap {n : Int} (h : I64 n) : wrap64 n = n := by unfold I64 at h; unfold wrap64; omega
theorem wrap_i64' (n : Int) : I64 (wrap64 n) := by unfold I64 wrap64; omega
theorem mulq_over {a b : Int} (hb : I64 b) (h0 : ¬ b = 0) (h1 : ¬ b = -1) (hf : ¬ I64 (a * b)) : ¬ wrap64 ((wrap64 (a * b)).tdiv b) = a := by
 intro h
 have hc := wrap_i64' (a * b)
 rw [i64_wrap (div_bounds hc h0 h1)] at h
 have e := Int.tdiv_mul_add_tmod (wrap64 (a * b)) b
 have hn : ((wrap64 (a * b)).tmod b).natAbs = (wrap64 (a * b)).natAbs % b.natAbs := Int.natAbs_tmod _ b
 have hlt := Nat.mod_lt (wrap64 (a * b)).natAbs (show b.natAbs > 0 by omega)
 rw [h] at e
 have hw : wrap64 (a * b) = (a * b + 9223372036854775808) % 18446744073709551616 - 9223372036854775808 := by unfold wrap64; rfl
 generalize (wrap64 (a * b)).tmod b = r at *
 generalize wrap64 (a * b) = c at *
 generalize a * b = p at *
 unfold I64 at *
 omega
set_option maxRecDepth 100000 in
set_option maxHeartbeats 16000000 in
theorem intsq_any {code a b : Int} (hc : code = 7 ∨ code = 8 ∨ code = 9 ∨ code = 10 ∨ code = 17 ∨ code = 18 ∨ code = 19) (ha : I64 a) (hb : I64 b) (w : World) :
   Calls Tryz.prog 47 #[.int .i64 code, .int .i64 a, .int .i64 b] w fun e w' => e = .returned (.tuple #[.int .i64 (intsV code a b).1, .int .i64 (intsV code a b).2]) ∧ Below w.heap.size w w' := by
 rcases hc with rfl | rfl | rfl | rfl | rfl | rfl | rfl
 · go_enter Tryz.func47, Tryz.ntmps47
   go_wp2_with fail
   all_goals
     go_ret2
     refine ⟨?_, Below.refl _ _⟩
     first
       | (rw [ints_no (code := 7) (by omega) (by omega) (by show ¬ I64 (a + b); (try unfold I64 at *); (try unfold wrap64 at *); omega)]; done)
       | (rw [ints_ok (code := 7) (by omega) (by omega) (by show I64 (a + b); (try unfold I64 at *); (try unfold wrap64 at *); omega)]; exact ret_ii (by show wrap64 (a + b) = a + b; (try unfold I64 at *); (try unfold wrap64 at *); omega) rfl)
       | (rw [ints_no (code := 7) (by omega) (by omega) (by show ¬ I64 (a + b); (try unfold I64 at *); (try unfold wrap64 at *); omega)]; rfl)
 · go_enter Tryz.func47, Tryz.ntmps47
   go_wp2_with fail
   all_goals
     go_ret2
     refine ⟨?_, Below.refl _ _⟩
     first
       | (rw [ints_no (code := 8) (by omega) (by omega) (by show ¬ I64 (a - b); (try unfold I64 at *); (try unfold wrap64 at *); omega)]; done)
       | (rw [ints_ok (code := 8) (by omega) (by omega) (by show I64 (a - b); (try unfold I64 at *); (try unfold wrap64 at *); omega)]; exact ret_ii (by show wrap64 (a - b) = a - b; (try unfold I64 at *); (try unfold wrap64 at *); omega) rfl)
       | (rw [ints_no (code := 8) (by omega) (by omega) (by show ¬ I64 (a - b); (try unfold I64 at *); (try unfold wrap64 at *); omega)]; rfl)
 · by_cases h0 : a = 0
   · subst h0
     have HI : Hid (intsV 9 0 b = (0, 0)) := Lib.hid ((ints_ok (code := 9) (by omega) (by omega) (by show I64 (0 * b); rw [Int.zero_mul]; simp [I64])).trans (by show ((0 : Int) * b, (0 : Int)) = (0, 0); rw [Int.zero_mul]))
     go_enter Tryz.func47, Tryz.ntmps47
     go_wp2_with fail
     all_goals
       go_ret2
       rw [HI.out]
       first
         | exact ⟨rfl, Below.refl _ _⟩
         | exact ⟨ret_ii (by assumption) rfl, Below.refl _ _⟩
         | (rename_i hq; exact absurd (by assumption) hq)
         | (rename_i hq hq2; exact absurd (by assumption) hq2)
   by_cases h1 : b = 0
   · subst h1
     have HI : Hid (intsV 9 a 0 = (0, 0)) := Lib.hid ((ints_ok (code := 9) (by omega) (by omega) (by show I64 (a * 0); rw [Int.mul_zero]; simp [I64])).trans (by show (a * (0 : Int), (0 : Int)) = (0, 0); rw [Int.mul_zero]))
     have g0 : (a == 0) = false := by simpa using h0
     go_enter Tryz.func47, Tryz.ntmps47
     go_wp2_with fail
     all_goals
       go_ret2
       rw [HI.out]
       first
         | exact ⟨rfl, Below.refl _ _⟩
         | exact ⟨ret_ii (by assumption) rfl, Below.refl _ _⟩
         | (rename_i hq; exact absurd (by assumption) hq)
         | (rename_i hq hq2; exact absurd (by assumption) hq2)
   have g0 : (a == 0) = false := by simpa using h0
   have g1 : (b == 0) = false := by simpa using h1
   by_cases hf : I64 (a * b)
   · have HI := Lib.hid (ints_ok (code := 9) (a := a) (b := b) (by omega) (by omega) hf)
     have e1 := i64_wrap hf
     have e2 : wrap64 ((a * b).tdiv b) = a := by rw [Int.mul_tdiv_cancel a h1]; exact i64_wrap ha
     have e3 : (wrap64 ((a * b).tdiv b) != a) = false := by simp [e2]
     have e4 : wrap64 a = a := i64_wrap ha
     by_cases ma : a = -1
     · have n1 : ¬ b = -9223372036854775808 := by rintro rfl; subst ma; unfold I64 at hf; omega
       have m1 : (a == -1) = true := by simp [ma]
       have m2 : (b == -9223372036854775808) = false := by simpa using n1
       have m3 : (a == -9223372036854775808) = false := by simp; omega
       have m4 : ¬ a = -9223372036854775808 := by omega
       have HMA := Lib.hid ma
       clear ma
       by_cases mb : b = -1
       · have m5 : (b == -1) = true := by simp [mb]
         clear mb
         go_enter Tryz.func47, Tryz.ntmps47
         go_wp2_with fail
         all_goals
           go_ret2
           rw [HI.out]
           first
             | exact ⟨rfl, Below.refl _ _⟩
             | exact ⟨ret_ii (by assumption) rfl, Below.refl _ _⟩
             | (rename_i hq; exact absurd (by assumption) hq)
             | (rename_i hq hq2; exact absurd (by assumption) hq2)
       · have m5 : (b == -1) = false := by simpa using mb
         go_enter Tryz.func47, Tryz.ntmps47
         go_wp2_with fail
         all_goals
           go_ret2
           rw [HI.out]
           first
             | exact ⟨rfl, Below.refl _ _⟩
             | exact ⟨ret_ii (by assumption) rfl, Below.refl _ _⟩
             | (rename_i hq; exact absurd (by assumption) hq)
             | (rename_i hq hq2; exact absurd (by assumption) hq2)
     · have m1 : (a == -1) = false := by simpa using ma
       by_cases mb : b = -1
       · have n1 : ¬ a = -9223372036854775808 := by rintro rfl; subst mb; unfold I64 at hf; omega
         have m2 : (a == -9223372036854775808) = false := by simpa using n1
         have m5 : (b == -1) = true := by simp [mb]
         clear mb
         go_enter Tryz.func47, Tryz.ntmps47
         go_wp2_with fail
         all_goals
           go_ret2
           rw [HI.out]
           first
             | exact ⟨rfl, Below.refl _ _⟩
             | exact ⟨ret_ii (by assumption) rfl, Below.refl _ _⟩
             | (rename_i hq; exact absurd (by assumption) hq)
             | (rename_i hq hq2; exact absurd (by assumption) hq2)
       · have m5 : (b == -1) = false := by simpa using mb
         go_enter Tryz.func47, Tryz.ntmps47
         go_wp2_with fail
         all_goals
           go_ret2
           rw [HI.out]
           first
             | exact ⟨rfl, Below.refl _ _⟩
             | exact ⟨ret_ii (by assumption) rfl, Below.refl _ _⟩
             | (rename_i hq; exact absurd (by assumption) hq)
             | (rename_i hq hq2; exact absurd (by assumption) hq2)
   · have HI := Lib.hid (ints_no (code := 9) (a := a) (b := b) (by omega) (by omega) hf)
     by_cases mb : b = -1
     · obtain rfl : a = -9223372036854775808 := by subst mb; unfold I64 at *; omega
       subst mb
       clear hf
       go_enter Tryz.func47, Tryz.ntmps47
       go_wp2_with fail
       all_goals
         go_ret2
         rw [HI.out]
         first
           | exact ⟨rfl, Below.refl _ _⟩
           | exact ⟨ret_ii (by assumption) rfl, Below.refl _ _⟩
           | (rename_i hq; exact absurd (by assumption) hq)
           | (rename_i hq hq2; exact absurd (by assumption) hq2)
     · have e2 := mulq_over hb h1 mb hf
       have e3 : (wrap64 ((wrap64 (a * b)).tdiv b) != a) = true := by simpa using e2
       have e4 : (wrap64 ((wrap64 (a * b)).tdiv b) == a) = false := by simpa using e2
       clear hf
       go_enter Tryz.func47, Tryz.ntmps47
       go_wp2_with fail
       all_goals
         go_ret2
         rw [HI.out]
         first
           | exact ⟨rfl, Below.refl _ _⟩
           | exact ⟨ret_ii (by assumption) rfl, Below.refl _ _⟩
           | (rename_i hq; exact absurd (by assumption) hq)
           | (rename_i hq hq2; exact absurd (by assumption) hq2)
 · by_cases h1 : b = 0
   · subst h1
     have HI : Hid (intsV 10 a 0 = (0, 6)) := Lib.hid (by unfold intsV recR recE; simp)
     go_enter Tryz.func47, Tryz.ntmps47
     go_wp2_with fail
     all_goals
       go_ret2
       rw [HI.out]
       first
         | exact ⟨rfl, Below.refl _ _⟩
         | exact ⟨ret_ii (by assumption) rfl, Below.refl _ _⟩
         | (rename_i hq; exact absurd (by assumption) hq)
         | (rename_i hq hq2; exact absurd (by assumption) hq2)
   have g1 : (b == 0) = false := by simpa using h1
   by_cases hov : a = -9223372036854775808 ∧ b = -1
   · obtain ⟨rfl, rfl⟩ := hov
     have HI : Hid (intsV 10 (-9223372036854775808) (-1) = (0, 5)) := Lib.hid (by decide)
     go_enter Tryz.func47, Tryz.ntmps47
     go_wp2_with fail
     all_goals
       go_ret2
       rw [HI.out]
       first
         | exact ⟨rfl, Below.refl _ _⟩
         | exact ⟨ret_ii (by assumption) rfl, Below.refl _ _⟩
         | (rename_i hq; exact absurd (by assumption) hq)
         | (rename_i hq hq2; exact absurd (by assumption) hq2)
   · have hf : I64 (a.tdiv b) := by
       by_cases mb : b = -1
       · subst mb
         rw [Int.tdiv_neg, Int.tdiv_one]
         unfold I64 at *
         omega
       · exact div_bounds ha h1 mb
     have HI := Lib.hid (ints_ok (code := 10) (a := a) (b := b) (by omega) (by omega) hf)
     have e1 := i64_wrap hf
     have HOV := Lib.hid hov
     by_cases ma : a = -9223372036854775808
     · have mb : ¬ b = -1 := fun h => hov ⟨ma, h⟩
       have m1 : (a == -9223372036854775808) = true := by simp [ma]
       have m2 : (b == -1) = false := by simpa using mb
       clear ma hov
       go_enter Tryz.func47, Tryz.ntmps47
       go_wp2_with fail
       all_goals
         go_ret2
         rw [HI.out]
         first
           | exact ⟨rfl, Below.refl _ _⟩
           | exact ⟨ret_ii (by assumption) rfl, Below.refl _ _⟩
           | (rename_i hq; exact absurd (by assumption) hq)
           | (rename_i hq hq2; exact absurd (by assumption) hq2)
     · have m1 : (a == -9223372036854775808) = false := by simpa using ma
       clear hov
       go_enter Tryz.func47, Tryz.ntmps47
       go_wp2_with fail
       all_goals
         go_ret2
         rw [HI.out]
         first
           | exact ⟨rfl, Below.refl _ _⟩
           | exact ⟨ret_ii (by assumption) rfl, Below.refl _ _⟩
           | (rename_i hq; exact absurd (by assumption) hq)
           | (rename_i hq hq2; exact absurd (by assumption) hq2)
 all_goals
   go_enter Tryz.func47, Tryz.ntmps47
   go_wp2_with fail
   all_goals
     go_ret2
     first
       | exact ⟨rfl, Below.refl _ _⟩
       | exact ⟨ret_ii (by assumption) rfl, Below.refl _ _⟩
       | (rename_i hq; exact absurd (by assumption) hq)
       | (rename_i hq hq2; exact absurd (by assumption) hq2)
set_option maxRecDepth 100000 in
set_option maxHeartbeats 4000000 in
theorem containsSetq_any {d d' B : Nat} {s t : Tm} {vs ws : List Value} {w : World} (hs : RTm w B (d + 1) s vs) (ht : RTm w B (d' + 1) t ws) (hB : B ≤ w.heap.size) (h3 : s.kind ≠ 3) :
   Calls Tryz.prog 42 #[.agg vs.toArray, .agg ws.toArray] w fun e w' => e = .returned (.bool (containsS s t)) ∧ Below w.heap.size w w' := by
 have HS := Lib.hid hs
 have HT := Lib.hid ht
 obtain ⟨As, cs, rfl, _⟩ := hs.cells
 obtain ⟨A, c, rfl, q1, q2, q3, q4, q5, hl⟩ := ht
 have HL : Hid (RL (TmR d') w B t.l A) := Lib.hid hl
 have hg3 : (s.kind == 3) = false := by simp [h3]
 clear hl hs
 by_cases h7 : t.kind = 7
 · have H7 := Lib.hid h7
   have hg : (t.kind != 7) = false := by simp [h7]
   clear h7 h3
   go_enter Tryz.func42, Tryz.ntmps42
   go_wp2_with fail
   generalize hW : World.alloc _ _ = w1
   obtain ⟨hb, hz⟩ := al2 hW
   have bs_ := n21 hW
   have bt := n22 hW
   have HB1 := Lib.hid hb
   clear hW hz hb
   have HL1 := Lib.hid (HL.out.keep HB1.out hB)
   have hB1 := Nat.le_trans hB HB1.out.size
   go_loopw [24] (fun i wr => ∃ k : Nat, k ≤ t.l.length ∧ i = .int .i64 k ∧ Below w1.heap.size w1 wr ∧ ∀ j (hj : j < k) (hj' : j < t.l.length), hasB s t.l[j] = true) (fun i _ => t.l.length - (intOf i).toNat)
   case atStart => exact ⟨0, Nat.zero_le _, rfl, Below.refl _ _, fun j hj => absurd hj (by omega)⟩
   case round =>
     obtain ⟨k, hk, rfl, hbw, hall⟩ := hrel
     have HALL := Lib.hid hall
     clear hall
     by_cases hlt : k < t.l.length
     · obtain ⟨b, off, rfl, hob⟩ := HL1.out.base hbw hB1 (by omega)
       obtain ⟨x, vs, hx, hlen, hcell, hr⟩ := HL1.out.at_ hbw hB1 hlt
       obtain ⟨Ax, cx, rfl, g1, g2, g3, g4, g5, _⟩ := RTm.cells (show RTm wr B d' x vs from hr)
       have c0 : wr.cell? ⟨b, off + k * 4, none⟩ = some (.int .i64 x.kind) := hcell 0 _ rfl
       have c1 : wr.cell? ⟨b, off + k * 4 + 1, none⟩ = some (.int .i64 x.n) := hcell 1 _ rfl
       have c2 : wr.cell? ⟨b, off + k * 4 + 2, none⟩ = some (.string x.s) := hcell 2 _ rfl
       have c3 : wr.cell? ⟨b, off + k * 4 + 3, none⟩ = some (.slice Ax x.l.length cx) := hcell 3 _ rfl
       have HX := Lib.hid hx
       have HR : Hid (RTm wr B d' x _) := Lib.hid hr
       have HBW := Lib.hid hbw
       have bt2 := bs_.later hbw
       have hBr : B ≤ wr.heap.size := Nat.le_trans hB1 hbw.size
       have kt := bt2.cell
       have lt := bt2.lt
       clear hcell hlen hx hr hbw
       go_wp2_with fail
       generalize hW : World.alloc _ _ = W
       obtain ⟨hb1, hz⟩ := al1 hW
       have HBa := Lib.hid hb1
       have bt3 := bt2.later hb1
       have kt3 := bt3.cell
       clear hW hb1 hz c0 c1 c2 c3 kt lt
       go_wp2_with fail
       refine (refHas_any (d := d) (d' := d') (s := s) (t := x) (B := B) (vs := [_, _, _, _]) (ws := [_, _, _, _]) (HS.out.below (bthen HB1.out (bthen HBW.out HBa.out)) hB) (HR.out.below HBa.out hBr) (Nat.le_trans hBr HBa.out.size)).mono ?_
       rintro e w3 ⟨rfl, hb3⟩
       have HB3 := Lib.hid (bthen HBW.out (bthen HBa.out hb3))
       clear hb3 kt3
       by_cases hm : hasB s x = true
       · have HM := Lib.hid hm
         rw [hm]
         clear hm
         go_wp2_with fail
         go_roundw
         case rel => exact ⟨k + 1, by omega, by go_num, HB3.out, fun j hj hj' => by
             rcases Nat.lt_or_ge j k with h1 | h1
             · exact HALL.out j h1 hj'
             · obtain rfl : j = k := by omega
               rw [(List.getElem?_eq_some_iff.1 HX.out).2]; exact HM.out⟩
         case measure => simp [intOf]; omega
       · simp only [Bool.not_eq_true] at hm
         have HM := Lib.hid hm
         rw [hm]
         clear hm
         go_wp2_with fail
         go_ret
         refine ⟨ret_bool ?_, bthen HB1.out HB3.out⟩
         unfold containsS
         rw [if_pos H7.out, all_no (p := hasB s) HX.out HM.out]
     · go_wp2_with fail
       go_ret
       refine ⟨ret_bool ?_, bthen HB1.out hbw⟩
       unfold containsS
       rw [if_pos H7.out, all_yes (p := hasB s) (show t.l.length ≤ k by omega) HALL.out]
 · have hg : (t.kind != 7) = true := by simp [h7]
   have H7 := Lib.hid h7
   clear h7 h3
   go_enter Tryz.func42, Tryz.ntmps42
   go_wp2_with fail
   generalize hW : World.alloc _ _ = w1
   obtain ⟨hb, hz⟩ := al2 hW
   have HB1 := Lib.hid hb
   clear hW hz hb
   refine (refHas_any (d := d) (d' := d' + 1) (s := s) (t := t) (B := B) (vs := [_, _, _, _]) (ws := [_, _, _, _]) (HS.out.below HB1.out hB) (HT.out.below HB1.out hB) (Nat.le_trans hB HB1.out.size)).mono ?_
   rintro e w3 ⟨rfl, hb3⟩
   have HB3 := Lib.hid (bthen HB1.out hb3)
   clear hb3
   go_wp2_with fail
   go_ret
   exact ⟨ret_bool (by unfold containsS; rw [if_neg H7.out]), HB3.out⟩
set_option maxRecDepth 100000 in
set_option maxHeartbeats 4000000 in
theorem containsq_any {d d' B : Nat} {s t : Tm} {vs ws : List Value} {w : World} {m : Int} (hs : RTm w B (d + 1) s vs) (ht : RTm w B (d' + 1) t ws) (hB : B ≤ w.heap.size) (h256 : s.s.size ≤ 256) (hm : w.cell? ⟨0, 0, none⟩ = some (.int .i64 m)) (h0 : 0 < w.heap.size) :
   Calls Tryz.prog 42 #[.agg vs.toArray, .agg ws.toArray] w fun e w' => e = .returned (.bool (if s.kind = 3 then Lib.contains (bs s.s) (bs t.s) else containsS s t)) ∧ Below w.heap.size w w' := by
 by_cases h3 : s.kind = 3
 · have HM := Lib.hid hm
   have H3 := Lib.hid h3
   obtain ⟨As, cs, rfl, _⟩ := hs.cells
   obtain ⟨A, c, rfl, q1, q2, q3, q4, q5, _⟩ := ht.cells
   have g3 : (s.kind == 3) = true := by simp [h3]
   clear hm h3 hs ht
   go_enter Tryz.func42, Tryz.ntmps42
   go_wp2_with fail
   generalize hW : World.alloc _ _ = W
   obtain ⟨hb, hz⟩ := al2 hW
   have HB := Lib.hid hb
   have HM2 := Lib.hid ((hb.cell (p := ⟨0, 0, none⟩) h0).trans HM.out)
   clear hW hb
   refine (Tryz.strings_Contains s.s t.s m _ (by omega) HM2.out).mono ?_
   rintro z0 wz ⟨rfl, rfl⟩
   go_wp2_with fail
   go_ret
   exact ⟨ret_bool (by first | rfl | rw [if_pos H3.out]), HB.out⟩
 · refine (containsSetq_any hs ht hB h3).mono ?_
   rintro e w' ⟨rfl, hb⟩
   exact ⟨ret_bool (by rw [if_neg h3]), hb⟩
open Go.ChangeShapes Go.WideShapes Go.ChangeAt Go.RowKit
def setB (t : Tm) : Bool := decide (t.n = 0) && decide (t.s.size = 0) && risingB t.l
theorem rising_not {l : List Tm} {k : Nat} (hlt : k < l.length) (hn : riseAt l k = false) : risingB l = false := by
 rw [Bool.eq_false_iff, risingB]
 intro h
 rw [Bool.and_eq_true, List.all_eq_true] at h
 have := h.1 k (by simpa using hlt)
 rw [hn] at this
 cases this
theorem rising_long {l : List Tm} (h : 16 < l.length) : risingB l = false := by
 rw [risingB, decide_eq_false (by omega), Bool.and_false]
set_option maxRecDepth 100000 in
set_option maxHeartbeats 2000000 in
theorem maySet_of (d : Nat) (hM : ∀ (t : Tm) (vs : List Value) (B : Nat) (w : World), RTm w B d t vs → B ≤ w.heap.size →
     Calls Tryz.prog 21 #[.agg vs.toArray] w fun e w' => e = .returned (.bool (mayB t)) ∧ Below w.heap.size w w')
   (t : Tm) (vs : List Value) (B : Nat) (w : World) (ht : RTm w B (d + 1) t vs) (hB : B ≤ w.heap.size) :
   Calls Tryz.prog 53 #[.agg vs.toArray] w fun e w' => e = .returned (.bool (setB t)) ∧ Below w.heap.size w w' := by
 have HM := Lib.hid hM
 clear hM
 obtain ⟨A, c, rfl, hc1, hc2, hs, _, _, hl⟩ := ht.cells
 obtain ⟨kind, n, s, l⟩ := t
 dsimp only at hc1 hc2 hs hl
 have hbel : ∀ o : Obj, Below w.heap.size w (w.alloc o) := fun o => (Below.refl _ _).alloc (Nat.le_refl _) _
 have HB := Lib.hid hbel
 have HL := Lib.hid hl
 clear hbel ht hl
 by_cases t1 : n = 0
 rotate_left
 · have u1 : (n != 0) = true := by simpa using t1
   have T1 := Lib.hid t1
   clear t1
   go_enter Tryz.func53, Tryz.ntmps53
   go_wp2_with fail
   go_ret
   exact ⟨ret_bool (by simp [setB, T1.out]), HB.out _⟩
 have u1 : (n != 0) = false := by simpa using t1
 have T1 := Lib.hid t1
 clear t1
 by_cases t2 : s.size = 0
 rotate_left
 · have u2 : s.toList.isEmpty = false := by rw [isEmpty_empty]; simpa using t2
   have T2 := Lib.hid t2
   clear t2
   go_enter Tryz.func53, Tryz.ntmps53
   go_wp2_with fail
   go_ret
   exact ⟨ret_bool (by simp [setB, T2.out]), HB.out _⟩
 have u2 : s.toList.isEmpty = true := by rw [isEmpty_empty]; simpa using t2
 have T2 := Lib.hid t2
 clear t2
 by_cases t3 : 16 < l.length
 · go_enter Tryz.func53, Tryz.ntmps53
   go_wp2_with fail
   go_ret
   exact ⟨ret_bool (by simp [setB, rising_long t3]), HB.out _⟩
 go_enter Tryz.func53, Tryz.ntmps53
 go_wp2_with fail
 generalize hW : World.alloc _ _ = W
 obtain ⟨hb, hz⟩ := al1 hW
 have bt := n11 hW
 have HB1 := Lib.hid hb
 have hB1 : B ≤ W.heap.size := by omega
 clear hW hz hb HB
 go_loopw [22] (fun i wr => ∃ k : Nat, k ≤ l.length ∧ i = .int .i64 k ∧ Below W.heap.size W wr ∧ ∀ i, i < k → riseAt l i = true) (fun i _ => l.length - (intOf i).toNat)
 case atStart => exact ⟨0, Nat.zero_le _, rfl, Below.refl _ _, fun i h => absurd h (by omega)⟩
 case round =>
   obtain ⟨k, hk, rfl, hbw, hall⟩ := hrel
   have HA := Lib.hid hall
   clear hall
   have ct := (bt.later hbw).cell
   have lt := (bt.later hbw).lt
   by_cases hlt : k < l.length
   · have hl := HL.out.below HB1.out hB
     obtain ⟨b, off, rfl, hb⟩ := hl.base hbw hB1 (by omega)
     obtain ⟨x, Ax, cx, hx, c0, c1, c2, c3, hr⟩ := hl.at_ hbw hB1 hlt
     obtain ⟨y, Ay, cy, hy, f0, f1, f2, f3, hr0⟩ := hl.at_ (k := 0) hbw hB1 (by omega)
     obtain ⟨z, Az, cz, hz, g0, g1, g2, g3, hrz⟩ := hl.at_ (k := k - 1) hbw hB1 (by omega)
     have HR := Lib.hid (riseAt_iff hx hy hz)
     have HK0 := Lib.hid (show k = 0 → x = y from fun h => by subst h; rw [hx] at hy; simpa using hy)
     have HBw := Lib.hid hbw
     simp only [Nat.zero_mul, Nat.add_zero] at f0 f1 f2 f3
     clear hx hy hz f1 f2 f3 hl
     go_wp2_with fail
     generalize hW2 : World.alloc _ _ = W2
     obtain ⟨hb2, hz2⟩ := al1 hW2
     have q0 := (n11 hW2).regrown
     have q1 := ((bt.later hbw).later hb2).regrown
     have q4 := cell_regrown ((hb2.cell (p := ⟨b, off, none⟩) hb).trans f0)
     have q5 := cell_regrown ((hb2.cell (p := ⟨b, off + (k - 1) * 4, none⟩) hb).trans g0)
     have q6 := cell_regrown ((hb2.cell (p := ⟨b, off + (k - 1) * 4 + 1, none⟩) hb).trans g1)
     have q7 := cell_regrown ((hb2.cell (p := ⟨b, off + (k - 1) * 4 + 2, none⟩) hb).trans g2)
     have q8 := cell_regrown ((hb2.cell (p := ⟨b, off + (k - 1) * 4 + 3, none⟩) hb).trans g3)
     have hBW : B ≤ W2.heap.size := by have := hbw.size; omega
     have hrx := Lib.hid (hr.below hb2 (by have := hbw.size; omega))
     have hrz' := Lib.hid (hrz.below hb2 (by have := hbw.size; omega))
     have HB2 := Lib.hid hb2
     have hl0 : 0 < l.length := by omega
     clear hW2 hz2 hb2 ct lt c0 c1 c2 c3 f0 g0 g1 g2 g3 hr hrz hr0
     have hcases : (x.kind == 1) = true ∨ ((x.kind == 1) = false ∧ (x.kind == 7) = true) ∨ ((x.kind == 1) = false ∧ (x.kind == 7) = false ∧ mayB x = false) ∨
         ((x.kind == 1) = false ∧ (x.kind == 7) = false ∧ mayB x = true ∧ decide (0 < k) = false) ∨
         ((x.kind == 1) = false ∧ (x.kind == 7) = false ∧ mayB x = true ∧ 0 < k ∧ (x.kind != y.kind) = true) ∨
         ((x.kind == 1) = false ∧ (x.kind == 7) = false ∧ mayB x = true ∧ 0 < k ∧ (x.kind != y.kind) = false ∧ decide (0 ≤ cmpT 3 z x) = true) ∨
         ((x.kind == 1) = false ∧ (x.kind == 7) = false ∧ mayB x = true ∧ 0 < k ∧ (x.kind != y.kind) = false ∧ decide (0 ≤ cmpT 3 z x) = false) := by
       cases (x.kind == 1) <;> cases (x.kind == 7) <;> cases mayB x <;> cases (x.kind != y.kind) <;> cases decide (0 ≤ cmpT 3 z x) <;> rcases Nat.eq_zero_or_pos k with h | h <;> simp [h]
     rcases hcases with h1 | ⟨h1, h7⟩ | ⟨h1, h7, hm⟩ | ⟨h1, h7, hm, hk0⟩ | ⟨h1, h7, hm, hk0, hy⟩ | ⟨h1, h7, hm, hk0, hy, hc⟩ | ⟨h1, h7, hm, hk0, hy, hc⟩
     all_goals
       refine wp_region_quiet_below (by kernel_rfl) (by kernel_rfl) ?_
       repeat (go_big_quiet_step ((first
         | (go_at_call 21; exact Calls.regrown_of (HM.out x [_, _, _, _] B _ (hrx.out.below (below_regrown _ _ _) hBW) (Nat.le_trans hBW (below_regrown _ _ _).size)))
         | (go_at_call 39; exact Calls.regrown_of (refCompare_any (d := d) (B := B) (a := z) (b := x) (va := [_, _, _, _]) (vb := [_, _, _, _]) (hrz'.out.below (below_regrown _ _ _) hBW) (hrx.out.below (below_regrown _ _ _) hBW) (Nat.le_trans hBW (below_regrown _ _ _).size))))))
       refine wpQuiet_nil ?_
       intro w3 hw3
       have hb3 : Below W2.heap.size W2 w3 := by obtain ⟨p, rfl⟩ := hw3; exact below_regrown _ _ _
       clear hw3 q0 q1 q4 q5 q6 q7 q8
       have HB3 := Lib.hid (bthen HBw.out (bthen HB2.out hb3))
       have hfin := Lib.hid (bthen HB1.out HB3.out)
       clear hb3
       go_wp2_with fail
       try simp only [beq_iff_eq, bne_iff_ne, beq_eq_false_iff_ne, bne_eq_false_iff_eq, decide_eq_true_eq, decide_eq_false_iff_not] at h1
       try simp only [beq_iff_eq, bne_iff_ne, beq_eq_false_iff_ne, bne_eq_false_iff_eq, decide_eq_true_eq, decide_eq_false_iff_not] at h7
       try simp only [beq_iff_eq, bne_iff_ne, beq_eq_false_iff_ne, bne_eq_false_iff_eq, decide_eq_true_eq, decide_eq_false_iff_not] at hk0
       try simp only [beq_iff_eq, bne_iff_ne, beq_eq_false_iff_ne, bne_eq_false_iff_eq, decide_eq_true_eq, decide_eq_false_iff_not] at hy
       try simp only [beq_iff_eq, bne_iff_ne, beq_eq_false_iff_ne, bne_eq_false_iff_eq, decide_eq_true_eq, decide_eq_false_iff_not] at hc
       first
         | (have hn : riseAt l k = false := by
              rw [Bool.eq_false_iff]
              intro h
              have h2 := HR.out.1 h
              rw [fixedB] at h2
              simp only [Bool.and_eq_true, decide_eq_true_eq] at h2
              first
                | exact h2.1.1.1.1 h1
                | exact h2.1.1.2 h7
                | (rw [hm] at h2; exact absurd h2.1.1.1.2 (by decide))
                | exact hy h2.1.2
                | (have := h2.2 hk0; omega)
            go_ret
            exact ⟨ret_bool (by simp [setB, rising_not hlt hn]), hfin.out⟩)
         | (have hn : riseAt l k = true := HR.out.2 (by
              rw [fixedB, hm]
              refine ⟨⟨⟨by simpa using h1, h7⟩, ?_⟩, fun h => ?_⟩
              · first
                  | exact hy
                  | rw [HK0.out (by omega)]
              · omega)
            go_roundw
            case rel => exact ⟨k + 1, by omega, by go_num, HB3.out, fun i hi => by
              rcases Nat.lt_or_ge i k with h1 | h1
              · exact HA.out i h1
              · obtain rfl : i = k := by omega
                exact hn⟩
            case measure => simp [intOf]; omega)
   · have hfin := Lib.hid (bthen HB1.out hbw)
     go_wp2_with fail
     go_ret
     refine ⟨ret_bool ?_, hfin.out⟩
     obtain rfl : k = l.length := by omega
     have : (List.range l.length).all (riseAt l) = true := by simpa using HA.out
     rw [setB]
     simp only [T1.out, T2.out, decide_true, Bool.true_and]
     rw [risingB, this, decide_eq_true (by omega)]
     rfl
end Go.Proofs.YtiplipdigabidaaGreat
