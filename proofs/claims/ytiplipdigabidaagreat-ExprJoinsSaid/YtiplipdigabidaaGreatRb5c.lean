/- viaticumref11.Binary: what it tells is what op.Binary tells. -/
import Derived.Test.YtiplipdigabidaaGreatRb4
import Derived.Test.YtiplipdigabidaaGreatRq10
import Derived.Test.YtiplipdigabidaaGreatAwake12
set_option linter.unusedVariables false
set_option linter.unusedSimpArgs false
namespace Go.Proofs.YtiplipdigabidaaGreat
open Go.ChangeShapes Go.WideShapes Go.ChangeAt Go.RowKit
theorem sets_meet {a b : Tm} (ha : OkL a.l) : setsQ 15 a b = (meetT a b, 0) := by
 have hf := ok_filter (hasB b) ha
 have h16 := hf.few
 unfold setsQ
 rw [if_pos rfl]
 unfold endQ
 rw [if_neg (by omega)]
 unfold setR
 rw [if_pos (ok_arg hf)]
 unfold setT meetT
 rw [setL_self (cmpT_ord 3) hf.rise]
theorem sets_join {a b : Tm} (hb : OkL b.l) : setsQ 16 a b = joinR a b := by
 unfold setsQ joinR
 rw [if_neg (by omega)]
 by_cases h : 0 < a.l.length ∧ 0 < b.l.length ∧ headK a.l ≠ headK b.l
 · obtain ⟨h1, h2, h3⟩ := h
   have hany : b.l.any (badJ a b) = true := by
     obtain ⟨u, hu, hk⟩ := headK_mem (l := b.l) (fun e => by rw [e] at h2; simp at h2)
     refine List.any_eq_true.2 ⟨u, hu, ?_⟩
     unfold badJ
     rw [decide_eq_true h1, hk]
     simp [show ¬ headK b.l = headK a.l from fun e => h3 (Eq.symm e)]
   rw [if_pos ⟨h1, h2, h3⟩, if_pos hany]
 · have hany : b.l.any (badJ a b) = false := by
     rw [List.any_eq_false]
     intro t ht
     have h2 : 0 < b.l.length := List.length_pos_iff.2 (fun e => by rw [e] at ht; cases ht)
     have hk := (badB_not.1 (hb.good t ht)).2.2
     unfold badJ
     by_cases h1 : 0 < a.l.length
     · have h3 : headK a.l = headK b.l := by
         by_cases h3 : headK a.l = headK b.l
         · exact h3
         · exact absurd ⟨h1, h2, h3⟩ h
       simp [hk, h3]
     · simp [hk, h1]
   rw [if_neg h, if_neg (by rw [hany]; simp)]
   rfl
theorem ints_lo {code a b : Int} (h : code < 17) : intsV code a b = ((recR code a b).2.1, (recR code a b).2.2) := by
 unfold intsV
 rw [if_neg (by omega), if_neg (by omega), if_neg (by omega)]
set_option maxRecDepth 100000 in
set_option maxHeartbeats 16000000 in
theorem binq_ok {code x y ka kb : Int} {d B : Nat} {s s' : ByteArray} {l l' : List Tm} {vs ws : List Value} {w : World} {m : Int} (ha : RTm w B (d + 1) ⟨ka, x, s, l⟩ vs) (hb : RTm w B (d + 1) ⟨kb, y, s', l'⟩ ws) (hB : B ≤ w.heap.size) (hm : w.cell? ⟨0, 0, none⟩ = some (.int .i64 m)) (h0 : 0 < w.heap.size) (fa : fixedB ⟨ka, x, s, l⟩ = true) (fb : fixedB ⟨kb, y, s', l'⟩ = true) (h1 : 1 ≤ code) (h2 : code ≤ 19) (hk : kindsB code ka kb = true) :
   Calls Tryz.prog 16 #[.int .i64 code, .agg vs.toArray, .agg ws.toArray] w fun z w' => TermE d w w' (binR code ⟨ka, x, s, l⟩ ⟨kb, y, s', l'⟩) z := by
 generalize hres : binR code ⟨ka, x, s, l⟩ ⟨kb, y, s', l'⟩ = res
 have HRES := Lib.hid hres
 obtain ⟨A, c, rfl, q1, q2, q3, q4, q5, _⟩ := ha.cells
 obtain ⟨A', c', rfl, r1, r2, r3, r4, r5, _⟩ := hb.cells
 have HA := Lib.hid ha
 have HB_ := Lib.hid hb
 have FA := Lib.hid fa
 have FB := Lib.hid fb
 have HK := Lib.hid hk
 have HM := Lib.hid hm
 simp only at q2 q3 q4 q5 r2 r3 r4 r5
 clear ha hb fa fb hk hm hres
 have hq0 : decide (code < 1) = false := by simp; omega
 have hq1 : decide (19 < code) = false := by simp; omega
 go_enter Tryz.func16, Tryz.ntmps16
 go_wp2_with fail
 generalize hW : World.alloc _ _ = w1
 obtain ⟨hb, hz⟩ := al4 hW
 have b_a_1 := n41 hW
 have b_b_1 := n42 hW
 have b_r_1 := n43 hW
 have b_n_1 := n44 hW
 have HB1 := Lib.hid hb
 clear hW hz hb
 refine (refFixed_any (t := ⟨ka, x, s, l⟩) (vs := [_, _, _, _]) (HA.out.below HB1.out hB) (Nat.le_trans hB HB1.out.size)).mono ?_
 rintro x w2 ⟨rfl, hb⟩
 have b_a_2 := b_a_1.later hb
 have b_b_2 := b_b_1.later hb
 have b_r_2 := b_r_1.later hb
 have b_n_2 := b_n_1.later hb
 have HB2 := Lib.hid (bthen HB1.out hb)
 clear b_a_1 b_b_1 b_r_1 b_n_1
 clear hb
 rw [FA.out]
 have k_a := b_a_2.cell
 have k_b := b_b_2.cell
 have k_r := b_r_2.cell
 have k_n := b_n_2.cell
 go_wp2_with fail
 clear k_a k_b k_r k_n
 refine (refFixed_any (t := ⟨kb, y, s', l'⟩) (vs := [_, _, _, _]) (HB_.out.below HB2.out hB) (Nat.le_trans hB HB2.out.size)).mono ?_
 rintro x w3 ⟨rfl, hb⟩
 have b_a_3 := b_a_2.later hb
 have b_b_3 := b_b_2.later hb
 have b_r_3 := b_r_2.later hb
 have b_n_3 := b_n_2.later hb
 have HB3 := Lib.hid (bthen HB2.out hb)
 clear b_a_2 b_b_2 b_r_2 b_n_2
 clear hb
 rw [FB.out]
 have k_a := b_a_3.cell
 have k_b := b_b_3.cell
 have k_r := b_r_3.cell
 have k_n := b_n_3.cell
 go_wp2_with fail
 clear k_a k_b k_r k_n
 refine (kindsq_any code ka kb _).mono ?_
 rintro x w4 ⟨rfl, hb⟩
 have b_a_4 := b_a_3.later hb
 have b_b_4 := b_b_3.later hb
 have b_r_4 := b_r_3.later hb
 have b_n_4 := b_n_3.later hb
 have HB4 := Lib.hid (bthen HB3.out hb)
 clear b_a_3 b_b_3 b_r_3 b_n_3
 clear hb
 rw [HK.out]
 have k_a := b_a_4.cell
 have k_b := b_b_4.cell
 have k_r := b_r_4.cell
 have k_n := b_n_4.cell
 go_wp2_with fail
 clear k_a k_b k_r k_n
 refine (refCompare_any (d := _) (a := ⟨ka, x, s, l⟩) (b := ⟨kb, y, s', l'⟩) (va := [_, _, _, _]) (vb := [_, _, _, _]) (HA.out.below HB4.out hB) (HB_.out.below HB4.out hB) (Nat.le_trans hB HB4.out.size)).mono ?_
 rintro x w5 ⟨rfl, hb⟩
 have b_a_5 := b_a_4.later hb
 have b_b_5 := b_b_4.later hb
 have b_r_5 := b_r_4.later hb
 have b_n_5 := b_n_4.later hb
 have HB5 := Lib.hid (bthen HB4.out hb)
 clear b_a_4 b_b_4 b_r_4 b_n_4
 clear hb
 generalize hcc : cmpT 3 ⟨ka, x, s, l⟩ ⟨kb, y, s', l'⟩ = cc
 have HCC := Lib.hid hcc
 clear hcc hq0 hq1
 have hc : (code = 1 ∨ code = 2 ∨ code = 3 ∨ code = 4 ∨ code = 5 ∨ code = 6) ∨ code = 7 ∨ (code = 8 ∨ code = 9 ∨ code = 10) ∨ code = 11 ∨ code = 12 ∨ code = 13 ∨ code = 14 ∨ code = 15 ∨ code = 16 ∨ (code = 17 ∨ code = 18 ∨ code = 19) := by omega
 clear h1 h2
 rcases hc with hc | rfl | hc | rfl | rfl | rfl | rfl | rfl | rfl | hc
 · rcases hc with rfl | rfl | rfl | rfl | rfl | rfl
   all_goals
     have HR : Hid (res = (boolT (compB _ cc), 0)) := Lib.hid (by rw [← HRES.out]; unfold binR; rw [if_neg (by rw [FA.out, FB.out]; simp), if_neg (by rw [HK.out]; simp)]; simp; rw [HCC.out])
     have k_a := b_a_5.cell
     have k_b := b_b_5.cell
     have k_r := b_r_5.cell
     have k_n := b_n_5.cell
     go_wp2_with fail
     clear k_a k_b k_r k_n
     refine (truthq_any _ _).mono ?_
     rintro x w6 ⟨rfl, hb⟩
     have b_a_6 := b_a_5.later hb
     have b_b_6 := b_b_5.later hb
     have b_r_6 := b_r_5.later hb
     have b_n_6 := b_n_5.later hb
     have HB6 := Lib.hid (bthen HB5.out hb)
     clear b_a_5 b_b_5 b_r_5 b_n_5
     clear hb
     have k_a := b_a_6.cell
     have k_b := b_b_6.cell
     have k_r := b_r_6.cell
     have k_n := b_n_6.cell
     have f_r := b_r_6.free
     go_wp2_with fail
     refine bodyPost_ret (ret_tm2 rfl rfl (put4 b_r_6 HB6.out (by omega)).1 rfl) rfl ?_
     rw [HR.out]
     exact termE_bool ⟨flatR_eq (by first | rfl | (congr 1; done) | (congr 1; rw [Bool.eq_iff_iff]; simp [compB])) (rfl), (put4 b_r_6 HB6.out (by omega)).2⟩
 · by_cases hk3 : ka = 3
   · subst hk3
     obtain rfl : kb = 3 := by rcases kinds_add HK.out with h | h <;> omega
     have := fixed_text FA.out
     have := fixed_text FB.out
     by_cases hlen : s.size + s'.size ≤ 256
     · have HR : Hid (res = (⟨3, 0, s ++ s', []⟩, 0)) := Lib.hid (by rw [← HRES.out]; unfold binR; rw [if_neg (by rw [FA.out, FB.out]; simp), if_neg (by rw [HK.out]; simp)]; simp [hlen])
       have hq : decide ((s.size : Int) + s'.size > 256) = false := by simp; omega
       have hw : wrap64 ((s.size : Int) + s'.size) = (s.size : Int) + s'.size := by unfold wrap64; omega
       have k_a := b_a_5.cell
       have k_b := b_b_5.cell
       have k_r := b_r_5.cell
       have k_n := b_n_5.cell
       have f_r := b_r_5.free
       go_wp2_with fail
       refine bodyPost_ret (ret_tm2 rfl rfl (put4 b_r_5 HB5.out (by omega)).1 rfl) rfl ?_
       rw [HR.out]
       exact termE_flat ⟨flatR_eq (rfl) (rfl), (put4 b_r_5 HB5.out (by omega)).2⟩ (by simp [I64]) (by simp [I64]) (by show (s ++ s').size ≤ _; rw [ByteArray.size_append]; omega)
     · have HR : Hid (res = (noT, 4)) := Lib.hid (by rw [← HRES.out]; unfold binR; rw [if_neg (by rw [FA.out, FB.out]; simp), if_neg (by rw [HK.out]; simp)]; simp [hlen])
       have hq : decide ((s.size : Int) + s'.size > 256) = true := by simp; omega
       have hw : wrap64 ((s.size : Int) + s'.size) = (s.size : Int) + s'.size := by unfold wrap64; omega
       have k_a := b_a_5.cell
       have k_b := b_b_5.cell
       have k_r := b_r_5.cell
       have k_n := b_n_5.cell
       have f_r := b_r_5.free
       go_wp2_with fail
       refine bodyPost_ret (ret_tm2 rfl rfl (put4 b_r_5 HB5.out (by omega)).1 rfl) rfl ?_
       rw [HR.out]
       exact termE_no ⟨flatR_eq (rfl) (rfl), (put4 b_r_5 HB5.out (by omega)).2⟩
   · obtain ⟨rfl, rfl⟩ : ka = 2 ∧ kb = 2 := by rcases kinds_add HK.out with h | h <;> omega
     clear hk3
     rcases rec_is 7 x y with ⟨h1, h64⟩ | ⟨e, h1, he⟩
     · have HV : Hid (intsV 7 x y = (recV 7 x y, 0)) := Lib.hid (by rw [ints_lo (by omega), h1])
       have H64 := Lib.hid h64
       have HR : Hid (res = (intT (recV 7 x y), 0)) := Lib.hid (by rw [← HRES.out]; unfold binR; rw [if_neg (by rw [FA.out, FB.out]; simp), if_neg (by rw [HK.out]; simp)]; simp [h1, recT, intT])
       generalize recV 7 x y = vv at *
       clear h1 h64
       have k_a := b_a_5.cell
       have k_b := b_b_5.cell
       have k_r := b_r_5.cell
       have k_n := b_n_5.cell
       go_wp2_with fail
       clear k_a k_b k_r k_n
       refine (intsq_any (by omega) q5 r5 _).mono ?_
       rintro x w6 ⟨rfl, hb⟩
       have b_a_6 := b_a_5.later hb
       have b_b_6 := b_b_5.later hb
       have b_r_6 := b_r_5.later hb
       have b_n_6 := b_n_5.later hb
       have HB6 := Lib.hid (bthen HB5.out hb)
       clear b_a_5 b_b_5 b_r_5 b_n_5
       clear hb
       rw [HV.out]
       have k_a := b_a_6.cell
       have k_b := b_b_6.cell
       have k_r := b_r_6.cell
       have k_n := b_n_6.cell
       go_wp2_with fail
       clear k_a k_b k_r k_n
       refine (numberq_any _ _).mono ?_
       rintro x w7 ⟨rfl, hb⟩
       have b_a_7 := b_a_6.later hb
       have b_b_7 := b_b_6.later hb
       have b_r_7 := b_r_6.later hb
       have b_n_7 := b_n_6.later hb
       have HB7 := Lib.hid (bthen HB6.out hb)
       clear b_a_6 b_b_6 b_r_6 b_n_6
       clear hb
       have k_a := b_a_7.cell
       have k_b := b_b_7.cell
       have k_r := b_r_7.cell
       have k_n := b_n_7.cell
       have f_r := b_r_7.free
       go_wp2_with fail
       refine bodyPost_ret (ret_tm2 rfl rfl (put4 b_r_7 HB7.out (by omega)).1 rfl) rfl ?_
       rw [HR.out]
       exact termE_int ⟨flatR_eq (rfl) (rfl), (put4 b_r_7 HB7.out (by omega)).2⟩ H64.out
     · have HV : Hid (intsV 7 x y = (0, e)) := Lib.hid (by rw [ints_lo (by omega), h1])
       have hqe : (e != 0) = true := by simp; omega
       have HR : Hid (res = (noT, e)) := Lib.hid (by rw [← HRES.out]; unfold binR; rw [if_neg (by rw [FA.out, FB.out]; simp), if_neg (by rw [HK.out]; simp)]; simp [h1, recT, noT])
       clear h1 he
       have k_a := b_a_5.cell
       have k_b := b_b_5.cell
       have k_r := b_r_5.cell
       have k_n := b_n_5.cell
       go_wp2_with fail
       clear k_a k_b k_r k_n
       refine (intsq_any (by omega) q5 r5 _).mono ?_
       rintro x w6 ⟨rfl, hb⟩
       have b_a_6 := b_a_5.later hb
       have b_b_6 := b_b_5.later hb
       have b_r_6 := b_r_5.later hb
       have b_n_6 := b_n_5.later hb
       have HB6 := Lib.hid (bthen HB5.out hb)
       clear b_a_5 b_b_5 b_r_5 b_n_5
       clear hb
       rw [HV.out]
       have k_a := b_a_6.cell
       have k_b := b_b_6.cell
       have k_r := b_r_6.cell
       have k_n := b_n_6.cell
       have f_r := b_r_6.free
       go_wp2_with fail
       refine bodyPost_ret (ret_tm2 rfl rfl (put4 b_r_6 HB6.out (by omega)).1 rfl) rfl ?_
       rw [HR.out]
       exact termE_no ⟨flatR_eq (rfl) (rfl), (put4 b_r_6 HB6.out (by omega)).2⟩
 · obtain ⟨rfl, rfl⟩ := kinds_num HK.out (by omega)
   have HC := Lib.hid hc
   rcases rec_is code x y with ⟨h1, h64⟩ | ⟨e, h1, he⟩
   · have HV : Hid (intsV code x y = (recV code x y, 0)) := Lib.hid (by rw [ints_lo (by omega), h1])
     have H64 := Lib.hid h64
     have HR : Hid (res = (intT (recV code x y), 0)) := Lib.hid (by rw [← HRES.out]; unfold binR; rw [if_neg (by rw [FA.out, FB.out]; simp; have := HC.out; omega), if_neg (by rw [HK.out]; simp)]; rcases HC.out with rfl | rfl | rfl <;> simp [h1, recT, intT])
     generalize recV code x y = vv at *
     clear h1 h64
     rcases hc with rfl | rfl | rfl
     all_goals
       have k_a := b_a_5.cell
       have k_b := b_b_5.cell
       have k_r := b_r_5.cell
       have k_n := b_n_5.cell
       go_wp2_with fail
       clear k_a k_b k_r k_n
       refine (intsq_any (by omega) q5 r5 _).mono ?_
       rintro x w6 ⟨rfl, hb⟩
       have b_a_6 := b_a_5.later hb
       have b_b_6 := b_b_5.later hb
       have b_r_6 := b_r_5.later hb
       have b_n_6 := b_n_5.later hb
       have HB6 := Lib.hid (bthen HB5.out hb)
       clear b_a_5 b_b_5 b_r_5 b_n_5
       clear hb
       rw [HV.out]
       have k_a := b_a_6.cell
       have k_b := b_b_6.cell
       have k_r := b_r_6.cell
       have k_n := b_n_6.cell
       go_wp2_with fail
       clear k_a k_b k_r k_n
       refine (numberq_any _ _).mono ?_
       rintro x w7 ⟨rfl, hb⟩
       have b_a_7 := b_a_6.later hb
       have b_b_7 := b_b_6.later hb
       have b_r_7 := b_r_6.later hb
       have b_n_7 := b_n_6.later hb
       have HB7 := Lib.hid (bthen HB6.out hb)
       clear b_a_6 b_b_6 b_r_6 b_n_6
       clear hb
       have k_a := b_a_7.cell
       have k_b := b_b_7.cell
       have k_r := b_r_7.cell
       have k_n := b_n_7.cell
       have f_r := b_r_7.free
       go_wp2_with fail
       refine bodyPost_ret (ret_tm2 rfl rfl (put4 b_r_7 HB7.out (by omega)).1 rfl) rfl ?_
       rw [HR.out]
       exact termE_int ⟨flatR_eq (rfl) (rfl), (put4 b_r_7 HB7.out (by omega)).2⟩ H64.out
   · have HV : Hid (intsV code x y = (0, e)) := Lib.hid (by rw [ints_lo (by omega), h1])
     have hqe : (e != 0) = true := by simp; omega
     have HR : Hid (res = (noT, e)) := Lib.hid (by rw [← HRES.out]; unfold binR; rw [if_neg (by rw [FA.out, FB.out]; simp; have := HC.out; omega), if_neg (by rw [HK.out]; simp)]; rcases HC.out with rfl | rfl | rfl <;> simp [h1, recT, noT])
     clear h1 he
     rcases hc with rfl | rfl | rfl
     all_goals
       have k_a := b_a_5.cell
       have k_b := b_b_5.cell
       have k_r := b_r_5.cell
       have k_n := b_n_5.cell
       go_wp2_with fail
       clear k_a k_b k_r k_n
       refine (intsq_any (by omega) q5 r5 _).mono ?_
       rintro x w6 ⟨rfl, hb⟩
       have b_a_6 := b_a_5.later hb
       have b_b_6 := b_b_5.later hb
       have b_r_6 := b_r_5.later hb
       have b_n_6 := b_n_5.later hb
       have HB6 := Lib.hid (bthen HB5.out hb)
       clear b_a_5 b_b_5 b_r_5 b_n_5
       clear hb
       rw [HV.out]
       have k_a := b_a_6.cell
       have k_b := b_b_6.cell
       have k_r := b_r_6.cell
       have k_n := b_n_6.cell
       have f_r := b_r_6.free
       go_wp2_with fail
       refine bodyPost_ret (ret_tm2 rfl rfl (put4 b_r_6 HB6.out (by omega)).1 rfl) rfl ?_
       rw [HR.out]
       exact termE_no ⟨flatR_eq (rfl) (rfl), (put4 b_r_6 HB6.out (by omega)).2⟩
 · have h256 : s.size ≤ 256 := by
     rcases kinds_con HK.out with rfl | ⟨rfl, rfl⟩
     · have := fixed_parts FA.out
       rw [if_pos rfl] at this
       have := this.2.1
       simp only at this
       omega
     · exact fixed_text FA.out
   have HR : Hid (res = (boolT (if ka = 3 then Lib.contains (bs s) (bs s') else containsS ⟨ka, x, s, l⟩ ⟨kb, y, s', l'⟩), 0)) := Lib.hid (by rw [← HRES.out]; unfold binR; rw [if_neg (by rw [FA.out, FB.out]; simp), if_neg (by rw [HK.out]; simp)]; simp)
   generalize hq : (if ka = 3 then Lib.contains (bs s) (bs s') else containsS ⟨ka, x, s, l⟩ ⟨kb, y, s', l'⟩) = bq at HR
   have HQ := Lib.hid hq
   clear hq
   have k_a := b_a_5.cell
   have k_b := b_b_5.cell
   have k_r := b_r_5.cell
   have k_n := b_n_5.cell
   go_wp2_with fail
   clear k_a k_b k_r k_n
   refine (as_bool HQ.out (containsq_any (m := m) (d := d) (d' := d) (s := ⟨ka, x, s, l⟩) (t := ⟨kb, y, s', l'⟩) (vs := [_, _, _, _]) (ws := [_, _, _, _]) (HA.out.below HB5.out hB) (HB_.out.below HB5.out hB) (Nat.le_trans hB HB5.out.size) h256 ((HB5.out.cell (p := ⟨0, 0, none⟩) h0).trans HM.out) (Nat.lt_of_lt_of_le h0 HB5.out.size))).mono ?_
   rintro x w6 ⟨rfl, hb⟩
   have b_a_6 := b_a_5.later hb
   have b_b_6 := b_b_5.later hb
   have b_r_6 := b_r_5.later hb
   have b_n_6 := b_n_5.later hb
   have HB6 := Lib.hid (bthen HB5.out hb)
   clear b_a_5 b_b_5 b_r_5 b_n_5
   clear hb
   have k_a := b_a_6.cell
   have k_b := b_b_6.cell
   have k_r := b_r_6.cell
   have k_n := b_n_6.cell
   go_wp2_with fail
   clear k_a k_b k_r k_n
   refine (truthq_any _ _).mono ?_
   rintro x w7 ⟨rfl, hb⟩
   have b_a_7 := b_a_6.later hb
   have b_b_7 := b_b_6.later hb
   have b_r_7 := b_r_6.later hb
   have b_n_7 := b_n_6.later hb
   have HB7 := Lib.hid (bthen HB6.out hb)
   clear b_a_6 b_b_6 b_r_6 b_n_6
   clear hb
   have k_a := b_a_7.cell
   have k_b := b_b_7.cell
   have k_r := b_r_7.cell
   have k_n := b_n_7.cell
   have f_r := b_r_7.free
   go_wp2_with fail
   refine bodyPost_ret (ret_tm2 rfl rfl (put4 b_r_7 HB7.out (by omega)).1 rfl) rfl ?_
   rw [HR.out]
   exact termE_bool ⟨flatR_eq (rfl) (rfl), (put4 b_r_7 HB7.out (by omega)).2⟩
 · have HR : Hid (res = (boolT (Lib.hasPrefix (bs s) (bs s')), 0)) := Lib.hid (by rw [← HRES.out]; unfold binR; rw [if_neg (by rw [FA.out, FB.out]; simp), if_neg (by rw [HK.out]; simp)]; simp)
   have k_a := b_a_5.cell
   have k_b := b_b_5.cell
   have k_r := b_r_5.cell
   have k_n := b_n_5.cell
   go_wp2_with fail
   clear k_a k_b k_r k_n
   refine (Tryz.strings_HasPrefix s s' _).mono ?_
   rintro z0 wz ⟨rfl, rfl⟩
   have k_a := b_a_5.cell
   have k_b := b_b_5.cell
   have k_r := b_r_5.cell
   have k_n := b_n_5.cell
   go_wp2_with fail
   clear k_a k_b k_r k_n
   refine (truthq_any _ _).mono ?_
   rintro x w6 ⟨rfl, hb⟩
   have b_a_6 := b_a_5.later hb
   have b_b_6 := b_b_5.later hb
   have b_r_6 := b_r_5.later hb
   have b_n_6 := b_n_5.later hb
   have HB6 := Lib.hid (bthen HB5.out hb)
   clear b_a_5 b_b_5 b_r_5 b_n_5
   clear hb
   have k_a := b_a_6.cell
   have k_b := b_b_6.cell
   have k_r := b_r_6.cell
   have k_n := b_n_6.cell
   have f_r := b_r_6.free
   go_wp2_with fail
   refine bodyPost_ret (ret_tm2 rfl rfl (put4 b_r_6 HB6.out (by omega)).1 rfl) rfl ?_
   rw [HR.out]
   exact termE_bool ⟨flatR_eq (rfl) (rfl), (put4 b_r_6 HB6.out (by omega)).2⟩
 · have HR : Hid (res = (boolT (Lib.hasSuffix (bs s) (bs s')), 0)) := Lib.hid (by rw [← HRES.out]; unfold binR; rw [if_neg (by rw [FA.out, FB.out]; simp), if_neg (by rw [HK.out]; simp)]; simp)
   have k_a := b_a_5.cell
   have k_b := b_b_5.cell
   have k_r := b_r_5.cell
   have k_n := b_n_5.cell
   go_wp2_with fail
   clear k_a k_b k_r k_n
   refine (Tryz.strings_HasSuffix s s' _ (by omega)).mono ?_
   rintro z0 wz ⟨rfl, rfl⟩
   have k_a := b_a_5.cell
   have k_b := b_b_5.cell
   have k_r := b_r_5.cell
   have k_n := b_n_5.cell
   go_wp2_with fail
   clear k_a k_b k_r k_n
   refine (truthq_any _ _).mono ?_
   rintro x w6 ⟨rfl, hb⟩
   have b_a_6 := b_a_5.later hb
   have b_b_6 := b_b_5.later hb
   have b_r_6 := b_r_5.later hb
   have b_n_6 := b_n_5.later hb
   have HB6 := Lib.hid (bthen HB5.out hb)
   clear b_a_5 b_b_5 b_r_5 b_n_5
   clear hb
   have k_a := b_a_6.cell
   have k_b := b_b_6.cell
   have k_r := b_r_6.cell
   have k_n := b_n_6.cell
   have f_r := b_r_6.free
   go_wp2_with fail
   refine bodyPost_ret (ret_tm2 rfl rfl (put4 b_r_6 HB6.out (by omega)).1 rfl) rfl ?_
   rw [HR.out]
   exact termE_bool ⟨flatR_eq (rfl) (rfl), (put4 b_r_6 HB6.out (by omega)).2⟩
 · obtain ⟨rfl, rfl⟩ := kinds_mat HK.out
   have HR : Hid (res = matchR s' s) := Lib.hid (by rw [← HRES.out]; unfold binR; rw [if_neg (by rw [FA.out, FB.out]; simp), if_neg (by rw [HK.out]; simp)]; simp)
   have k_a := b_a_5.cell
   have k_b := b_b_5.cell
   have k_r := b_r_5.cell
   have k_n := b_n_5.cell
   go_wp2_with fail
   clear k_a k_b k_r k_n
   refine (matchq_any (p := s') (t := s) (by omega) (by omega)).mono ?_
   rintro x w6 ⟨rfl, hb⟩
   have b_a_6 := b_a_5.later hb
   have b_b_6 := b_b_5.later hb
   have b_r_6 := b_r_5.later hb
   have b_n_6 := b_n_5.later hb
   have HB6 := Lib.hid (bthen HB5.out hb)
   clear b_a_5 b_b_5 b_r_5 b_n_5
   clear hb
   by_cases hz : (fitsR s' s false).2 = 0
   · have HR : Hid (res = (boolT (fitsR s' s false).1, 0)) := Lib.hid (by rw [HR.out]; unfold matchR; rw [if_neg (by simp [hz])])
     rw [hz]
     clear hz
     have k_a := b_a_6.cell
     have k_b := b_b_6.cell
     have k_r := b_r_6.cell
     have k_n := b_n_6.cell
     go_wp2_with fail
     clear k_a k_b k_r k_n
     refine (truthq_any _ _).mono ?_
     rintro x w7 ⟨rfl, hb⟩
     have b_a_7 := b_a_6.later hb
     have b_b_7 := b_b_6.later hb
     have b_r_7 := b_r_6.later hb
     have b_n_7 := b_n_6.later hb
     have HB7 := Lib.hid (bthen HB6.out hb)
     clear b_a_6 b_b_6 b_r_6 b_n_6
     clear hb
     have k_a := b_a_7.cell
     have k_b := b_b_7.cell
     have k_r := b_r_7.cell
     have k_n := b_n_7.cell
     have f_r := b_r_7.free
     go_wp2_with fail
     refine bodyPost_ret (ret_tm2 rfl rfl (put4 b_r_7 HB7.out (by omega)).1 rfl) rfl ?_
     rw [HR.out]
     exact termE_bool ⟨flatR_eq (rfl) (rfl), (put4 b_r_7 HB7.out (by omega)).2⟩
   · have HR : Hid (res = (noT, (fitsR s' s false).2)) := Lib.hid (by rw [HR.out]; unfold matchR; rw [if_pos hz])
     have hq : (((fitsR s' s false).2 : Int) != 0) = true := by simpa using hz
     clear hz
     have k_a := b_a_6.cell
     have k_b := b_b_6.cell
     have k_r := b_r_6.cell
     have k_n := b_n_6.cell
     have f_r := b_r_6.free
     go_wp2_with fail
     refine bodyPost_ret (ret_tm2 rfl rfl (put4 b_r_6 HB6.out (by omega)).1 rfl) rfl ?_
     rw [HR.out]
     exact termE_no ⟨flatR_eq (rfl) (rfl), (put4 b_r_6 HB6.out (by omega)).2⟩
 · obtain ⟨rfl, rfl⟩ := kinds_set HK.out (by omega)
   have HR : Hid (res = setsQ 15 ⟨7, x, s, l⟩ ⟨7, y, s', l'⟩) := Lib.hid (by rw [← HRES.out]; unfold binR; rw [if_neg (by rw [FA.out, FB.out]; simp), if_neg (by rw [HK.out]; simp)]; simp; rw [sets_meet (fixed_ok FA.out)])
   have hlr := b_r_5.lt
   have hwl := HB5.out.size
   have k_a := b_a_5.cell
   have k_b := b_b_5.cell
   have k_r := b_r_5.cell
   have k_n := b_n_5.cell
   go_wp2_with fail
   clear k_a k_b k_r k_n
   have hc_ := setsq_any (code := 15) (d := d) (a := ⟨7, x, s, l⟩) (b := ⟨7, y, s', l'⟩) (vs := [_, _, _, _]) (ws := [_, _, _, _]) (by omega) (HA.out.below HB5.out hB) (HB_.out.below HB5.out hB) (Nat.le_trans hB HB5.out.size) (fixed_set FA.out).1 (fixed_set FB.out).1
   rw [← HR.out] at hc_
   refine (hc_).mono ?_
   rintro x w6 ⟨⟨A4, c4, rfl, hrd⟩, hb⟩
   have b_a_6 := b_a_5.later hb
   have b_b_6 := b_b_5.later hb
   have b_r_6 := b_r_5.later hb
   have b_n_6 := b_n_5.later hb
   have HB6 := Lib.hid (bthen HB5.out hb)
   clear b_a_5 b_b_5 b_r_5 b_n_5
   clear hb
   have HRD := Lib.hid hrd
   clear hrd
   have k_a := b_a_6.cell
   have k_b := b_b_6.cell
   have k_r := b_r_6.cell
   have k_n := b_n_6.cell
   have f_r := b_r_6.free
   go_wp2_with fail
   have hbr := put4b b_r_6 (.int .i64 res.1.kind) (.int .i64 res.1.n) (.string res.1.s) (.slice A4 res.1.l.length c4)
   refine bodyPost_ret (ret_tm2 rfl rfl hbr rfl) rfl ?_
   exact ⟨⟨A4, c4, rfl, (HRD.out.put4 (by omega) _ _ _ _).lower (by omega)⟩, put4u HB6.out (by omega) _ _ _ _⟩
 · obtain ⟨rfl, rfl⟩ := kinds_set HK.out (by omega)
   have HR : Hid (res = setsQ 16 ⟨7, x, s, l⟩ ⟨7, y, s', l'⟩) := Lib.hid (by rw [← HRES.out]; unfold binR; rw [if_neg (by rw [FA.out, FB.out]; simp), if_neg (by rw [HK.out]; simp)]; simp; rw [sets_join (fixed_ok FB.out)])
   have hlr := b_r_5.lt
   have hwl := HB5.out.size
   have k_a := b_a_5.cell
   have k_b := b_b_5.cell
   have k_r := b_r_5.cell
   have k_n := b_n_5.cell
   go_wp2_with fail
   clear k_a k_b k_r k_n
   have hc_ := setsq_any (code := 16) (d := d) (a := ⟨7, x, s, l⟩) (b := ⟨7, y, s', l'⟩) (vs := [_, _, _, _]) (ws := [_, _, _, _]) (by omega) (HA.out.below HB5.out hB) (HB_.out.below HB5.out hB) (Nat.le_trans hB HB5.out.size) (fixed_set FA.out).1 (fixed_set FB.out).1
   rw [← HR.out] at hc_
   refine (hc_).mono ?_
   rintro x w6 ⟨⟨A4, c4, rfl, hrd⟩, hb⟩
   have b_a_6 := b_a_5.later hb
   have b_b_6 := b_b_5.later hb
   have b_r_6 := b_r_5.later hb
   have b_n_6 := b_n_5.later hb
   have HB6 := Lib.hid (bthen HB5.out hb)
   clear b_a_5 b_b_5 b_r_5 b_n_5
   clear hb
   have HRD := Lib.hid hrd
   clear hrd
   have k_a := b_a_6.cell
   have k_b := b_b_6.cell
   have k_r := b_r_6.cell
   have k_n := b_n_6.cell
   have f_r := b_r_6.free
   go_wp2_with fail
   have hbr := put4b b_r_6 (.int .i64 res.1.kind) (.int .i64 res.1.n) (.string res.1.s) (.slice A4 res.1.l.length c4)
   refine bodyPost_ret (ret_tm2 rfl rfl hbr rfl) rfl ?_
   exact ⟨⟨A4, c4, rfl, (HRD.out.put4 (by omega) _ _ _ _).lower (by omega)⟩, put4u HB6.out (by omega) _ _ _ _⟩
 · obtain ⟨rfl, rfl⟩ := kinds_num HK.out (by omega)
   rcases hc with rfl | rfl | rfl
   · have HV : Hid (intsV 17 x y = (bits .and .i64 x y, 0)) := Lib.hid rfl
     have HR : Hid (res = (intT (bits .and .i64 x y), 0)) := Lib.hid (by rw [← HRES.out]; unfold binR; rw [if_neg (by rw [FA.out, FB.out]; simp), if_neg (by rw [HK.out]; simp)]; simp)
     have H64 := Lib.hid (i64_and x y)
     generalize bits .and .i64 x y = vv at *
     have k_a := b_a_5.cell
     have k_b := b_b_5.cell
     have k_r := b_r_5.cell
     have k_n := b_n_5.cell
     go_wp2_with fail
     clear k_a k_b k_r k_n
     refine (intsq_any (by omega) q5 r5 _).mono ?_
     rintro x w6 ⟨rfl, hb⟩
     have b_a_6 := b_a_5.later hb
     have b_b_6 := b_b_5.later hb
     have b_r_6 := b_r_5.later hb
     have b_n_6 := b_n_5.later hb
     have HB6 := Lib.hid (bthen HB5.out hb)
     clear b_a_5 b_b_5 b_r_5 b_n_5
     clear hb
     rw [HV.out]
     have k_a := b_a_6.cell
     have k_b := b_b_6.cell
     have k_r := b_r_6.cell
     have k_n := b_n_6.cell
     go_wp2_with fail
     clear k_a k_b k_r k_n
     refine (numberq_any _ _).mono ?_
     rintro x w7 ⟨rfl, hb⟩
     have b_a_7 := b_a_6.later hb
     have b_b_7 := b_b_6.later hb
     have b_r_7 := b_r_6.later hb
     have b_n_7 := b_n_6.later hb
     have HB7 := Lib.hid (bthen HB6.out hb)
     clear b_a_6 b_b_6 b_r_6 b_n_6
     clear hb
     have k_a := b_a_7.cell
     have k_b := b_b_7.cell
     have k_r := b_r_7.cell
     have k_n := b_n_7.cell
     have f_r := b_r_7.free
     go_wp2_with fail
     refine bodyPost_ret (ret_tm2 rfl rfl (put4 b_r_7 HB7.out (by omega)).1 rfl) rfl ?_
     rw [HR.out]
     exact termE_int ⟨flatR_eq (rfl) (rfl), (put4 b_r_7 HB7.out (by omega)).2⟩ H64.out
   · have HV : Hid (intsV 18 x y = (bits .or .i64 x y, 0)) := Lib.hid rfl
     have HR : Hid (res = (intT (bits .or .i64 x y), 0)) := Lib.hid (by rw [← HRES.out]; unfold binR; rw [if_neg (by rw [FA.out, FB.out]; simp), if_neg (by rw [HK.out]; simp)]; simp)
     have H64 := Lib.hid (i64_or x y)
     generalize bits .or .i64 x y = vv at *
     have k_a := b_a_5.cell
     have k_b := b_b_5.cell
     have k_r := b_r_5.cell
     have k_n := b_n_5.cell
     go_wp2_with fail
     clear k_a k_b k_r k_n
     refine (intsq_any (by omega) q5 r5 _).mono ?_
     rintro x w6 ⟨rfl, hb⟩
     have b_a_6 := b_a_5.later hb
     have b_b_6 := b_b_5.later hb
     have b_r_6 := b_r_5.later hb
     have b_n_6 := b_n_5.later hb
     have HB6 := Lib.hid (bthen HB5.out hb)
     clear b_a_5 b_b_5 b_r_5 b_n_5
     clear hb
     rw [HV.out]
     have k_a := b_a_6.cell
     have k_b := b_b_6.cell
     have k_r := b_r_6.cell
     have k_n := b_n_6.cell
     go_wp2_with fail
     clear k_a k_b k_r k_n
     refine (numberq_any _ _).mono ?_
     rintro x w7 ⟨rfl, hb⟩
     have b_a_7 := b_a_6.later hb
     have b_b_7 := b_b_6.later hb
     have b_r_7 := b_r_6.later hb
     have b_n_7 := b_n_6.later hb
     have HB7 := Lib.hid (bthen HB6.out hb)
     clear b_a_6 b_b_6 b_r_6 b_n_6
     clear hb
     have k_a := b_a_7.cell
     have k_b := b_b_7.cell
     have k_r := b_r_7.cell
     have k_n := b_n_7.cell
     have f_r := b_r_7.free
     go_wp2_with fail
     refine bodyPost_ret (ret_tm2 rfl rfl (put4 b_r_7 HB7.out (by omega)).1 rfl) rfl ?_
     rw [HR.out]
     exact termE_int ⟨flatR_eq (rfl) (rfl), (put4 b_r_7 HB7.out (by omega)).2⟩ H64.out
   · have HV : Hid (intsV 19 x y = (bits .xor .i64 x y, 0)) := Lib.hid rfl
     have HR : Hid (res = (intT (bits .xor .i64 x y), 0)) := Lib.hid (by rw [← HRES.out]; unfold binR; rw [if_neg (by rw [FA.out, FB.out]; simp), if_neg (by rw [HK.out]; simp)]; simp)
     have H64 := Lib.hid (i64_xor x y)
     generalize bits .xor .i64 x y = vv at *
     have k_a := b_a_5.cell
     have k_b := b_b_5.cell
     have k_r := b_r_5.cell
     have k_n := b_n_5.cell
     go_wp2_with fail
     clear k_a k_b k_r k_n
     refine (intsq_any (by omega) q5 r5 _).mono ?_
     rintro x w6 ⟨rfl, hb⟩
     have b_a_6 := b_a_5.later hb
     have b_b_6 := b_b_5.later hb
     have b_r_6 := b_r_5.later hb
     have b_n_6 := b_n_5.later hb
     have HB6 := Lib.hid (bthen HB5.out hb)
     clear b_a_5 b_b_5 b_r_5 b_n_5
     clear hb
     rw [HV.out]
     have k_a := b_a_6.cell
     have k_b := b_b_6.cell
     have k_r := b_r_6.cell
     have k_n := b_n_6.cell
     go_wp2_with fail
     clear k_a k_b k_r k_n
     refine (numberq_any _ _).mono ?_
     rintro x w7 ⟨rfl, hb⟩
     have b_a_7 := b_a_6.later hb
     have b_b_7 := b_b_6.later hb
     have b_r_7 := b_r_6.later hb
     have b_n_7 := b_n_6.later hb
     have HB7 := Lib.hid (bthen HB6.out hb)
     clear b_a_6 b_b_6 b_r_6 b_n_6
     clear hb
     have k_a := b_a_7.cell
     have k_b := b_b_7.cell
     have k_r := b_r_7.cell
     have k_n := b_n_7.cell
     have f_r := b_r_7.free
     go_wp2_with fail
     refine bodyPost_ret (ret_tm2 rfl rfl (put4 b_r_7 HB7.out (by omega)).1 rfl) rfl ?_
     rw [HR.out]
     exact termE_int ⟨flatR_eq (rfl) (rfl), (put4 b_r_7 HB7.out (by omega)).2⟩ H64.out
set_option maxRecDepth 100000 in
set_option maxHeartbeats 4000000 in
theorem binq_err {code : Int} {a b : Tm} {d B : Nat} {vs ws : List Value} {w : World} {e : Int} (ha : RTm w B (d + 1) a vs) (hb : RTm w B (d + 1) b ws) (hB : B ≤ w.heap.size) (h : (e = 1 ∧ (fixedB a = false ∨ fixedB b = false ∨ code < 1 ∨ 19 < code)) ∨ (e = 7 ∧ fixedB a = true ∧ fixedB b = true ∧ 1 ≤ code ∧ code ≤ 19 ∧ kindsB code a.kind b.kind = false)) :
   Calls Tryz.prog 16 #[.int .i64 code, .agg vs.toArray, .agg ws.toArray] w fun z w' => z = flatR 0 0 emp e ∧ Below w.heap.size w w' := by
 obtain ⟨A, c, rfl, q1, q2, q3, q4, q5, _⟩ := ha.cells
 obtain ⟨A', c', rfl, r1, r2, r3, r4, r5, _⟩ := hb.cells
 have HA := Lib.hid ha
 have HB_ := Lib.hid hb
 clear ha hb
 have hcs : (e = 1 ∧ fixedB a = false) ∨ (e = 1 ∧ fixedB a = true ∧ fixedB b = false) ∨ (e = 1 ∧ fixedB a = true ∧ fixedB b = true ∧ code < 1) ∨ (e = 1 ∧ fixedB a = true ∧ fixedB b = true ∧ 19 < code ∧ 1 ≤ code) ∨ (e = 7 ∧ fixedB a = true ∧ fixedB b = true ∧ 1 ≤ code ∧ code ≤ 19 ∧ kindsB code a.kind b.kind = false) := by
   rcases h with ⟨rfl, h⟩ | ⟨rfl, h1, h2, h3, h4, h5⟩
   · cases hfa : fixedB a
     · exact .inl ⟨rfl, rfl⟩
     · cases hfb : fixedB b
       · exact .inr (.inl ⟨rfl, rfl, rfl⟩)
       · by_cases hc : code < 1
         · exact .inr (.inr (.inl ⟨rfl, rfl, rfl, hc⟩))
         · exact .inr (.inr (.inr (.inl ⟨rfl, rfl, rfl, by simpa [hc, hfa, hfb] using h, by omega⟩)))
   · exact .inr (.inr (.inr (.inr ⟨rfl, h1, h2, h3, h4, h5⟩)))
 clear h
 rcases hcs with ⟨rfl, fa⟩ | ⟨rfl, fa, fb⟩ | ⟨rfl, fa, fb, hc⟩ | ⟨rfl, fa, fb, hc, h1⟩ | ⟨rfl, fa, fb, h1, h2, hk⟩
 · have FA := Lib.hid fa
   clear fa
   go_enter Tryz.func16, Tryz.ntmps16
   go_wp2_with fail
   generalize hW : World.alloc _ _ = w1
   obtain ⟨hb, hz⟩ := al4 hW
   have b_a_1 := n41 hW
   have b_b_1 := n42 hW
   have b_r_1 := n43 hW
   have b_n_1 := n44 hW
   have HB1 := Lib.hid hb
   clear hW hz hb
   refine (refFixed_any (t := a) (vs := [_, _, _, _]) (HA.out.below HB1.out hB) (Nat.le_trans hB HB1.out.size)).mono ?_
   rintro x w2 ⟨rfl, hb⟩
   have b_a_2 := b_a_1.later hb
   have b_b_2 := b_b_1.later hb
   have b_r_2 := b_r_1.later hb
   have b_n_2 := b_n_1.later hb
   have HB2 := Lib.hid (bthen HB1.out hb)
   clear b_a_1 b_b_1 b_r_1 b_n_1
   clear hb
   rw [FA.out]
   have k_a := b_a_2.cell
   have k_b := b_b_2.cell
   have k_r := b_r_2.cell
   have k_n := b_n_2.cell
   have f_r := b_r_2.free
   go_wp2_with fail
   refine bodyPost_ret (ret_tm2 rfl rfl (put4 b_r_2 HB2.out (by omega)).1 rfl) rfl ?_
   exact ⟨rfl, (put4 b_r_2 HB2.out (by omega)).2⟩
 · have FA := Lib.hid fa
   clear fa
   have FB := Lib.hid fb
   clear fb
   go_enter Tryz.func16, Tryz.ntmps16
   go_wp2_with fail
   generalize hW : World.alloc _ _ = w1
   obtain ⟨hb, hz⟩ := al4 hW
   have b_a_1 := n41 hW
   have b_b_1 := n42 hW
   have b_r_1 := n43 hW
   have b_n_1 := n44 hW
   have HB1 := Lib.hid hb
   clear hW hz hb
   refine (refFixed_any (t := a) (vs := [_, _, _, _]) (HA.out.below HB1.out hB) (Nat.le_trans hB HB1.out.size)).mono ?_
   rintro x w2 ⟨rfl, hb⟩
   have b_a_2 := b_a_1.later hb
   have b_b_2 := b_b_1.later hb
   have b_r_2 := b_r_1.later hb
   have b_n_2 := b_n_1.later hb
   have HB2 := Lib.hid (bthen HB1.out hb)
   clear b_a_1 b_b_1 b_r_1 b_n_1
   clear hb
   rw [FA.out]
   have k_a := b_a_2.cell
   have k_b := b_b_2.cell
   have k_r := b_r_2.cell
   have k_n := b_n_2.cell
   go_wp2_with fail
   clear k_a k_b k_r k_n
   refine (refFixed_any (t := b) (vs := [_, _, _, _]) (HB_.out.below HB2.out hB) (Nat.le_trans hB HB2.out.size)).mono ?_
   rintro x w3 ⟨rfl, hb⟩
   have b_a_3 := b_a_2.later hb
   have b_b_3 := b_b_2.later hb
   have b_r_3 := b_r_2.later hb
   have b_n_3 := b_n_2.later hb
   have HB3 := Lib.hid (bthen HB2.out hb)
   clear b_a_2 b_b_2 b_r_2 b_n_2
   clear hb
   rw [FB.out]
   have k_a := b_a_3.cell
   have k_b := b_b_3.cell
   have k_r := b_r_3.cell
   have k_n := b_n_3.cell
   have f_r := b_r_3.free
   go_wp2_with fail
   refine bodyPost_ret (ret_tm2 rfl rfl (put4 b_r_3 HB3.out (by omega)).1 rfl) rfl ?_
   exact ⟨rfl, (put4 b_r_3 HB3.out (by omega)).2⟩
 · have FA := Lib.hid fa
   clear fa
   have FB := Lib.hid fb
   clear fb
   have hq0 : decide (code < 1) = true := by simp; omega
   go_enter Tryz.func16, Tryz.ntmps16
   go_wp2_with fail
   generalize hW : World.alloc _ _ = w1
   obtain ⟨hb, hz⟩ := al4 hW
   have b_a_1 := n41 hW
   have b_b_1 := n42 hW
   have b_r_1 := n43 hW
   have b_n_1 := n44 hW
   have HB1 := Lib.hid hb
   clear hW hz hb
   refine (refFixed_any (t := a) (vs := [_, _, _, _]) (HA.out.below HB1.out hB) (Nat.le_trans hB HB1.out.size)).mono ?_
   rintro x w2 ⟨rfl, hb⟩
   have b_a_2 := b_a_1.later hb
   have b_b_2 := b_b_1.later hb
   have b_r_2 := b_r_1.later hb
   have b_n_2 := b_n_1.later hb
   have HB2 := Lib.hid (bthen HB1.out hb)
   clear b_a_1 b_b_1 b_r_1 b_n_1
   clear hb
   rw [FA.out]
   have k_a := b_a_2.cell
   have k_b := b_b_2.cell
   have k_r := b_r_2.cell
   have k_n := b_n_2.cell
   go_wp2_with fail
   clear k_a k_b k_r k_n
   refine (refFixed_any (t := b) (vs := [_, _, _, _]) (HB_.out.below HB2.out hB) (Nat.le_trans hB HB2.out.size)).mono ?_
   rintro x w3 ⟨rfl, hb⟩
   have b_a_3 := b_a_2.later hb
   have b_b_3 := b_b_2.later hb
   have b_r_3 := b_r_2.later hb
   have b_n_3 := b_n_2.later hb
   have HB3 := Lib.hid (bthen HB2.out hb)
   clear b_a_2 b_b_2 b_r_2 b_n_2
   clear hb
   rw [FB.out]
   have k_a := b_a_3.cell
   have k_b := b_b_3.cell
   have k_r := b_r_3.cell
   have k_n := b_n_3.cell
   have f_r := b_r_3.free
   go_wp2_with fail
   refine bodyPost_ret (ret_tm2 rfl rfl (put4 b_r_3 HB3.out (by omega)).1 rfl) rfl ?_
   exact ⟨rfl, (put4 b_r_3 HB3.out (by omega)).2⟩
 · have FA := Lib.hid fa
   clear fa
   have FB := Lib.hid fb
   clear fb
   have hq0 : decide (code < 1) = false := by simp; omega
   have hq1 : decide (19 < code) = true := by simp; omega
   go_enter Tryz.func16, Tryz.ntmps16
   go_wp2_with fail
   generalize hW : World.alloc _ _ = w1
   obtain ⟨hb, hz⟩ := al4 hW
   have b_a_1 := n41 hW
   have b_b_1 := n42 hW
   have b_r_1 := n43 hW
   have b_n_1 := n44 hW
   have HB1 := Lib.hid hb
   clear hW hz hb
   refine (refFixed_any (t := a) (vs := [_, _, _, _]) (HA.out.below HB1.out hB) (Nat.le_trans hB HB1.out.size)).mono ?_
   rintro x w2 ⟨rfl, hb⟩
   have b_a_2 := b_a_1.later hb
   have b_b_2 := b_b_1.later hb
   have b_r_2 := b_r_1.later hb
   have b_n_2 := b_n_1.later hb
   have HB2 := Lib.hid (bthen HB1.out hb)
   clear b_a_1 b_b_1 b_r_1 b_n_1
   clear hb
   rw [FA.out]
   have k_a := b_a_2.cell
   have k_b := b_b_2.cell
   have k_r := b_r_2.cell
   have k_n := b_n_2.cell
   go_wp2_with fail
   clear k_a k_b k_r k_n
   refine (refFixed_any (t := b) (vs := [_, _, _, _]) (HB_.out.below HB2.out hB) (Nat.le_trans hB HB2.out.size)).mono ?_
   rintro x w3 ⟨rfl, hb⟩
   have b_a_3 := b_a_2.later hb
   have b_b_3 := b_b_2.later hb
   have b_r_3 := b_r_2.later hb
   have b_n_3 := b_n_2.later hb
   have HB3 := Lib.hid (bthen HB2.out hb)
   clear b_a_2 b_b_2 b_r_2 b_n_2
   clear hb
   rw [FB.out]
   have k_a := b_a_3.cell
   have k_b := b_b_3.cell
   have k_r := b_r_3.cell
   have k_n := b_n_3.cell
   have f_r := b_r_3.free
   go_wp2_with fail
   refine bodyPost_ret (ret_tm2 rfl rfl (put4 b_r_3 HB3.out (by omega)).1 rfl) rfl ?_
   exact ⟨rfl, (put4 b_r_3 HB3.out (by omega)).2⟩
 · have FA := Lib.hid fa
   clear fa
   have FB := Lib.hid fb
   clear fb
   have hq0 : decide (code < 1) = false := by simp; omega
   have hq1 : decide (19 < code) = false := by simp; omega
   have HK := Lib.hid hk
   clear hk
   go_enter Tryz.func16, Tryz.ntmps16
   go_wp2_with fail
   generalize hW : World.alloc _ _ = w1
   obtain ⟨hb, hz⟩ := al4 hW
   have b_a_1 := n41 hW
   have b_b_1 := n42 hW
   have b_r_1 := n43 hW
   have b_n_1 := n44 hW
   have HB1 := Lib.hid hb
   clear hW hz hb
   refine (refFixed_any (t := a) (vs := [_, _, _, _]) (HA.out.below HB1.out hB) (Nat.le_trans hB HB1.out.size)).mono ?_
   rintro x w2 ⟨rfl, hb⟩
   have b_a_2 := b_a_1.later hb
   have b_b_2 := b_b_1.later hb
   have b_r_2 := b_r_1.later hb
   have b_n_2 := b_n_1.later hb
   have HB2 := Lib.hid (bthen HB1.out hb)
   clear b_a_1 b_b_1 b_r_1 b_n_1
   clear hb
   rw [FA.out]
   have k_a := b_a_2.cell
   have k_b := b_b_2.cell
   have k_r := b_r_2.cell
   have k_n := b_n_2.cell
   go_wp2_with fail
   clear k_a k_b k_r k_n
   refine (refFixed_any (t := b) (vs := [_, _, _, _]) (HB_.out.below HB2.out hB) (Nat.le_trans hB HB2.out.size)).mono ?_
   rintro x w3 ⟨rfl, hb⟩
   have b_a_3 := b_a_2.later hb
   have b_b_3 := b_b_2.later hb
   have b_r_3 := b_r_2.later hb
   have b_n_3 := b_n_2.later hb
   have HB3 := Lib.hid (bthen HB2.out hb)
   clear b_a_2 b_b_2 b_r_2 b_n_2
   clear hb
   rw [FB.out]
   have k_a := b_a_3.cell
   have k_b := b_b_3.cell
   have k_r := b_r_3.cell
   have k_n := b_n_3.cell
   go_wp2_with fail
   clear k_a k_b k_r k_n
   refine (kindsq_any code a.kind b.kind _).mono ?_
   rintro x w4 ⟨rfl, hb⟩
   have b_a_4 := b_a_3.later hb
   have b_b_4 := b_b_3.later hb
   have b_r_4 := b_r_3.later hb
   have b_n_4 := b_n_3.later hb
   have HB4 := Lib.hid (bthen HB3.out hb)
   clear b_a_3 b_b_3 b_r_3 b_n_3
   clear hb
   rw [HK.out]
   have k_a := b_a_4.cell
   have k_b := b_b_4.cell
   have k_r := b_r_4.cell
   have k_n := b_n_4.cell
   have f_r := b_r_4.free
   go_wp2_with fail
   refine bodyPost_ret (ret_tm2 rfl rfl (put4 b_r_4 HB4.out (by omega)).1 rfl) rfl ?_
   exact ⟨rfl, (put4 b_r_4 HB4.out (by omega)).2⟩
theorem binaryq_any {code : Int} {a b : Tm} {d B : Nat} {vs ws : List Value} {w : World} {m : Int} (ha : RTm w B (d + 1) a vs) (hb : RTm w B (d + 1) b ws) (hB : B ≤ w.heap.size) (hm : w.cell? ⟨0, 0, none⟩ = some (.int .i64 m)) (h0 : 0 < w.heap.size) :
   Calls Tryz.prog 16 #[.int .i64 code, .agg vs.toArray, .agg ws.toArray] w fun z w' => TermE d w w' (binR code a b) z := by
 by_cases h1 : fixedB a = false ∨ fixedB b = false ∨ code < 1 ∨ 19 < code
 · have hr : binR code a b = (noT, 1) := by unfold binR; rw [if_pos h1]
   rw [hr]
   exact (binq_err ha hb hB (.inl ⟨rfl, h1⟩)).mono fun _ _ h => termE_no h
 · have h2 : fixedB a = true ∧ fixedB b = true ∧ 1 ≤ code ∧ code ≤ 19 := by
     cases hfa : fixedB a <;> cases hfb : fixedB b <;> simp [hfa, hfb] at h1 ⊢ <;> omega
   rcases Bool.eq_false_or_eq_true (kindsB code a.kind b.kind) with hk | hk
   · exact binq_ok ha hb hB hm h0 h2.1 h2.2.1 h2.2.2.1 h2.2.2.2 hk
   · have hr : binR code a b = (noT, 7) := by unfold binR; rw [if_neg h1, if_pos hk]
     rw [hr]
     exact (binq_err ha hb hB (.inr ⟨rfl, h2.1, h2.2.1, h2.2.2.1, h2.2.2.2, hk⟩)).mono fun _ _ h => termE_no h
end Go.Proofs.YtiplipdigabidaaGreat
