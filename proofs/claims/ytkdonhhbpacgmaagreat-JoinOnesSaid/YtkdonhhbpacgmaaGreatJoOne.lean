/- join.One, join.Fill. -/
import Derived.Test.YtkdonhhbpacgmaaGreatJoFits
set_option linter.unusedVariables false
set_option linter.unusedSimpArgs false
namespace Go.Proofs.YtkdonhhbpacgmaaGreat
open Go.ChangeShapes Go.WideShapes Go.ChangeAt Go.RowKit
set_option maxRecDepth 100000 in
set_option maxHeartbeats 4000000 in
theorem one_any {d B cn ct : Nat} {p f : Pr} {b : Bd} {vp vf : List Value} {An At : Option Addr} {w : World} (hp : (PrR (d + 1)).rd w B p vp) (hf : (PrR (d + 1)).rd w B f vf) (hn : RL StrR w B (b.names.map mkS) An) (ht : RL (TmR (d + 1)) w B b.terms At) (hB : B ≤ w.heap.size) :
   Calls Tryz.prog 8 #[.agg vp.toArray, .agg vf.toArray, .agg (bdV An b.names.length cn At b.terms.length ct)] w fun z w' => BindE d w w' (oneR p f b) z := by
 have HP := Lib.hid hp
 have HF := Lib.hid hf
 have HN := Lib.hid hn
 have HT := Lib.hid ht
 obtain ⟨_, rfl, _, Ap, cp, rfl, _⟩ := hp
 obtain ⟨_, rfl, _, Af, cf, rfl, _⟩ := hf
 clear hn ht
 unfold bdV
 go_enter Tryz.func8, Tryz.ntmps8
 go_wp2_with fail
 generalize hW : World.alloc _ _ = w1
 obtain ⟨hb, hz⟩ := al4 hW
 have b_p_1 := n41 hW
 have b_f_1 := n42 hW
 have b_b_1 := n43 hW
 have b_r_1 := n44 hW
 have HB1 := Lib.hid hb
 clear hW hz hb
 refine (mayPred_any (d := d + 1) (vs := [_, _]) ((PrR (d + 1)).keep HB1.out hB HP.out) (Nat.le_trans hB HB1.out.size)).mono ?_
 rintro x w2 ⟨rfl, hb⟩
 have b_p_2 := b_p_1.later hb
 have b_f_2 := b_f_1.later hb
 have b_b_2 := b_b_1.later hb
 have b_r_2 := b_r_1.later hb
 have HB2 := Lib.hid (bthen HB1.out hb)
 clear b_p_1 b_f_1 b_b_1 b_r_1
 clear hb
 by_cases h1 : mayPredB p = true
 · have H1 := Lib.hid h1
   rw [h1]
   clear h1
   have k_p := b_p_2.cell
   have l_p := b_p_2.lt
   have k_f := b_f_2.cell
   have l_f := b_f_2.lt
   have k_b := b_b_2.cell
   have l_b := b_b_2.lt
   have k_r := b_r_2.cell
   have l_r := b_r_2.lt
   go_wp2_with fail
   clear k_p l_p k_f l_f k_b l_b k_r l_r
   refine (mayFact_any (d := d + 1) (vs := [_, _]) ((PrR (d + 1)).keep HB2.out hB HF.out) (Nat.le_trans hB HB2.out.size)).mono ?_
   rintro x w3 ⟨rfl, hb⟩
   have b_p_3 := b_p_2.later hb
   have b_f_3 := b_f_2.later hb
   have b_b_3 := b_b_2.later hb
   have b_r_3 := b_r_2.later hb
   have HB3 := Lib.hid (bthen HB2.out hb)
   clear b_p_2 b_f_2 b_b_2 b_r_2
   clear hb
   by_cases h2 : mayFactB f = true
   · have H2 := Lib.hid h2
     rw [h2]
     clear h2
     have k_p := b_p_3.cell
     have l_p := b_p_3.lt
     have k_f := b_f_3.cell
     have l_f := b_f_3.lt
     have k_b := b_b_3.cell
     have l_b := b_b_3.lt
     have k_r := b_r_3.cell
     have l_r := b_r_3.lt
     go_wp2_with fail
     clear k_p l_p k_f l_f k_b l_b k_r l_r
     refine (maybind_any (d := d) (cn := cn) (ct := ct) (HN.out.keep HB3.out hB) (HT.out.keep HB3.out hB) (Nat.le_trans hB HB3.out.size)).mono ?_
     rintro x w4 ⟨rfl, hb⟩
     have b_p_4 := b_p_3.later hb
     have b_f_4 := b_f_3.later hb
     have b_b_4 := b_b_3.later hb
     have b_r_4 := b_r_3.later hb
     have HB4 := Lib.hid (bthen HB3.out hb)
     clear b_p_3 b_f_3 b_b_3 b_r_3
     clear hb
     by_cases h3 : bindB b = true
     · have H3 := Lib.hid h3
       rw [h3]
       clear h3
       have k_p := b_p_4.cell
       have l_p := b_p_4.lt
       have k_f := b_f_4.cell
       have l_f := b_f_4.lt
       have k_b := b_b_4.cell
       have l_b := b_b_4.lt
       have k_r := b_r_4.cell
       have l_r := b_r_4.lt
       go_wp2_with fail
       clear k_p l_p k_f l_f k_b l_b k_r l_r
       have HYES : Hid (oneR p f b = fitPR p f b) := Lib.hid (by unfold oneR; rw [if_pos ⟨H1.out, H2.out, H3.out⟩])
       refine (fits_any (d := d) (cn := cn) (ct := ct) (vp := [_, _]) (vf := [_, _]) ((PrR (d + 1)).keep HB4.out hB HP.out) ((PrR (d + 1)).keep HB4.out hB HF.out) (HN.out.keep HB4.out hB) (HT.out.keep HB4.out hB) H1.out H2.out H3.out (Nat.le_trans hB HB4.out.size)).mono ?_
       rintro z w5 ⟨⟨An2, cn2, At2, ct2, xs, rfl, hq⟩, hb⟩
       have HQ := Lib.hid hq
       have b_R := Lib.hid (b_r_4.later hb)
       have HB_ : Hid (Below w.heap.size w w5) := Lib.hid (HB4.out.trans (hb.mono HB4.out.size))
       have hlr := b_r_4.lt
       clear hq hb
       have k_r := b_R.out.cell
       have f_r := b_R.out.free
       have l_r := b_R.out.lt
       go_wp2_with fail
       refine bodyPost_ret (ret_bd2 rfl rfl (put2b b_R.out (.slice An2 ((fitPR p f b).getD noBd).names.length cn2) (.slice At2 ((fitPR p f b).getD noBd).terms.length ct2)) rfl) rfl ?_
       rw [HYES.out]
       exact ⟨⟨An2, cn2, At2, ct2, xs, rfl, ((HQ.out.under (by omega) 0 _).under (by omega) 1 _).lower (by omega)⟩, put2u HB_.out (by omega) _ _⟩
     · simp only [Bool.not_eq_true] at h3
       rw [h3]
       have HNO : Hid (oneR p f b = none) := Lib.hid (by unfold oneR; rw [if_neg]; rintro ⟨q1, q2, q3⟩; simp [h3] at *)
       have k_p := b_p_4.cell
       have l_p := b_p_4.lt
       have k_f := b_f_4.cell
       have l_f := b_f_4.lt
       have k_b := b_b_4.cell
       have l_b := b_b_4.lt
       have k_r := b_r_4.cell
       have l_r := b_r_4.lt
       have f_r := b_r_4.free
       have b_R := Lib.hid b_r_4
       go_wp2_with fail
       refine bodyPost_ret (ret_bd2 rfl rfl (put2b b_R.out (.slice none 0 0) (.slice none 0 0)) rfl) rfl ?_
       rw [HNO.out]
       exact BindE.no (put2u HB4.out (by omega) _ _)
   · simp only [Bool.not_eq_true] at h2
     rw [h2]
     have HNO : Hid (oneR p f b = none) := Lib.hid (by unfold oneR; rw [if_neg]; rintro ⟨q1, q2, q3⟩; simp [h2] at *)
     have k_p := b_p_3.cell
     have l_p := b_p_3.lt
     have k_f := b_f_3.cell
     have l_f := b_f_3.lt
     have k_b := b_b_3.cell
     have l_b := b_b_3.lt
     have k_r := b_r_3.cell
     have l_r := b_r_3.lt
     have f_r := b_r_3.free
     have b_R := Lib.hid b_r_3
     go_wp2_with fail
     refine bodyPost_ret (ret_bd2 rfl rfl (put2b b_R.out (.slice none 0 0) (.slice none 0 0)) rfl) rfl ?_
     rw [HNO.out]
     exact BindE.no (put2u HB3.out (by omega) _ _)
 · simp only [Bool.not_eq_true] at h1
   rw [h1]
   have HNO : Hid (oneR p f b = none) := Lib.hid (by unfold oneR; rw [if_neg]; rintro ⟨q1, q2, q3⟩; simp [h1] at *)
   have k_p := b_p_2.cell
   have l_p := b_p_2.lt
   have k_f := b_f_2.cell
   have l_f := b_f_2.lt
   have k_b := b_b_2.cell
   have l_b := b_b_2.lt
   have k_r := b_r_2.cell
   have l_r := b_r_2.lt
   have f_r := b_r_2.free
   have b_R := Lib.hid b_r_2
   go_wp2_with fail
   refine bodyPost_ret (ret_bd2 rfl rfl (put2b b_R.out (.slice none 0 0) (.slice none 0 0)) rfl) rfl ?_
   rw [HNO.out]
   exact BindE.no (put2u HB2.out (by omega) _ _)
end Go.Proofs.YtkdonhhbpacgmaaGreat
