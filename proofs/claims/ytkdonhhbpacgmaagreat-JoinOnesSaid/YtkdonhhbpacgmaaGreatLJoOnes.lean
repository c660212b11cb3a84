/- viaticumlaw19.JoinOnes. -/
import Derived.Test.YtkdonhhbpacgmaaGreatJoROne
import Derived.Test.YtkdonhhbpacgmaaGreatJoRFill
import Derived.Test.YtkdonhhbpacgmaaGreatJoSame
import Derived.Test.YtkdonhhbpacgmaaGreatJoLight
set_option linter.unusedVariables false
set_option linter.unusedSimpArgs false
namespace Go.Proofs.YtkdonhhbpacgmaaGreat
open Go.ChangeShapes Go.WideShapes Go.ChangeAt Go.RowKit
theorem rsl_nilO {α : Type} {R : Reader α} (w : World) (B : Nat) : RSl R w B [] (.slice none 0 0) := ⟨none, 0, rfl, by simp, by simp, fun h => absurd h (by simp)⟩
theorem ru_of_prO {d B : Nat} {w : World} {p : Pr} {A : Option Addr} {c : Nat} (h : (PrR d).rd w B p [.string p.name, .slice A p.terms.length c]) : (RuR d).rd w B ⟨p, [], [], []⟩ [.string p.name, .slice A p.terms.length c, .slice none 0 0, .slice none 0 0, .slice none 0 0] := by
 obtain ⟨v, e, h1, h2⟩ := h
 simp only [List.cons.injEq, and_true, true_and] at e
 subst e
 exact ⟨_, _, _, _, rfl, h1, h2, rsl_nilO _ _, rsl_nilO _ _, rsl_nilO _ _⟩
theorem same_bd (c : Bd) : sameBdB c c = true := by unfold sameBdB; rw [eqL_refl cmpT_self0]; simp
theorem same_pr (c : Pr) : samePB c c = true := by unfold samePB; rw [eqL_refl cmpT_self0]; simp
theorem one_len (p f : Pr) (b : Bd) : ((oneR p f b).getD noBd).names.length ≤ 32 ∧ ((oneR p f b).getD noBd).terms.length ≤ 32 := by
 rcases h : oneR p f b with _ | c
 · exact ⟨by simp [noBd], by simp [noBd]⟩
 · have h1 := bindB_iff.1 (one_law h).1
   simp only [Option.getD_some]
   exact ⟨h1.2, by rw [← h1.1.len]; exact h1.2⟩
theorem fillL_len {b : Bd} : ∀ {xs zs : List Tm}, fillL b xs = some zs → zs.length = xs.length
 | [], zs, h => by simp only [fillL, Option.some.injEq] at h; subst h; rfl
 | x :: xs, zs, h => by
   unfold fillL at h
   split at h
   · split at h
     · rename_i us hus
       simp only [Option.some.injEq] at h
       subst h
       simp [fillL_len hus]
     · cases h
   · cases h
theorem fill_len {p : Pr} {b : Bd} (hs : p.name.size ≤ 140737488351232) : ((fillR p b).getD noPr).terms.length ≤ 8 ∧ ((fillR p b).getD noPr).name.size ≤ 140737488351232 := by
 unfold fillR
 split
 · rename_i h
   split
   · rename_i zs hz
     simp only [Option.getD_some]
     exact ⟨by rw [fillL_len hz]; exact (may_terms h.1).1, hs⟩
   · exact ⟨by simp [noPr], by decide⟩
 · exact ⟨by simp [noPr], by decide⟩
set_option maxRecDepth 100000 in
set_option maxHeartbeats 8000000 in
theorem joinOnes_of {d B cn ct : Nat} {p f : Pr} {b : Bd} {vp vf : List Value} {An At : Option Addr} {w : World} (HAW : ∀ w1 : World, Below w.heap.size w w1 → Calls Tryz.prog 7 #[] w1 fun z w' => z = .returned (.bool true) ∧ Below w1.heap.size w1 w')
   (hp : (PrR (d + 1)).rd w B p vp) (hf : (PrR (d + 1)).rd w B f vf) (hn : RL StrR w B (b.names.map mkS) An) (ht : RL (TmR (d + 1)) w B b.terms At) (hn1 : b.names.length * 8 ≤ 140737488351232) (ht1 : b.terms.length * 32 ≤ 140737488351232) (hB : B ≤ w.heap.size) :
   Calls Tryz.prog 3 #[.agg vp.toArray, .agg vf.toArray, .agg (bdV An b.names.length cn At b.terms.length ct)] w fun z w' => z = .returned (.bool true) ∧ Below w.heap.size w w' := by
 have HAWH := Lib.hid HAW
 clear HAW
 have HP := Lib.hid hp
 have HF := Lib.hid hf
 have HN := Lib.hid hn
 have HT := Lib.hid ht
 have HN1 := Lib.hid hn1
 have HT1 := Lib.hid ht1
 obtain ⟨_, rfl, hps, Ap, cp, rfl, _⟩ := hp
 obtain ⟨_, rfl, _, Af, cf, rfl, _⟩ := hf
 have HRP := Lib.hid (ru_of_prO HP.out)
 have HRF := Lib.hid (ru_of_prO HF.out)
 have hl1 := one_len p f b
 have hl2 := fill_len (b := b) hps
 obtain ⟨c, hc⟩ : ∃ c, (oneR p f b).getD noBd = c := ⟨_, rfl⟩
 obtain ⟨q, hq1⟩ : ∃ q, (oneR p f b).isSome = q := ⟨_, rfl⟩
 obtain ⟨g, hg⟩ : ∃ g, (fillR p b).getD noPr = g := ⟨_, rfl⟩
 obtain ⟨o, ho⟩ : ∃ o, (fillR p b).isSome = o := ⟨_, rfl⟩
 rw [hc] at hl1
 rw [hg] at hl2
 obtain ⟨hcn, hct⟩ := hl1
 obtain ⟨hgt, hgs⟩ := hl2
 have HC := Lib.hid hc
 have HQ1 := Lib.hid hq1
 have HG := Lib.hid hg
 have HO1 := Lib.hid ho
 have HGS := Lib.hid hgs
 clear hn ht hn1 ht1 hc hq1 hg ho hps hgs
 unfold bdV
 go_enter Tryz.func3, Tryz.ntmps3
 go_wp2_with fail
 generalize hW : World.alloc _ _ = w1
 obtain ⟨hb, hz⟩ := al3 hW
 have b_p_1 := n31 hW
 have b_f_1 := n32 hW
 have b_b_1 := n33 hW
 have HB1 := Lib.hid hb
 clear hW hz hb
 refine (weight_any (d := d + 1) (B := B) (r := ⟨p, [], [], []⟩) (vs := [_, _, _, _, _]) ((RuR (d + 1)).keep HB1.out hB HRP.out) (Nat.le_trans hB HB1.out.size)).mono ?_
 rintro x w2 ⟨⟨m1, rfl⟩, hb⟩
 have b_p_2 := b_p_1.later hb
 have b_f_2 := b_f_1.later hb
 have b_b_2 := b_b_1.later hb
 have HB2 := Lib.hid (bthen HB1.out hb)
 clear b_p_1 b_f_1 b_b_1
 clear hb
 by_cases hm1 : (400 : Int) ≤ m1
 · have gm1 : decide (m1 ≥ 400) = true := by simpa using hm1
   have gm1' : decide ((400 : Int) ≤ m1) = true := by simpa using hm1
   have k_p := b_p_2.cell
   have l_p := b_p_2.lt
   have k_f := b_f_2.cell
   have l_f := b_f_2.lt
   have k_b := b_b_2.cell
   have l_b := b_b_2.lt
   go_wp2_with fail
   clear k_p l_p k_f l_f k_b l_b
   refine (HAWH.out _ HB2.out).mono ?_
   rintro x w3 ⟨rfl, hb⟩
   have b_p_3 := b_p_2.later hb
   have b_f_3 := b_f_2.later hb
   have b_b_3 := b_b_2.later hb
   have HB3 := Lib.hid (bthen HB2.out hb)
   clear b_p_2 b_f_2 b_b_2
   clear hb
   have k_p := b_p_3.cell
   have l_p := b_p_3.lt
   have k_f := b_f_3.cell
   have l_f := b_f_3.lt
   have k_b := b_b_3.cell
   have l_b := b_b_3.lt
   go_wp2_with fail
   clear k_p l_p k_f l_f k_b l_b
   go_ret
   exact ⟨rfl, HB3.out⟩
 · have gm1 : decide (m1 ≥ 400) = false := by simpa using hm1
   have gm1' : decide ((400 : Int) ≤ m1) = false := by simpa using hm1
   clear hm1
   have k_p := b_p_2.cell
   have l_p := b_p_2.lt
   have k_f := b_f_2.cell
   have l_f := b_f_2.lt
   have k_b := b_b_2.cell
   have l_b := b_b_2.lt
   go_wp2_with fail
   clear k_p l_p k_f l_f k_b l_b
   clear gm1 gm1'
   refine (weight_any (d := d + 1) (B := B) (r := ⟨f, [], [], []⟩) (vs := [_, _, _, _, _]) ((RuR (d + 1)).keep HB2.out hB HRF.out) (Nat.le_trans hB HB2.out.size)).mono ?_
   rintro x w3 ⟨⟨m2, rfl⟩, hb⟩
   have b_p_3 := b_p_2.later hb
   have b_f_3 := b_f_2.later hb
   have b_b_3 := b_b_2.later hb
   have HB3 := Lib.hid (bthen HB2.out hb)
   clear b_p_2 b_f_2 b_b_2
   clear hb
   by_cases hm2 : (400 : Int) ≤ m2
   · have gm2 : decide (m2 ≥ 400) = true := by simpa using hm2
     have gm2' : decide ((400 : Int) ≤ m2) = true := by simpa using hm2
     have k_p := b_p_3.cell
     have l_p := b_p_3.lt
     have k_f := b_f_3.cell
     have l_f := b_f_3.lt
     have k_b := b_b_3.cell
     have l_b := b_b_3.lt
     go_wp2_with fail
     clear k_p l_p k_f l_f k_b l_b
     refine (HAWH.out _ HB3.out).mono ?_
     rintro x w4 ⟨rfl, hb⟩
     have b_p_4 := b_p_3.later hb
     have b_f_4 := b_f_3.later hb
     have b_b_4 := b_b_3.later hb
     have HB4 := Lib.hid (bthen HB3.out hb)
     clear b_p_3 b_f_3 b_b_3
     clear hb
     have k_p := b_p_4.cell
     have l_p := b_p_4.lt
     have k_f := b_f_4.cell
     have l_f := b_f_4.lt
     have k_b := b_b_4.cell
     have l_b := b_b_4.lt
     go_wp2_with fail
     clear k_p l_p k_f l_f k_b l_b
     go_ret
     exact ⟨rfl, HB4.out⟩
   · have gm2 : decide (m2 ≥ 400) = false := by simpa using hm2
     have gm2' : decide ((400 : Int) ≤ m2) = false := by simpa using hm2
     clear hm2
     have k_p := b_p_3.cell
     have l_p := b_p_3.lt
     have k_f := b_f_3.cell
     have l_f := b_f_3.lt
     have k_b := b_b_3.cell
     have l_b := b_b_3.lt
     go_wp2_with fail
     clear k_p l_p k_f l_f k_b l_b
     clear gm2 gm2'
     refine (lightBind19_any (cn := cn) (ct := ct) (d := d + 1) HN1.out (HT.out.keep HB3.out hB) HT1.out (Nat.le_trans hB HB3.out.size)).mono ?_
     rintro x w4 ⟨⟨q3, rfl⟩, hb⟩
     have b_p_4 := b_p_3.later hb
     have b_f_4 := b_f_3.later hb
     have b_b_4 := b_b_3.later hb
     have HB4 := Lib.hid (bthen HB3.out hb)
     clear b_p_3 b_f_3 b_b_3
     clear hb
     cases q3
     · have k_p := b_p_4.cell
       have l_p := b_p_4.lt
       have k_f := b_f_4.cell
       have l_f := b_f_4.lt
       have k_b := b_b_4.cell
       have l_b := b_b_4.lt
       go_wp2_with fail
       clear k_p l_p k_f l_f k_b l_b
       refine (HAWH.out _ HB4.out).mono ?_
       rintro x w5 ⟨rfl, hb⟩
       have b_p_5 := b_p_4.later hb
       have b_f_5 := b_f_4.later hb
       have b_b_5 := b_b_4.later hb
       have HB5 := Lib.hid (bthen HB4.out hb)
       clear b_p_4 b_f_4 b_b_4
       clear hb
       have k_p := b_p_5.cell
       have l_p := b_p_5.lt
       have k_f := b_f_5.cell
       have l_f := b_f_5.lt
       have k_b := b_b_5.cell
       have l_b := b_b_5.lt
       go_wp2_with fail
       clear k_p l_p k_f l_f k_b l_b
       go_ret
       exact ⟨rfl, HB5.out⟩
     · have k_p := b_p_4.cell
       have l_p := b_p_4.lt
       have k_f := b_f_4.cell
       have l_f := b_f_4.lt
       have k_b := b_b_4.cell
       have l_b := b_b_4.lt
       go_wp2_with fail
       clear k_p l_p k_f l_f k_b l_b
       refine (one_any (d := d) (cn := cn) (ct := ct) (vp := [_, _]) (vf := [_, _]) ((PrR (d + 1)).keep HB4.out hB HP.out) ((PrR (d + 1)).keep HB4.out hB HF.out) (HN.out.keep HB4.out hB) (HT.out.keep HB4.out hB) (Nat.le_trans hB HB4.out.size)).mono ?_
       rintro z w5 ⟨⟨A2, c2, T2, d2, xs2, rfl, hq⟩, hb⟩
       have b_p_5 := b_p_4.later hb
       have b_f_5 := b_f_4.later hb
       have b_b_5 := b_b_4.later hb
       have HB5 := Lib.hid (bthen HB4.out hb)
       clear b_p_4 b_f_4 b_b_4
       rw [HC.out] at hq
       simp only [HC.out, HQ1.out]
       have HX := Lib.hid (hq.reads (by omega) (by omega))
       clear hq hb
       have HX5 := Lib.hid (Below.refl w5.heap.size w5)
       have k_p := b_p_5.cell
       have l_p := b_p_5.lt
       have k_f := b_f_5.cell
       have l_f := b_f_5.lt
       have k_b := b_b_5.cell
       have l_b := b_b_5.lt
       go_upto_region 4 with fail
       clear k_p l_p k_f l_f k_b l_b
       generalize hW : World.alloc _ _ = w6
       obtain ⟨hb, hz⟩ := al1 hW
       have b_x_6 := n11 hW
       have b_p_6 := b_p_5.later hb
       have b_f_6 := b_f_5.later hb
       have b_b_6 := b_b_5.later hb
       have HB6 := Lib.hid (bthen HB5.out hb)
       have HX6 := Lib.hid hb
       clear b_p_5 b_f_5 b_b_5
       clear hW hz hb
       have k_p := b_p_6.cell
       have l_p := b_p_6.lt
       have k_f := b_f_6.cell
       have l_f := b_f_6.lt
       have k_b := b_b_6.cell
       have l_b := b_b_6.lt
       have k_x := b_x_6.cell
       have l_x := b_x_6.lt
       go_wp2_with fail
       clear k_p l_p k_f l_f k_b l_b k_x l_x
       refine (refOne_any (d := d) (cn := cn) (ct := ct) (vp := [_, _]) (vf := [_, _]) ((PrR (d + 1)).keep HB6.out hB HP.out) ((PrR (d + 1)).keep HB6.out hB HF.out) (HN.out.keep HB6.out hB) (HT.out.keep HB6.out hB) (Nat.le_trans hB HB6.out.size)).mono ?_
       rintro z w7 ⟨⟨A3, c3, T3, d3, rfl, hq1, hq2⟩, hb⟩
       have b_p_7 := b_p_6.later hb
       have b_f_7 := b_f_6.later hb
       have b_b_7 := b_b_6.later hb
       have b_x_7 := b_x_6.later hb
       have HB7 := Lib.hid (bthen HB6.out hb)
       have HX7 := Lib.hid (bthen HX6.out hb)
       clear b_p_6 b_f_6 b_b_6 b_x_6
       rw [HC.out] at hq1 hq2
       simp only [HC.out, HQ1.out]
       have HY := Lib.hid (And.intro hq1 hq2)
       clear hq1 hq2 hb
       have HY7 := Lib.hid (Below.refl w7.heap.size w7)
       have k_p := b_p_7.cell
       have l_p := b_p_7.lt
       have k_f := b_f_7.cell
       have l_f := b_f_7.lt
       have k_b := b_b_7.cell
       have l_b := b_b_7.lt
       have k_x := b_x_7.cell
       have l_x := b_x_7.lt
       go_upto_region 5 with fail
       clear k_p l_p k_f l_f k_b l_b k_x l_x
       generalize hW : World.alloc _ _ = w8
       obtain ⟨hb, hz⟩ := al1 hW
       have b_y_8 := n11 hW
       have b_p_8 := b_p_7.later hb
       have b_f_8 := b_f_7.later hb
       have b_b_8 := b_b_7.later hb
       have b_x_8 := b_x_7.later hb
       have HB8 := Lib.hid (bthen HB7.out hb)
       have HX8 := Lib.hid (bthen HX7.out hb)
       have HY8 := Lib.hid hb
       clear b_p_7 b_f_7 b_b_7 b_x_7
       clear hW hz hb
       have k_p := b_p_8.cell
       have l_p := b_p_8.lt
       have k_f := b_f_8.cell
       have l_f := b_f_8.lt
       have k_b := b_b_8.cell
       have l_b := b_b_8.lt
       have k_x := b_x_8.cell
       have l_x := b_x_8.lt
       have k_y := b_y_8.cell
       have l_y := b_y_8.lt
       go_wp2_with fail
       clear k_p l_p k_f l_f k_b l_b k_x l_x k_y l_y
       refine (fill_any (d := d) (cn := cn) (ct := ct) (vp := [_, _]) ((PrR (d + 1)).keep HB8.out hB HP.out) (HN.out.keep HB8.out hB) (HT.out.keep HB8.out hB) (Nat.le_trans hB HB8.out.size)).mono ?_
       rintro z w9 ⟨⟨A4, c4, xs4, rfl, hz, hst⟩, hb⟩
       have b_p_9 := b_p_8.later hb
       have b_f_9 := b_f_8.later hb
       have b_b_9 := b_b_8.later hb
       have b_x_9 := b_x_8.later hb
       have b_y_9 := b_y_8.later hb
       have HB9 := Lib.hid (bthen HB8.out hb)
       have HX9 := Lib.hid (bthen HX8.out hb)
       have HY9 := Lib.hid (bthen HY8.out hb)
       clear b_p_8 b_f_8 b_b_8 b_x_8 b_y_8
       rw [HG.out] at hz
       simp only [HG.out, HO1.out]
       have HU : Hid ((PrR (d + 1)).rd w9 w9.heap.size g [.string g.name, .slice A4 g.terms.length c4]) := Lib.hid (by
         have hl4 : xs4.length = g.terms.length := by rw [← hz, List.length_map]
         have h1 := hst.rl (by omega)
         rw [hz] at h1
         have := hst.own.reads (Nat.zero_le _) (by show xs4.length * (8 * 4) ≤ _; omega)
         obtain ⟨A9, c9, e9, g1, g2, _⟩ := this
         simp only [Value.slice.injEq] at e9
         obtain ⟨rfl, _, rfl⟩ := e9
         refine ⟨_, rfl, HGS.out, A4, c4, rfl, ?_, ?_, h1⟩
         · show g.terms.length ≤ _
           omega
         · exact ⟨by show g.terms.length * (8 * 4) ≤ _; omega, g2.2⟩)
       clear hz hst hb
       have HU9 := Lib.hid (Below.refl w9.heap.size w9)
       have k_p := b_p_9.cell
       have l_p := b_p_9.lt
       have k_f := b_f_9.cell
       have l_f := b_f_9.lt
       have k_b := b_b_9.cell
       have l_b := b_b_9.lt
       have k_x := b_x_9.cell
       have l_x := b_x_9.lt
       have k_y := b_y_9.cell
       have l_y := b_y_9.lt
       go_upto_region 6 with fail
       clear k_p l_p k_f l_f k_b l_b k_x l_x k_y l_y
       generalize hW : World.alloc _ _ = w10
       obtain ⟨hb, hz⟩ := al1 hW
       have b_u_10 := n11 hW
       have b_p_10 := b_p_9.later hb
       have b_f_10 := b_f_9.later hb
       have b_b_10 := b_b_9.later hb
       have b_x_10 := b_x_9.later hb
       have b_y_10 := b_y_9.later hb
       have HB10 := Lib.hid (bthen HB9.out hb)
       have HX10 := Lib.hid (bthen HX9.out hb)
       have HY10 := Lib.hid (bthen HY9.out hb)
       have HU10 := Lib.hid hb
       clear b_p_9 b_f_9 b_b_9 b_x_9 b_y_9
       clear hW hz hb
       have k_p := b_p_10.cell
       have l_p := b_p_10.lt
       have k_f := b_f_10.cell
       have l_f := b_f_10.lt
       have k_b := b_b_10.cell
       have l_b := b_b_10.lt
       have k_x := b_x_10.cell
       have l_x := b_x_10.lt
       have k_y := b_y_10.cell
       have l_y := b_y_10.lt
       have k_u := b_u_10.cell
       have l_u := b_u_10.lt
       go_wp2_with fail
       clear k_p l_p k_f l_f k_b l_b k_x l_x k_y l_y k_u l_u
       refine (refFill_any (d := d) (cn := cn) (ct := ct) (vp := [_, _]) ((PrR (d + 1)).keep HB10.out hB HP.out) (HN.out.keep HB10.out hB) (HT.out.keep HB10.out hB) (Nat.le_trans hB HB10.out.size)).mono ?_
       rintro z w11 ⟨⟨A5, c5, rfl, hv⟩, hb⟩
       have b_p_11 := b_p_10.later hb
       have b_f_11 := b_f_10.later hb
       have b_b_11 := b_b_10.later hb
       have b_x_11 := b_x_10.later hb
       have b_y_11 := b_y_10.later hb
       have b_u_11 := b_u_10.later hb
       have HB11 := Lib.hid (bthen HB10.out hb)
       have HX11 := Lib.hid (bthen HX10.out hb)
       have HY11 := Lib.hid (bthen HY10.out hb)
       have HU11 := Lib.hid (bthen HU10.out hb)
       clear b_p_10 b_f_10 b_b_10 b_x_10 b_y_10 b_u_10
       rw [HG.out] at hv
       simp only [HG.out, HO1.out]
       have HV : Hid ((PrR (d + 1)).rd w11 w11.heap.size g [.string g.name, .slice A5 g.terms.length c5]) := Lib.hid ⟨_, rfl, HGS.out, hv⟩
       clear hv hb
       have HV11 := Lib.hid (Below.refl w11.heap.size w11)
       have k_p := b_p_11.cell
       have l_p := b_p_11.lt
       have k_f := b_f_11.cell
       have l_f := b_f_11.lt
       have k_b := b_b_11.cell
       have l_b := b_b_11.lt
       have k_x := b_x_11.cell
       have l_x := b_x_11.lt
       have k_y := b_y_11.cell
       have l_y := b_y_11.lt
       have k_u := b_u_11.cell
       have l_u := b_u_11.lt
       go_upto_region 7 with fail
       clear k_p l_p k_f l_f k_b l_b k_x l_x k_y l_y k_u l_u
       generalize hW : World.alloc _ _ = w12
       obtain ⟨hb, hz⟩ := al1 hW
       have b_v_12 := n11 hW
       have b_p_12 := b_p_11.later hb
       have b_f_12 := b_f_11.later hb
       have b_b_12 := b_b_11.later hb
       have b_x_12 := b_x_11.later hb
       have b_y_12 := b_y_11.later hb
       have b_u_12 := b_u_11.later hb
       have HB12 := Lib.hid (bthen HB11.out hb)
       have HX12 := Lib.hid (bthen HX11.out hb)
       have HY12 := Lib.hid (bthen HY11.out hb)
       have HU12 := Lib.hid (bthen HU11.out hb)
       have HV12 := Lib.hid hb
       clear b_p_11 b_f_11 b_b_11 b_x_11 b_y_11 b_u_11
       clear hW hz hb
       have k_p := b_p_12.cell
       have l_p := b_p_12.lt
       have k_f := b_f_12.cell
       have l_f := b_f_12.lt
       have k_b := b_b_12.cell
       have l_b := b_b_12.lt
       have k_x := b_x_12.cell
       have l_x := b_x_12.lt
       have k_y := b_y_12.cell
       have l_y := b_y_12.lt
       have k_u := b_u_12.cell
       have l_u := b_u_12.lt
       have k_v := b_v_12.cell
       have l_v := b_v_12.lt
       go_wp2_with fail
       clear k_p l_p k_f l_f k_b l_b k_x l_x k_y l_y k_u l_u k_v l_v
       refine (sameBind_any (d := d) (cn := c2) (ct := d2) (cn' := c3) (ct' := d3) (B := w7.heap.size) ((HX.out.1.keep HX12.out (Nat.le_refl _)).wide HX7.out.size) ((HX.out.2.keep HX12.out (Nat.le_refl _)).wide HX7.out.size) (HY.out.1.keep HY12.out (Nat.le_refl _)) (HY.out.2.keep HY12.out (Nat.le_refl _)) ⟨by omega, by omega, by omega, by omega⟩ HY12.out.size).mono ?_
       rintro x w13 ⟨rfl, hb⟩
       have b_p_13 := b_p_12.later hb
       have b_f_13 := b_f_12.later hb
       have b_b_13 := b_b_12.later hb
       have b_x_13 := b_x_12.later hb
       have b_y_13 := b_y_12.later hb
       have b_u_13 := b_u_12.later hb
       have b_v_13 := b_v_12.later hb
       have HB13 := Lib.hid (bthen HB12.out hb)
       have HX13 := Lib.hid (bthen HX12.out hb)
       have HY13 := Lib.hid (bthen HY12.out hb)
       have HU13 := Lib.hid (bthen HU12.out hb)
       have HV13 := Lib.hid (bthen HV12.out hb)
       clear b_p_12 b_f_12 b_b_12 b_x_12 b_y_12 b_u_12 b_v_12
       clear hb
       rw [same_bd]
       have hqq : (q == q) = true := by simp
       have k_p := b_p_13.cell
       have l_p := b_p_13.lt
       have k_f := b_f_13.cell
       have l_f := b_f_13.lt
       have k_b := b_b_13.cell
       have l_b := b_b_13.lt
       have k_x := b_x_13.cell
       have l_x := b_x_13.lt
       have k_y := b_y_13.cell
       have l_y := b_y_13.lt
       have k_u := b_u_13.cell
       have l_u := b_u_13.lt
       have k_v := b_v_13.cell
       have l_v := b_v_13.lt
       go_wp2_with fail
       clear k_p l_p k_f l_f k_b l_b k_x l_x k_y l_y k_u l_u k_v l_v
       clear hqq
       refine (refSamePredJ_any (d := d + 1) (B := w11.heap.size) (a := g) (b := g) (va := [_, _]) (vb := [_, _]) ((PrR (d + 1)).wide HU11.out.size ((PrR (d + 1)).keep HU13.out (Nat.le_refl _) HU.out)) ((PrR (d + 1)).keep HV13.out (Nat.le_refl _) HV.out) HV13.out.size).mono ?_
       rintro x w14 ⟨rfl, hb⟩
       have b_p_14 := b_p_13.later hb
       have b_f_14 := b_f_13.later hb
       have b_b_14 := b_b_13.later hb
       have b_x_14 := b_x_13.later hb
       have b_y_14 := b_y_13.later hb
       have b_u_14 := b_u_13.later hb
       have b_v_14 := b_v_13.later hb
       have HB14 := Lib.hid (bthen HB13.out hb)
       have HX14 := Lib.hid (bthen HX13.out hb)
       have HY14 := Lib.hid (bthen HY13.out hb)
       have HU14 := Lib.hid (bthen HU13.out hb)
       have HV14 := Lib.hid (bthen HV13.out hb)
       clear b_p_13 b_f_13 b_b_13 b_x_13 b_y_13 b_u_13 b_v_13
       clear hb
       rw [same_pr]
       have hoo : (o == o) = true := by simp
       have k_p := b_p_14.cell
       have l_p := b_p_14.lt
       have k_f := b_f_14.cell
       have l_f := b_f_14.lt
       have k_b := b_b_14.cell
       have l_b := b_b_14.lt
       have k_x := b_x_14.cell
       have l_x := b_x_14.lt
       have k_y := b_y_14.cell
       have l_y := b_y_14.lt
       have k_u := b_u_14.cell
       have l_u := b_u_14.lt
       have k_v := b_v_14.cell
       have l_v := b_v_14.lt
       go_wp2_with fail
       clear k_p l_p k_f l_f k_b l_b k_x l_x k_y l_y k_u l_u k_v l_v
       clear hoo
       refine (HAWH.out _ HB14.out).mono ?_
       rintro x w15 ⟨rfl, hb⟩
       have b_p_15 := b_p_14.later hb
       have b_f_15 := b_f_14.later hb
       have b_b_15 := b_b_14.later hb
       have b_x_15 := b_x_14.later hb
       have b_y_15 := b_y_14.later hb
       have b_u_15 := b_u_14.later hb
       have b_v_15 := b_v_14.later hb
       have HB15 := Lib.hid (bthen HB14.out hb)
       have HX15 := Lib.hid (bthen HX14.out hb)
       have HY15 := Lib.hid (bthen HY14.out hb)
       have HU15 := Lib.hid (bthen HU14.out hb)
       have HV15 := Lib.hid (bthen HV14.out hb)
       clear b_p_14 b_f_14 b_b_14 b_x_14 b_y_14 b_u_14 b_v_14
       clear hb
       have k_p := b_p_15.cell
       have l_p := b_p_15.lt
       have k_f := b_f_15.cell
       have l_f := b_f_15.lt
       have k_b := b_b_15.cell
       have l_b := b_b_15.lt
       have k_x := b_x_15.cell
       have l_x := b_x_15.lt
       have k_y := b_y_15.cell
       have l_y := b_y_15.lt
       have k_u := b_u_15.cell
       have l_u := b_u_15.lt
       have k_v := b_v_15.cell
       have l_v := b_v_15.lt
       go_wp2_with fail
       clear k_p l_p k_f l_f k_b l_b k_x l_x k_y l_y k_u l_u k_v l_v
       go_ret
       exact ⟨rfl, HB15.out⟩
end Go.Proofs.YtkdonhhbpacgmaaGreat
