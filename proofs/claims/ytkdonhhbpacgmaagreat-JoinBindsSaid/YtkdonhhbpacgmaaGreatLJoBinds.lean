/- viaticumlaw19.JoinBinds. -/
import Derived.Test.YtkdonhhbpacgmaaGreatJoFill
import Derived.Test.YtkdonhhbpacgmaaGreatJoSame
import Derived.Test.YtkdonhhbpacgmaaGreatRef4
import Derived.Test.YtkdonhhbpacgmaaGreatRe2
set_option linter.unusedVariables false
set_option linter.unusedSimpArgs false
namespace Go.Proofs.YtkdonhhbpacgmaaGreat
open Go.ChangeShapes Go.WideShapes Go.ChangeAt Go.RowKit
theorem rsl_nilJ {α : Type} {R : Reader α} (w : World) (B : Nat) : RSl R w B [] (.slice none 0 0) := ⟨none, 0, rfl, by simp, by simp, fun h => absurd h (by simp)⟩
theorem ru_of_pr {d B : Nat} {w : World} {p : Pr} {A : Option Addr} {c : Nat} (h : (PrR d).rd w B p [.string p.name, .slice A p.terms.length c]) : (RuR d).rd w B ⟨p, [], [], []⟩ [.string p.name, .slice A p.terms.length c, .slice none 0 0, .slice none 0 0, .slice none 0 0] := by
 obtain ⟨v, e, h1, h2⟩ := h
 simp only [List.cons.injEq, and_true, true_and] at e
 subst e
 exact ⟨_, _, _, _, rfl, h1, h2, rsl_nilJ _ _, rsl_nilJ _ _, rsl_nilJ _ _⟩
theorem eqL_zip {α : Type} {f : α → α → Bool} : ∀ {xs ys : List α}, xs.length = ys.length → (∀ q ∈ xs.zip ys, f q.1 q.2 = true) → eqL f xs ys = true
 | [], [], _, _ => rfl
 | [], _ :: _, h, _ => by simp at h
 | _ :: _, [], h, _ => by simp at h
 | x :: xs, y :: ys, h, hq => by
   rw [eqL, hq (x, y) (by simp), eqL_zip (by simpa using h) fun q h => hq q (by simp [h])]
   rfl
theorem sameBd_self (c : Bd) : sameBdB c c = true := by unfold sameBdB; rw [eqL_refl cmpT_self0]; simp
theorem look_at {b : Bd} {k : Nat} (h : OkN b) (hk : k < b.names.length) (hk2 : k < b.terms.length) : lookR b b.names[k] = some b.terms[k] := (look_iff h).2 ⟨k, List.getElem?_eq_getElem hk, List.getElem?_eq_getElem hk2⟩
theorem one_bind {p f : Pr} {b c : Bd} (h : oneR p f b = some c) : bindB b = true ∧ mayPredB p = true ∧ mayFactB f = true := by
 unfold oneR at h
 split at h
 · rename_i hm; exact ⟨hm.2.2, hm.1, hm.2.1⟩
 · cases h
set_option maxRecDepth 100000 in
set_option maxHeartbeats 8000000 in
theorem joinBinds_of {d B cn ct : Nat} {p f : Pr} {b : Bd} {vp vf : List Value} {An At : Option Addr} {w : World} (HAW : ∀ w1 : World, Below w.heap.size w w1 → Calls Tryz.prog 7 #[] w1 fun z w' => z = .returned (.bool true) ∧ Below w1.heap.size w1 w')
   (hp : (PrR (d + 1)).rd w B p vp) (hf : (PrR (d + 1)).rd w B f vf) (hn : RL StrR w B (b.names.map mkS) An) (ht : RL (TmR (d + 1)) w B b.terms At) (hn1 : b.names.length * 8 ≤ 140737488351232) (ht1 : b.terms.length * 32 ≤ 140737488351232) (hB : B ≤ w.heap.size) :
   Calls Tryz.prog 4 #[.agg vp.toArray, .agg vf.toArray, .agg (bdV An b.names.length cn At b.terms.length ct)] w fun z w' => z = .returned (.bool true) ∧ Below w.heap.size w w' := by
 have HAWH := Lib.hid HAW
 clear HAW
 have HP := Lib.hid hp
 have HF := Lib.hid hf
 have HN := Lib.hid hn
 have HT := Lib.hid ht
 have HN1 := Lib.hid hn1
 have HT1 := Lib.hid ht1
 obtain ⟨_, rfl, _, Ap, cp, rfl, _⟩ := hp
 obtain ⟨_, rfl, _, Af, cf, rfl, _⟩ := hf
 have HRP := Lib.hid (ru_of_pr HP.out)
 have HRF := Lib.hid (ru_of_pr HF.out)
 clear hn ht hn1 ht1
 unfold bdV
 go_enter Tryz.func4, Tryz.ntmps4
 go_wp2_with fail
 generalize hW : World.alloc _ _ = w1
 obtain ⟨hb, hz⟩ := al3 hW
 have b_p_1 := n31 hW
 have b_f_1 := n32 hW
 have b_b_1 := n33 hW
 have HB1 := Lib.hid hb
 clear hW hz hb
 refine (weight_any (d := d + 1) (B := B) (r := ⟨p, [], [], []⟩) (vs := [_, _, _, _, _]) ((RuR (d + 1)).keep HB1.out hB HRP.out) (Nat.le_trans hB HB1.out.size)).mono ?_
 rintro x w2 ⟨⟨m1, rfl⟩, hb⟩
 have b_p_2 := b_p_1.later hb
 have b_f_2 := b_f_1.later hb
 have b_b_2 := b_b_1.later hb
 have HB2 := Lib.hid (bthen HB1.out hb)
 clear b_p_1 b_f_1 b_b_1
 clear hb
 by_cases hm1 : (400 : Int) ≤ m1
 · have gm1 : decide (m1 ≥ 400) = true := by simpa using hm1
   have gm1' : decide ((400 : Int) ≤ m1) = true := by simpa using hm1
   have k_p := b_p_2.cell
   have l_p := b_p_2.lt
   have k_f := b_f_2.cell
   have l_f := b_f_2.lt
   have k_b := b_b_2.cell
   have l_b := b_b_2.lt
   go_wp2_with fail
   clear k_p l_p k_f l_f k_b l_b
   refine (HAWH.out _ HB2.out).mono ?_
   rintro x w3 ⟨rfl, hb⟩
   have b_p_3 := b_p_2.later hb
   have b_f_3 := b_f_2.later hb
   have b_b_3 := b_b_2.later hb
   have HB3 := Lib.hid (bthen HB2.out hb)
   clear b_p_2 b_f_2 b_b_2
   clear hb
   have k_p := b_p_3.cell
   have l_p := b_p_3.lt
   have k_f := b_f_3.cell
   have l_f := b_f_3.lt
   have k_b := b_b_3.cell
   have l_b := b_b_3.lt
   go_wp2_with fail
   clear k_p l_p k_f l_f k_b l_b
   go_ret
   exact ⟨rfl, HB3.out⟩
 · have gm1 : decide (m1 ≥ 400) = false := by simpa using hm1
   have gm1' : decide ((400 : Int) ≤ m1) = false := by simpa using hm1
   clear hm1
   have k_p := b_p_2.cell
   have l_p := b_p_2.lt
   have k_f := b_f_2.cell
   have l_f := b_f_2.lt
   have k_b := b_b_2.cell
   have l_b := b_b_2.lt
   go_wp2_with fail
   clear k_p l_p k_f l_f k_b l_b
   clear gm1 gm1'
   refine (weight_any (d := d + 1) (B := B) (r := ⟨f, [], [], []⟩) (vs := [_, _, _, _, _]) ((RuR (d + 1)).keep HB2.out hB HRF.out) (Nat.le_trans hB HB2.out.size)).mono ?_
   rintro x w3 ⟨⟨m2, rfl⟩, hb⟩
   have b_p_3 := b_p_2.later hb
   have b_f_3 := b_f_2.later hb
   have b_b_3 := b_b_2.later hb
   have HB3 := Lib.hid (bthen HB2.out hb)
   clear b_p_2 b_f_2 b_b_2
   clear hb
   by_cases hm2 : (400 : Int) ≤ m2
   · have gm2 : decide (m2 ≥ 400) = true := by simpa using hm2
     have gm2' : decide ((400 : Int) ≤ m2) = true := by simpa using hm2
     have k_p := b_p_3.cell
     have l_p := b_p_3.lt
     have k_f := b_f_3.cell
     have l_f := b_f_3.lt
     have k_b := b_b_3.cell
     have l_b := b_b_3.lt
     go_wp2_with fail
     clear k_p l_p k_f l_f k_b l_b
     refine (HAWH.out _ HB3.out).mono ?_
     rintro x w4 ⟨rfl, hb⟩
     have b_p_4 := b_p_3.later hb
     have b_f_4 := b_f_3.later hb
     have b_b_4 := b_b_3.later hb
     have HB4 := Lib.hid (bthen HB3.out hb)
     clear b_p_3 b_f_3 b_b_3
     clear hb
     have k_p := b_p_4.cell
     have l_p := b_p_4.lt
     have k_f := b_f_4.cell
     have l_f := b_f_4.lt
     have k_b := b_b_4.cell
     have l_b := b_b_4.lt
     go_wp2_with fail
     clear k_p l_p k_f l_f k_b l_b
     go_ret
     exact ⟨rfl, HB4.out⟩
   · have gm2 : decide (m2 ≥ 400) = false := by simpa using hm2
     have gm2' : decide ((400 : Int) ≤ m2) = false := by simpa using hm2
     clear hm2
     have k_p := b_p_3.cell
     have l_p := b_p_3.lt
     have k_f := b_f_3.cell
     have l_f := b_f_3.lt
     have k_b := b_b_3.cell
     have l_b := b_b_3.lt
     go_wp2_with fail
     clear k_p l_p k_f l_f k_b l_b
     clear gm2 gm2'
     refine (lightBind19_any (cn := cn) (ct := ct) (d := d + 1) HN1.out (HT.out.keep HB3.out hB) HT1.out (Nat.le_trans hB HB3.out.size)).mono ?_
     rintro x w4 ⟨⟨q3, rfl⟩, hb⟩
     have b_p_4 := b_p_3.later hb
     have b_f_4 := b_f_3.later hb
     have b_b_4 := b_b_3.later hb
     have HB4 := Lib.hid (bthen HB3.out hb)
     clear b_p_3 b_f_3 b_b_3
     clear hb
     cases q3
     · have k_p := b_p_4.cell
       have l_p := b_p_4.lt
       have k_f := b_f_4.cell
       have l_f := b_f_4.lt
       have k_b := b_b_4.cell
       have l_b := b_b_4.lt
       go_wp2_with fail
       clear k_p l_p k_f l_f k_b l_b
       refine (HAWH.out _ HB4.out).mono ?_
       rintro x w5 ⟨rfl, hb⟩
       have b_p_5 := b_p_4.later hb
       have b_f_5 := b_f_4.later hb
       have b_b_5 := b_b_4.later hb
       have HB5 := Lib.hid (bthen HB4.out hb)
       clear b_p_4 b_f_4 b_b_4
       clear hb
       have k_p := b_p_5.cell
       have l_p := b_p_5.lt
       have k_f := b_f_5.cell
       have l_f := b_f_5.lt
       have k_b := b_b_5.cell
       have l_b := b_b_5.lt
       go_wp2_with fail
       clear k_p l_p k_f l_f k_b l_b
       go_ret
       exact ⟨rfl, HB5.out⟩
     · have k_p := b_p_4.cell
       have l_p := b_p_4.lt
       have k_f := b_f_4.cell
       have l_f := b_f_4.lt
       have k_b := b_b_4.cell
       have l_b := b_b_4.lt
       go_wp2_with fail
       clear k_p l_p k_f l_f k_b l_b
       refine (one_any (d := d) (cn := cn) (ct := ct) (vp := [_, _]) (vf := [_, _]) ((PrR (d + 1)).keep HB4.out hB HP.out) ((PrR (d + 1)).keep HB4.out hB HF.out) (HN.out.keep HB4.out hB) (HT.out.keep HB4.out hB) (Nat.le_trans hB HB4.out.size)).mono ?_
       rintro z w5 ⟨⟨A2, c2, T2, d2, xs2, rfl, hq⟩, hb⟩
       have b_p_5 := b_p_4.later hb
       have b_f_5 := b_f_4.later hb
       have b_b_5 := b_b_4.later hb
       have HB5 := Lib.hid (bthen HB4.out hb)
       clear b_p_4 b_f_4 b_b_4
       have HQ2 := Lib.hid hq
       clear hq hb
       rcases hr : oneR p f b with _ | c
       · rw [hr] at HQ2
         clear HQ2
         simp only [Option.getD_none, Option.isSome_none, noBd, List.length_nil]
         have k_p := b_p_5.cell
         have l_p := b_p_5.lt
         have k_f := b_f_5.cell
         have l_f := b_f_5.lt
         have k_b := b_b_5.cell
         have l_b := b_b_5.lt
         go_upto_region 4 with fail
         clear k_p l_p k_f l_f k_b l_b
         generalize hW : World.alloc _ _ = w6
         obtain ⟨hb, hz⟩ := al1 hW
         have b_c_6 := n11 hW
         have b_p_6 := b_p_5.later hb
         have b_f_6 := b_f_5.later hb
         have b_b_6 := b_b_5.later hb
         have HB6 := Lib.hid (bthen HB5.out hb)
         clear b_p_5 b_f_5 b_b_5
         clear hW hz hb
         have k_p := b_p_6.cell
         have l_p := b_p_6.lt
         have k_f := b_f_6.cell
         have l_f := b_f_6.lt
         have k_b := b_b_6.cell
         have l_b := b_b_6.lt
         have k_c := b_c_6.cell
         have l_c := b_c_6.lt
         go_wp2_with fail
         clear k_p l_p k_f l_f k_b l_b k_c l_c
         refine (HAWH.out _ HB6.out).mono ?_
         rintro x w7 ⟨rfl, hb⟩
         have b_p_7 := b_p_6.later hb
         have b_f_7 := b_f_6.later hb
         have b_b_7 := b_b_6.later hb
         have b_c_7 := b_c_6.later hb
         have HB7 := Lib.hid (bthen HB6.out hb)
         clear b_p_6 b_f_6 b_b_6 b_c_6
         clear hb
         have k_p := b_p_7.cell
         have l_p := b_p_7.lt
         have k_f := b_f_7.cell
         have l_f := b_f_7.lt
         have k_b := b_b_7.cell
         have l_b := b_b_7.lt
         have k_c := b_c_7.cell
         have l_c := b_c_7.lt
         go_wp2_with fail
         clear k_p l_p k_f l_f k_b l_b k_c l_c
         go_ret
         exact ⟨rfl, HB7.out⟩
       · rw [hr] at HQ2
         simp only [Option.getD_some, Option.isSome_some] at HQ2 ⊢
         have HLAW := Lib.hid (one_law hr)
         have HOB := Lib.hid (one_bind hr)
         have HOK := Lib.hid (bindB_iff.1 HOB.out.1)
         have HCK := Lib.hid (bindB_iff.1 HLAW.out.1)
         have h32 := HOK.out.2
         have hc32 := HCK.out.2
         have ht32 : b.terms.length ≤ 32 := by rw [← HOK.out.1.len]; exact h32
         have htc32 : c.terms.length ≤ 32 := by rw [← HCK.out.1.len]; exact hc32
         clear hr
         have HC := Lib.hid (HQ2.out.reads (by omega) (by omega))
         have HX5 := Lib.hid (Below.refl w5.heap.size w5)
         have k_p := b_p_5.cell
         have l_p := b_p_5.lt
         have k_f := b_f_5.cell
         have l_f := b_f_5.lt
         have k_b := b_b_5.cell
         have l_b := b_b_5.lt
         go_upto_region 4 with fail
         clear k_p l_p k_f l_f k_b l_b
         generalize hW : World.alloc _ _ = w6
         obtain ⟨hb, hz⟩ := al1 hW
         have b_c_6 := n11 hW
         have b_p_6 := b_p_5.later hb
         have b_f_6 := b_f_5.later hb
         have b_b_6 := b_b_5.later hb
         have HB6 := Lib.hid (bthen HB5.out hb)
         have HX6 := Lib.hid hb
         clear b_p_5 b_f_5 b_b_5
         clear hW hz hb
         have k_p := b_p_6.cell
         have l_p := b_p_6.lt
         have k_f := b_f_6.cell
         have l_f := b_f_6.lt
         have k_b := b_b_6.cell
         have l_b := b_b_6.lt
         have k_c := b_c_6.cell
         have l_c := b_c_6.lt
         go_upto_region 7 with fail
         clear k_p l_p k_f l_f k_b l_b k_c l_c
         have HPre := Lib.hid HB6.out
         go_loopw [52] (fun i wr => ∃ k : Nat, k ≤ b.names.length ∧ i = .int .i64 k ∧ Hid (Below w6.heap.size w6 wr)) (fun i _ => b.names.length - (intOf i).toNat)
         case atStart => exact ⟨0, Nat.zero_le _, rfl, Lib.hid (Below.refl _ _)⟩
         case round =>
           obtain ⟨k, hk, rfl, HWR⟩ := hrel
           have HBw : Hid (Below w.heap.size w wr) := Lib.hid (bthen HPre.out HWR.out)
           have HXr : Hid (Below w5.heap.size w5 wr) := Lib.hid (bthen HX6.out HWR.out)
           have hBr : B ≤ wr.heap.size := Nat.le_trans hB HBw.out.size
           have HCr := Lib.hid (b_c_6.later HWR.out)
           have HBr := Lib.hid (b_b_6.later HWR.out)
           by_cases hlt : k < b.names.length
           · have hlt2 : k < b.terms.length := by rw [← HOK.out.1.len]; exact hlt
             obtain ⟨bn_, offn, rfl, hobn, hcn⟩ := strs_at (HN.out.keep HBw.out hB) (Below.refl _ _) hBr (by omega)
             have c0 := hcn k hlt
             have HLK : Hid (lookR c b.names[k] = some b.terms[k]) := Lib.hid (HLAW.out.2.1 _ _ (look_at HOK.out.1 hlt hlt2))
             have HLK2 : Hid (lookR c (bs (mkS b.names[k])) = some b.terms[k]) := Lib.hid (by rw [bs_mkS]; exact HLK.out)
             have k_c := HCr.out.cell
             have l_c := HCr.out.lt
             clear hcn
             generalize mkS b.names[k] = nk at *
             go_wp2_with fail
             refine (refLook_any (d := d) (cn := c2) (ct := d2) (HC.out.1.keep HXr.out (Nat.le_refl _)) (HC.out.2.keep HXr.out (Nat.le_refl _)) HXr.out.size (by omega)).mono ?_
             rintro e w9 ⟨⟨Au, cu, rfl, htm⟩, hb9⟩
             rw [if_pos HLAW.out.1, HLK2.out] at htm ⊢
             simp only [Option.getD_some, Option.isSome_some] at htm ⊢
             have HTM := Lib.hid htm
             have HW9 : Hid (Below w6.heap.size w6 w9) := Lib.hid (bthen HWR.out hb9)
             have HBw9 : Hid (Below w.heap.size w w9) := Lib.hid (bthen HBw.out hb9)
             clear k_c l_c c0 htm hb9
             go_upto_region 10 with fail
             generalize hW : World.alloc _ _ = w10
             obtain ⟨hb10, hz10⟩ := al1 hW
             have HBU := Lib.hid (n11 hW)
             have HTM10 := Lib.hid ((HTM.out.later hb10).rtm)
             have HW10 : Hid (Below w6.heap.size w6 w10) := Lib.hid (bthen HW9.out hb10)
             have HBw10 : Hid (Below w.heap.size w w10) := Lib.hid (bthen HBw9.out hb10)
             have hB10 : B ≤ w10.heap.size := Nat.le_trans hB HBw10.out.size
             have HB10 := Lib.hid (b_b_6.later HW10.out)
             clear hW hb10 hz10
             obtain ⟨bt_, offt, rfl, hobt⟩ := (HT.out.keep HBw10.out hB).base (Below.refl _ _) hB10 (by omega)
             obtain ⟨x, vs, hx, hlen, hcell, hr⟩ := (HT.out.keep HBw10.out hB).at_ (Below.refl _ _) hB10 hlt2
             have HXT := Lib.hid hr
             obtain ⟨Ax, cx, rfl, g1, g2, g3, g4, g5, _⟩ := RTm.cells (show RTm w10 B (d + 1) x vs from hr)
             have d0 : w10.cell? ⟨bt_, offt + k * 4, none⟩ = some (.int .i64 x.kind) := hcell 0 _ rfl
             have d1 : w10.cell? ⟨bt_, offt + k * 4 + 1, none⟩ = some (.int .i64 x.n) := hcell 1 _ rfl
             have d2_ : w10.cell? ⟨bt_, offt + k * 4 + 2, none⟩ = some (.string x.s) := hcell 2 _ rfl
             have d3 : w10.cell? ⟨bt_, offt + k * 4 + 3, none⟩ = some (.slice Ax x.l.length cx) := hcell 3 _ rfl
             have hxe : b.terms[k] = x := by rw [List.getElem?_eq_getElem hlt2] at hx; simpa using hx
             clear hcell hlen hr hx
             have r0 := cell_regrown d0
             have r1 := cell_regrown d1
             have r2 := cell_regrown d2_
             have r3 := cell_regrown d3
             have q_u := HBU.out.regrown
             have q_b := HB10.out.regrown
             have hI0 : (0 : Int) ≤ (k : Int) := Int.natCast_nonneg _
             have hI1 : (k : Int) < (b.terms.length : Int) := by omega
             have hI2 : (k : Int) < (b.names.length : Int) := by omega
             clear d0 d1 d2_ d3 HTM HLK HLK2
             rw [hxe] at q_u HTM10 HBU ⊢
             clear hxe
             refine wp_region_quiet_below (by kernel_rfl) (by kernel_rfl) ?_
             repeat (go_big_quiet_step ((go_at_call 15; exact Calls.regrown_of (as_bool (cmpT_self0 x) (refSameJ_any (d := d + 1) (B := w10.heap.size) (a := x) (b := x) (va := [_, _, _, _]) (vb := [_, _, _, _]) (RTm.below (below_regrown _ _ _) (Nat.le_refl _) HTM10.out) (RTm.below (below_regrown _ _ _) (Nat.le_refl _) (RTm.more hB10 HXT.out)) (below_regrown _ _ _).size)))))
             refine wpQuiet_nil ?_
             intro w11 hw_
             have hb : Below w10.heap.size w10 w11 := by obtain ⟨p_, rfl⟩ := hw_; exact below_regrown _ _ _
             clear hw_ q_u q_b r0 r1 r2 r3
             have HW11 : Hid (Below w6.heap.size w6 w11) := Lib.hid (bthen HW10.out hb)
             clear hb
             go_wp2_with fail
             go_roundw
             case rel => exact ⟨k + 1, by omega, by go_num, HW11⟩
             case measure => simp [intOf]; omega
           · generalize wr = w7 at *
             have hbw := HWR.out
             have b_p_7 := b_p_6.later hbw
             have b_f_7 := b_f_6.later hbw
             have b_b_7 := b_b_6.later hbw
             have b_c_7 := b_c_6.later hbw
             have HB7 := Lib.hid (bthen HB6.out hbw)
             have HX7 := Lib.hid (bthen HX6.out hbw)
             clear b_p_6 b_f_6 b_b_6 b_c_6
             clear hbw HCr HBr HBw HXr HPre HWR
             have k_p := b_p_7.cell
             have l_p := b_p_7.lt
             have k_f := b_f_7.cell
             have l_f := b_f_7.lt
             have k_b := b_b_7.cell
             have l_b := b_b_7.lt
             have k_c := b_c_7.cell
             have l_c := b_c_7.lt
             go_wp2_with fail
             clear k_p l_p k_f l_f k_b l_b k_c l_c
             refine (fill_any (d := d) (cn := c2) (ct := d2) (vp := [_, _]) ((PrR (d + 1)).wide (Nat.le_trans hB (Nat.le_trans HB5.out.size (Nat.le_refl _))) ((PrR (d + 1)).keep HB7.out hB HP.out)) (HC.out.1.keep HX7.out (Nat.le_refl _)) (HC.out.2.keep HX7.out (Nat.le_refl _)) HX7.out.size).mono ?_
             rintro z w8 ⟨⟨A3, c3, xs3, rfl, hz3, hst⟩, hb⟩
             have b_p_8 := b_p_7.later hb
             have b_f_8 := b_f_7.later hb
             have b_b_8 := b_b_7.later hb
             have b_c_8 := b_c_7.later hb
             have HB8 := Lib.hid (bthen HB7.out hb)
             have HX8 := Lib.hid (bthen HX7.out hb)
             clear b_p_7 b_f_7 b_b_7 b_c_7
             obtain ⟨zs, hfz, hpn, hzl, hzq⟩ := HLAW.out.2.2.2
             rw [hfz] at hz3 ⊢
             simp only [Option.getD_some, Option.isSome_some] at hz3 ⊢
             have HST3 := Lib.hid hst
             have HZ3 := Lib.hid hz3
             have HSP : Hid (samePB ⟨p.name, zs⟩ f = true) := Lib.hid (by unfold samePB; rw [eqL_zip hzl hzq, hpn]; simp)
             have hzl8 : zs.length ≤ 8 := by rw [hzl]; exact (may_terms (fact_terms HOB.out.2.2).1).1
             have HPN := Lib.hid hpn
             clear hfz hzl hzq hz3 hst hpn
             have HQP : Hid ((PrR (d + 1)).rd w8 w8.heap.size ⟨p.name, zs⟩ [.string p.name, .slice A3 zs.length c3]) := Lib.hid (by
               have hl3 : xs3.length = zs.length := by rw [← HZ3.out, List.length_map]
               have h1 := HST3.out.rl (by omega)
               rw [HZ3.out] at h1
               obtain ⟨_, e, hs, _⟩ := HP.out
               refine ⟨_, rfl, hs, A3, c3, rfl, ?_, ?_, h1⟩
               · have := (HST3.out.own).reads (Nat.zero_le _) (by show xs3.length * (8 * 4) ≤ _; omega)
                 obtain ⟨A9, c9, e9, g1, g2, _⟩ := this
                 simp only [Value.slice.injEq] at e9
                 obtain ⟨rfl, _, rfl⟩ := e9
                 show zs.length ≤ _
                 omega
               · have := (HST3.out.own).reads (Nat.zero_le _) (by show xs3.length * (8 * 4) ≤ _; omega)
                 obtain ⟨A9, c9, e9, g1, g2, _⟩ := this
                 simp only [Value.slice.injEq] at e9
                 obtain ⟨rfl, _, rfl⟩ := e9
                 exact ⟨by show zs.length * (8 * 4) ≤ _; omega, g2.2⟩)
             have HY8 := Lib.hid (Below.refl w8.heap.size w8)
             have k_p := b_p_8.cell
             have l_p := b_p_8.lt
             have k_f := b_f_8.cell
             have l_f := b_f_8.lt
             have k_b := b_b_8.cell
             have l_b := b_b_8.lt
             have k_c := b_c_8.cell
             have l_c := b_c_8.lt
             go_upto_region 14 with fail
             clear k_p l_p k_f l_f k_b l_b k_c l_c
             generalize hW : World.alloc _ _ = w9
             obtain ⟨hb, hz⟩ := al1 hW
             have b_q_9 := n11 hW
             have b_p_9 := b_p_8.later hb
             have b_f_9 := b_f_8.later hb
             have b_b_9 := b_b_8.later hb
             have b_c_9 := b_c_8.later hb
             have HB9 := Lib.hid (bthen HB8.out hb)
             have HX9 := Lib.hid (bthen HX8.out hb)
             have HY9 := Lib.hid hb
             clear b_p_8 b_f_8 b_b_8 b_c_8
             clear hW hz hb
             have k_p := b_p_9.cell
             have l_p := b_p_9.lt
             have k_f := b_f_9.cell
             have l_f := b_f_9.lt
             have k_b := b_b_9.cell
             have l_b := b_b_9.lt
             have k_c := b_c_9.cell
             have l_c := b_c_9.lt
             have k_q := b_q_9.cell
             have l_q := b_q_9.lt
             go_wp2_with fail
             clear k_p l_p k_f l_f k_b l_b k_c l_c k_q l_q
             refine (one_any (d := d) (cn := c2) (ct := d2) (vp := [_, _]) (vf := [_, _]) ((PrR (d + 1)).wide (Nat.le_trans hB HB5.out.size) ((PrR (d + 1)).keep HB9.out hB HP.out)) ((PrR (d + 1)).wide (Nat.le_trans hB HB5.out.size) ((PrR (d + 1)).keep HB9.out hB HF.out)) (HC.out.1.keep HX9.out (Nat.le_refl _)) (HC.out.2.keep HX9.out (Nat.le_refl _)) HX9.out.size).mono ?_
             rintro z w10 ⟨⟨A4, c4, T4, d4, xs4, rfl, hq⟩, hb⟩
             have b_p_10 := b_p_9.later hb
             have b_f_10 := b_f_9.later hb
             have b_b_10 := b_b_9.later hb
             have b_c_10 := b_c_9.later hb
             have b_q_10 := b_q_9.later hb
             have HB10 := Lib.hid (bthen HB9.out hb)
             have HX10 := Lib.hid (bthen HX9.out hb)
             have HY10 := Lib.hid (bthen HY9.out hb)
             clear b_p_9 b_f_9 b_b_9 b_c_9 b_q_9
             have HQ4 := Lib.hid hq
             clear hq hb
             rw [HLAW.out.2.2.1] at HQ4 ⊢
             simp only [Option.getD_some, Option.isSome_some] at HQ4 ⊢
             have HD := Lib.hid (HQ4.out.reads (by omega) (by omega))
             have HV10 := Lib.hid (Below.refl w10.heap.size w10)
             have k_p := b_p_10.cell
             have l_p := b_p_10.lt
             have k_f := b_f_10.cell
             have l_f := b_f_10.lt
             have k_b := b_b_10.cell
             have l_b := b_b_10.lt
             have k_c := b_c_10.cell
             have l_c := b_c_10.lt
             have k_q := b_q_10.cell
             have l_q := b_q_10.lt
             go_upto_region 15 with fail
             clear k_p l_p k_f l_f k_b l_b k_c l_c k_q l_q
             generalize hW : World.alloc _ _ = w11
             obtain ⟨hb, hz⟩ := al1 hW
             have b_d_11 := n11 hW
             have b_p_11 := b_p_10.later hb
             have b_f_11 := b_f_10.later hb
             have b_b_11 := b_b_10.later hb
             have b_c_11 := b_c_10.later hb
             have b_q_11 := b_q_10.later hb
             have HB11 := Lib.hid (bthen HB10.out hb)
             have HX11 := Lib.hid (bthen HX10.out hb)
             have HY11 := Lib.hid (bthen HY10.out hb)
             have HV11 := Lib.hid hb
             clear b_p_10 b_f_10 b_b_10 b_c_10 b_q_10
             clear hW hz hb
             have k_p := b_p_11.cell
             have l_p := b_p_11.lt
             have k_f := b_f_11.cell
             have l_f := b_f_11.lt
             have k_b := b_b_11.cell
             have l_b := b_b_11.lt
             have k_c := b_c_11.cell
             have l_c := b_c_11.lt
             have k_q := b_q_11.cell
             have l_q := b_q_11.lt
             have k_d := b_d_11.cell
             have l_d := b_d_11.lt
             go_wp2_with fail
             clear k_p l_p k_f l_f k_b l_b k_c l_c k_q l_q k_d l_d
             refine (refSamePredJ_any (d := d + 1) (B := w8.heap.size) (a := ⟨p.name, zs⟩) (b := f) (va := [_, _]) (vb := [_, _]) ((PrR (d + 1)).keep HY11.out (Nat.le_refl _) HQP.out) ((PrR (d + 1)).wide (Nat.le_trans hB HB8.out.size) ((PrR (d + 1)).keep HB11.out hB HF.out)) HY11.out.size).mono ?_
             rintro x w12 ⟨rfl, hb⟩
             have b_p_12 := b_p_11.later hb
             have b_f_12 := b_f_11.later hb
             have b_b_12 := b_b_11.later hb
             have b_c_12 := b_c_11.later hb
             have b_q_12 := b_q_11.later hb
             have b_d_12 := b_d_11.later hb
             have HB12 := Lib.hid (bthen HB11.out hb)
             have HX12 := Lib.hid (bthen HX11.out hb)
             have HY12 := Lib.hid (bthen HY11.out hb)
             have HV12 := Lib.hid (bthen HV11.out hb)
             clear b_p_11 b_f_11 b_b_11 b_c_11 b_q_11 b_d_11
             clear hb
             rw [HSP.out]
             have k_p := b_p_12.cell
             have l_p := b_p_12.lt
             have k_f := b_f_12.cell
             have l_f := b_f_12.lt
             have k_b := b_b_12.cell
             have l_b := b_b_12.lt
             have k_c := b_c_12.cell
             have l_c := b_c_12.lt
             have k_q := b_q_12.cell
             have l_q := b_q_12.lt
             have k_d := b_d_12.cell
             have l_d := b_d_12.lt
             go_wp2_with fail
             clear k_p l_p k_f l_f k_b l_b k_c l_c k_q l_q k_d l_d
             refine (refMayBind_any (d := d) (cn := c2) (ct := d2) (HC.out.1.keep HX12.out (Nat.le_refl _)) (HC.out.2.keep HX12.out (Nat.le_refl _)) HX12.out.size).mono ?_
             rintro x w13 ⟨rfl, hb⟩
             have b_p_13 := b_p_12.later hb
             have b_f_13 := b_f_12.later hb
             have b_b_13 := b_b_12.later hb
             have b_c_13 := b_c_12.later hb
             have b_q_13 := b_q_12.later hb
             have b_d_13 := b_d_12.later hb
             have HB13 := Lib.hid (bthen HB12.out hb)
             have HX13 := Lib.hid (bthen HX12.out hb)
             have HY13 := Lib.hid (bthen HY12.out hb)
             have HV13 := Lib.hid (bthen HV12.out hb)
             clear b_p_12 b_f_12 b_b_12 b_c_12 b_q_12 b_d_12
             clear hb
             rw [HLAW.out.1]
             have k_p := b_p_13.cell
             have l_p := b_p_13.lt
             have k_f := b_f_13.cell
             have l_f := b_f_13.lt
             have k_b := b_b_13.cell
             have l_b := b_b_13.lt
             have k_c := b_c_13.cell
             have l_c := b_c_13.lt
             have k_q := b_q_13.cell
             have l_q := b_q_13.lt
             have k_d := b_d_13.cell
             have l_d := b_d_13.lt
             go_wp2_with fail
             clear k_p l_p k_f l_f k_b l_b k_c l_c k_q l_q k_d l_d
             refine (sameBind_any (d := d) (cn := c2) (ct := d2) (cn' := c4) (ct' := d4) (B := w10.heap.size) ((HC.out.1.keep HX13.out (Nat.le_refl _)).wide HX10.out.size) ((HC.out.2.keep HX13.out (Nat.le_refl _)).wide HX10.out.size) (HD.out.1.keep HV13.out (Nat.le_refl _)) (HD.out.2.keep HV13.out (Nat.le_refl _)) ⟨by omega, by omega, by omega, by omega⟩ HV13.out.size).mono ?_
             rintro x w14 ⟨rfl, hb⟩
             have b_p_14 := b_p_13.later hb
             have b_f_14 := b_f_13.later hb
             have b_b_14 := b_b_13.later hb
             have b_c_14 := b_c_13.later hb
             have b_q_14 := b_q_13.later hb
             have b_d_14 := b_d_13.later hb
             have HB14 := Lib.hid (bthen HB13.out hb)
             have HX14 := Lib.hid (bthen HX13.out hb)
             have HY14 := Lib.hid (bthen HY13.out hb)
             have HV14 := Lib.hid (bthen HV13.out hb)
             clear b_p_13 b_f_13 b_b_13 b_c_13 b_q_13 b_d_13
             clear hb
             rw [sameBd_self]
             have k_p := b_p_14.cell
             have l_p := b_p_14.lt
             have k_f := b_f_14.cell
             have l_f := b_f_14.lt
             have k_b := b_b_14.cell
             have l_b := b_b_14.lt
             have k_c := b_c_14.cell
             have l_c := b_c_14.lt
             have k_q := b_q_14.cell
             have l_q := b_q_14.lt
             have k_d := b_d_14.cell
             have l_d := b_d_14.lt
             go_wp2_with fail
             clear k_p l_p k_f l_f k_b l_b k_c l_c k_q l_q k_d l_d
             refine (HAWH.out _ HB14.out).mono ?_
             rintro x w15 ⟨rfl, hb⟩
             have b_p_15 := b_p_14.later hb
             have b_f_15 := b_f_14.later hb
             have b_b_15 := b_b_14.later hb
             have b_c_15 := b_c_14.later hb
             have b_q_15 := b_q_14.later hb
             have b_d_15 := b_d_14.later hb
             have HB15 := Lib.hid (bthen HB14.out hb)
             have HX15 := Lib.hid (bthen HX14.out hb)
             have HY15 := Lib.hid (bthen HY14.out hb)
             have HV15 := Lib.hid (bthen HV14.out hb)
             clear b_p_14 b_f_14 b_b_14 b_c_14 b_q_14 b_d_14
             clear hb
             have k_p := b_p_15.cell
             have l_p := b_p_15.lt
             have k_f := b_f_15.cell
             have l_f := b_f_15.lt
             have k_b := b_b_15.cell
             have l_b := b_b_15.lt
             have k_c := b_c_15.cell
             have l_c := b_c_15.lt
             have k_q := b_q_15.cell
             have l_q := b_q_15.lt
             have k_d := b_d_15.cell
             have l_d := b_d_15.lt
             go_wp2_with fail
             clear k_p l_p k_f l_f k_b l_b k_c l_c k_q l_q k_d l_d
             go_ret
             exact ⟨rfl, HB15.out⟩
end Go.Proofs.YtkdonhhbpacgmaaGreat
