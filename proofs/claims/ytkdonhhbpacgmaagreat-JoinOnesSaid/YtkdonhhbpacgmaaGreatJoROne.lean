/- viaticumref18.One. -/
import Derived.Test.YtkdonhhbpacgmaaGreatJoRBind
import Derived.Test.YtkdonhhbpacgmaaGreatJoSame
import Derived.Test.YtkdonhhbpacgmaaGreatRe2
set_option linter.unusedVariables false
set_option linter.unusedSimpArgs false
namespace Go.Proofs.YtkdonhhbpacgmaaGreat
open Go.ChangeShapes Go.WideShapes Go.ChangeAt Go.RowKit
def BdS (base B d : Nat) (w : World) (c : Bd) (An : Option Addr) (cn : Nat) (At : Option Addr) (ct : Nat) : Prop := (RL StrR w B (c.names.map mkS) An ∧ RL (TmR (d + 1)) w B c.terms At) ∨ BdO base B d w c.names c.terms An cn At ct
theorem BdS.later {base B d cn ct : Nat} {w w' : World} {c : Bd} {An At : Option Addr} (h : BdS base B d w c An cn At ct) (hb : Below w.heap.size w w') (hB : B ≤ w.heap.size) : BdS base B d w' c An cn At ct := by
 rcases h with h | h
 · exact .inl ⟨h.1.keep hb hB, h.2.keep hb hB⟩
 · exact .inr (h.later hb hB)
theorem BdS.far {base B d cn ct g : Nat} {w : World} {c : Bd} {An At : Option Addr} (h : BdS base B d w c An cn At ct) (hB : B ≤ g) (hg : g < base) (i : Nat) (u : Value) : BdS base B d (w.setCell ⟨g, i, none⟩ u) c An cn At ct := by
 have hb : Below g w (w.setCell ⟨g, i, none⟩ u) := (Below.refl g w).setCell (p := ⟨g, i, none⟩) (Nat.le_refl _) u
 rcases h with h | h
 · exact .inl ⟨h.1.keep hb hB, h.2.keep hb hB⟩
 · exact .inr ⟨h.nm.far hg (Nat.zero_le _) u, h.tm.far hg hB u⟩
theorem BdS.reads {base B d cn ct : Nat} {w : World} {c : Bd} {An At : Option Addr} (h : BdS base B d w c An cn At ct) (hB : B ≤ w.heap.size) (hn : c.names.length ≤ 1000000) (ht : c.terms.length ≤ 1000000) : RL StrR w w.heap.size (c.names.map mkS) An ∧ RL (TmB B (d + 1)) w w.heap.size c.terms At := by
 rcases h with h | h
 · exact ⟨h.1.wide hB, h.2.tmB.wide hB⟩
 · exact h.readsB hB hn ht
def BindR (d : Nat) (w w' : World) (r : Option Bd) (z : Ending) : Prop := (∃ An cn At ct, z = .returned (.tuple #[.agg #[.slice An (r.getD noBd).names.length cn, .slice At (r.getD noBd).terms.length ct], .bool r.isSome]) ∧ RL StrR w' w'.heap.size ((r.getD noBd).names.map mkS) An ∧ RL (TmR (d + 1)) w' w'.heap.size (r.getD noBd).terms At) ∧ Below w.heap.size w w'
theorem BindR.no {d : Nat} {w w' : World} (h : Below w.heap.size w w') : BindR d w w' none (.returned (.tuple #[.agg #[.slice none 0 0, .slice none 0 0], .bool false])) :=
 ⟨⟨none, 0, none, 0, rfl, fun h => absurd h (by simp [noBd]), fun h => absurd h (by simp [noBd])⟩, h⟩
set_option maxRecDepth 100000 in
set_option maxHeartbeats 8000000 in
theorem refOne_any {d B cn ct : Nat} {p f : Pr} {b : Bd} {vp vf : List Value} {An At : Option Addr} {w : World} (hp : (PrR (d + 1)).rd w B p vp) (hf : (PrR (d + 1)).rd w B f vf) (hn : RL StrR w B (b.names.map mkS) An) (ht : RL (TmR (d + 1)) w B b.terms At) (hB : B ≤ w.heap.size) :
   Calls Tryz.prog 9 #[.agg vp.toArray, .agg vf.toArray, .agg (bdV An b.names.length cn At b.terms.length ct)] w fun z w' => BindR d w w' (oneR p f b) z := by
 have HP := Lib.hid hp
 have HF := Lib.hid hf
 have HN := Lib.hid hn
 have HT := Lib.hid ht
 obtain ⟨_, rfl, hps, Ap, cp, rfl, hp1, hp2, hpl⟩ := hp
 obtain ⟨_, rfl, hfs, Af, cf, rfl, hf1, hf2, hfl⟩ := hf
 have HPL := Lib.hid hpl
 have HFL := Lib.hid hfl
 clear hn ht hpl hfl
 unfold bdV
 go_enter Tryz.func9, Tryz.ntmps9
 go_wp2_with fail
 generalize hW : World.alloc _ _ = w1
 obtain ⟨hb, hz⟩ := al4 hW
 have b_p_1 := n41 hW
 have b_f_1 := n42 hW
 have b_b_1 := n43 hW
 have b_r_1 := n44 hW
 have HB1 := Lib.hid hb
 clear hW hz hb
 refine (refMayPred_any (d := d + 1) (vs := [_, _]) ((PrR (d + 1)).keep HB1.out hB HP.out) (Nat.le_trans hB HB1.out.size)).mono ?_
 rintro x w2 ⟨rfl, hb⟩
 have b_p_2 := b_p_1.later hb
 have b_f_2 := b_f_1.later hb
 have b_b_2 := b_b_1.later hb
 have b_r_2 := b_r_1.later hb
 have HB2 := Lib.hid (bthen HB1.out hb)
 clear b_p_1 b_f_1 b_b_1 b_r_1
 clear hb
 by_cases h1 : mayPredB p = true
 · have H1 := Lib.hid h1
   rw [h1]
   clear h1
   have k_p := b_p_2.cell
   have l_p := b_p_2.lt
   have k_f := b_f_2.cell
   have l_f := b_f_2.lt
   have k_b := b_b_2.cell
   have l_b := b_b_2.lt
   have k_r := b_r_2.cell
   have l_r := b_r_2.lt
   go_wp2_with fail
   clear k_p l_p k_f l_f k_b l_b k_r l_r
   refine (refMayFact_any (d := d + 1) (vs := [_, _]) ((PrR (d + 1)).keep HB2.out hB HF.out) (Nat.le_trans hB HB2.out.size)).mono ?_
   rintro x w3 ⟨rfl, hb⟩
   have b_p_3 := b_p_2.later hb
   have b_f_3 := b_f_2.later hb
   have b_b_3 := b_b_2.later hb
   have b_r_3 := b_r_2.later hb
   have HB3 := Lib.hid (bthen HB2.out hb)
   clear b_p_2 b_f_2 b_b_2 b_r_2
   clear hb
   by_cases h2 : mayFactB f = true
   · have H2 := Lib.hid h2
     rw [h2]
     clear h2
     have k_p := b_p_3.cell
     have l_p := b_p_3.lt
     have k_f := b_f_3.cell
     have l_f := b_f_3.lt
     have k_b := b_b_3.cell
     have l_b := b_b_3.lt
     have k_r := b_r_3.cell
     have l_r := b_r_3.lt
     go_wp2_with fail
     clear k_p l_p k_f l_f k_b l_b k_r l_r
     refine (refMayBind_any (d := d) (cn := cn) (ct := ct) (HN.out.keep HB3.out hB) (HT.out.keep HB3.out hB) (Nat.le_trans hB HB3.out.size)).mono ?_
     rintro x w4 ⟨rfl, hb⟩
     have b_p_4 := b_p_3.later hb
     have b_f_4 := b_f_3.later hb
     have b_b_4 := b_b_3.later hb
     have b_r_4 := b_r_3.later hb
     have HB4 := Lib.hid (bthen HB3.out hb)
     clear b_p_3 b_f_3 b_b_3 b_r_3
     clear hb
     by_cases h3 : bindB b = true
     · have H3 := Lib.hid h3
       rw [h3]
       clear h3
       have HYES : Hid (oneR p f b = fitPR p f b) := Lib.hid (by unfold oneR; rw [if_pos ⟨H1.out, H2.out, H3.out⟩])
       have HMP := Lib.hid (may_terms H1.out)
       have HMF := Lib.hid (fact_terms H2.out)
       have HMB := Lib.hid (bindB_iff.1 H3.out)
       have hp8 := HMP.out.1
       have h32 := HMB.out.2
       by_cases hname : p.name = f.name
       rotate_left
       · have gn : (p.name.toList == f.name.toList) = false := by
           rw [Bool.eq_false_iff]; intro e; rw [same_iff] at e; exact hname (bs_inj (of_decide_eq_true e))
         have HNO : Hid (oneR p f b = none) := Lib.hid (by rw [HYES.out]; unfold fitPR; rw [if_neg (fun h => hname h.1)])
         have k_p := b_p_4.cell
         have l_p := b_p_4.lt
         have k_f := b_f_4.cell
         have l_f := b_f_4.lt
         have k_b := b_b_4.cell
         have l_b := b_b_4.lt
         have k_r := b_r_4.cell
         have l_r := b_r_4.lt
         have f_r := b_r_4.free
         have b_R := Lib.hid b_r_4
         go_wp2_with fail
         refine bodyPost_ret (ret_bd2 rfl rfl (put2b b_R.out (.slice none 0 0) (.slice none 0 0)) rfl) rfl ?_
         rw [HNO.out]
         exact BindR.no (put2u HB4.out (by omega) _ _)
       have gn : (p.name.toList == f.name.toList) = true := by rw [same_iff, hname]; simp
       have HNM := Lib.hid hname
       clear hname
       by_cases hlen : p.terms.length = f.terms.length
       rotate_left
       · have gl : ((p.terms.length : Int) != f.terms.length) = true := by simp; omega
         have HNO : Hid (oneR p f b = none) := Lib.hid (by rw [HYES.out]; unfold fitPR; rw [if_neg (fun h => hlen h.2)])
         have k_p := b_p_4.cell
         have l_p := b_p_4.lt
         have k_f := b_f_4.cell
         have l_f := b_f_4.lt
         have k_b := b_b_4.cell
         have l_b := b_b_4.lt
         have k_r := b_r_4.cell
         have l_r := b_r_4.lt
         have f_r := b_r_4.free
         have b_R := Lib.hid b_r_4
         go_wp2_with fail
         refine bodyPost_ret (ret_bd2 rfl rfl (put2b b_R.out (.slice none 0 0) (.slice none 0 0)) rfl) rfl ?_
         rw [HNO.out]
         exact BindR.no (put2u HB4.out (by omega) _ _)
       have gl : ((p.terms.length : Int) != f.terms.length) = false := by simp [hlen]
       have HLEN := Lib.hid hlen
       have HR : Hid (oneR p f b = okB (fitL p.terms f.terms b)) := Lib.hid (by rw [HYES.out]; unfold fitPR; rw [if_pos ⟨HNM.out, HLEN.out⟩])
       clear hlen
       have k_p := b_p_4.cell
       have l_p := b_p_4.lt
       have k_f := b_f_4.cell
       have l_f := b_f_4.lt
       have k_b := b_b_4.cell
       have l_b := b_b_4.lt
       have k_r := b_r_4.cell
       have l_r := b_r_4.lt
       go_upto_region 4 with fail
       clear gn gl
       clear k_p l_p k_f l_f k_b l_b k_r l_r
       have HBP := Lib.hid b_p_4
       have HBF := Lib.hid b_f_4
       have HBB := Lib.hid b_b_4
       have HBR := Lib.hid b_r_4
       have HW := Lib.hid HB4.out
       have hlr := b_r_4.lt
       clear b_p_4 b_f_4 b_b_4 b_r_4
       have HBS : Hid (BdS w4.heap.size B d w4 b An cn At ct) := Lib.hid (.inl ⟨HN.out.keep HW.out hB, HT.out.keep HW.out hB⟩)
       have hsz0 := HW.out.size
       go_loopw [45] (fun i wr => ∃ (k : Nat) (c : Bd) (An' : Option Addr) (cn' : Nat) (At' : Option Addr) (ct' : Nat), k ≤ p.terms.length ∧ i = .int .i64 k ∧ c.names.length ≤ 32 ∧ Hid (Below w.heap.size w wr) ∧ Hid (w4.heap.size ≤ wr.heap.size) ∧ Hid (Blk wr w.heap.size #[.string p.name, .slice Ap p.terms.length cp]) ∧ Hid (Blk wr (w.heap.size + 1) #[.string f.name, .slice Af f.terms.length cf]) ∧ Hid (Blk wr (w.heap.size + 1 + 1) #[.slice An' c.names.length cn', .slice At' c.terms.length ct']) ∧ Hid (Blk wr (w.heap.size + 1 + 1 + 1) #[.slice none 0 0, .slice none 0 0]) ∧ Hid (BdS w4.heap.size B d wr c An' cn' At' ct') ∧ Hid (OkN c) ∧ Hid (fitL (p.terms.drop k) (f.terms.drop k) c = fitL p.terms f.terms b)) (fun i _ => p.terms.length - (intOf i).toNat)
       case atStart => exact ⟨0, b, An, cn, At, ct, Nat.zero_le _, rfl, h32, HW, Lib.hid (Nat.le_refl _), HBP, HBF, HBB, HBR, HBS, Lib.hid HMB.out.1, Lib.hid rfl⟩
       case round =>
         clear HBP HBF HBB HBR HBS HW
         obtain ⟨k, c, An', cn', At', ct', hk, rfl, hn32, HWR, HSZ, HBP, HBF, HBB, HBR, HBS, HOK, HFIT⟩ := hrel
         have hszr := HWR.out.size
         have hszw := HSZ.out
         have hBr : B ≤ wr.heap.size := by omega
         have ht32 : c.terms.length ≤ 32 := by rw [← HOK.out.len]; exact hn32
         by_cases hlt : k < p.terms.length
         · have hlt2 : k < f.terms.length := by rw [← HLEN.out]; exact hlt
           have HPL1 := Lib.hid (HPL.out.keep HWR.out hB)
           have HFL1 := Lib.hid (HFL.out.keep HWR.out hB)
           obtain ⟨bp_, offp, rfl, hobp⟩ := HPL1.out.base (Below.refl _ _) hBr (by omega)
           obtain ⟨x, vs, hx, hlen, hcell, hr⟩ := HPL1.out.at_ (Below.refl _ _) hBr hlt
           have HX := Lib.hid hr
           obtain ⟨Ax, cx, rfl, g1, g2, g3, g4, g5, _⟩ := RTm.cells (show RTm wr B (d + 1) x vs from hr)
           have HXS := Lib.hid g3
           have c0 : wr.cell? ⟨bp_, offp + k * 4, none⟩ = some (.int .i64 x.kind) := hcell 0 _ rfl
           have c1 : wr.cell? ⟨bp_, offp + k * 4 + 1, none⟩ = some (.int .i64 x.n) := hcell 1 _ rfl
           have c2 : wr.cell? ⟨bp_, offp + k * 4 + 2, none⟩ = some (.string x.s) := hcell 2 _ rfl
           have c3 : wr.cell? ⟨bp_, offp + k * 4 + 3, none⟩ = some (.slice Ax x.l.length cx) := hcell 3 _ rfl
           have HXE : Hid (p.terms[k] = x) := Lib.hid (by rw [List.getElem?_eq_getElem hlt] at hx; simpa using hx)
           have HXM : Hid (mayB x = true) := Lib.hid (HMP.out.2 x (List.mem_of_getElem? hx))
           clear hcell hlen hx hr g1 g2 g3 g4 g5
           obtain ⟨bf_, offf, rfl, hobf⟩ := HFL1.out.base (Below.refl _ _) hBr (by omega)
           obtain ⟨y, vs, hy, hlen, hcell, hr⟩ := HFL1.out.at_ (Below.refl _ _) hBr hlt2
           have HY := Lib.hid hr
           obtain ⟨Ay, cy, rfl, _⟩ := RTm.cells (show RTm wr B (d + 1) y vs from hr)
           have e0 : wr.cell? ⟨bf_, offf + k * 4, none⟩ = some (.int .i64 y.kind) := hcell 0 _ rfl
           have e1 : wr.cell? ⟨bf_, offf + k * 4 + 1, none⟩ = some (.int .i64 y.n) := hcell 1 _ rfl
           have e2 : wr.cell? ⟨bf_, offf + k * 4 + 2, none⟩ = some (.string y.s) := hcell 2 _ rfl
           have e3 : wr.cell? ⟨bf_, offf + k * 4 + 3, none⟩ = some (.slice Ay y.l.length cy) := hcell 3 _ rfl
           have HYC : Hid (∀ w', Below wr.heap.size wr w' → w'.cell? ⟨bf_, offf + k * 4, none⟩ = some (.int .i64 y.kind) ∧ w'.cell? ⟨bf_, offf + k * 4 + 1, none⟩ = some (.int .i64 y.n) ∧ w'.cell? ⟨bf_, offf + k * 4 + 2, none⟩ = some (.string y.s) ∧ w'.cell? ⟨bf_, offf + k * 4 + 3, none⟩ = some (.slice Ay y.l.length cy)) := Lib.hid (fun w' hb => ⟨(hb.cell (p := ⟨bf_, _, none⟩) hobf).trans e0, (hb.cell (p := ⟨bf_, _, none⟩) hobf).trans e1, (hb.cell (p := ⟨bf_, _, none⟩) hobf).trans e2, (hb.cell (p := ⟨bf_, _, none⟩) hobf).trans e3⟩)
           have HYE : Hid (f.terms[k] = y) := Lib.hid (by rw [List.getElem?_eq_getElem hlt2] at hy; simpa using hy)
           have HYF : Hid (fixedB y = true) := Lib.hid (HMF.out.2 y (List.mem_of_getElem? hy))
           have HSOME : Hid (∀ c', fit1 c x y = some c' → fitL (p.terms.drop (k + 1)) (f.terms.drop (k + 1)) c' = fitL p.terms f.terms b) := Lib.hid (fun c' hc => by rw [← HFIT.out, fitL_step hlt hlt2, HXE.out, HYE.out, hc])
           have HNONE : Hid (fit1 c x y = none → oneR p f b = none) := Lib.hid (fun hc => by rw [HR.out, ← HFIT.out, fitL_step hlt hlt2, HXE.out, HYE.out, hc]; rfl)
           clear hcell hlen hy hr e0 e1 e2 e3
           have hI0 : (0 : Int) ≤ (k : Int) := Int.natCast_nonneg _
           have hI1 : (k : Int) < (f.terms.length : Int) := by omega
           go_upto_region 6 with fail
           generalize hW : World.alloc _ _ = v4
           obtain ⟨hb4, hz4⟩ := al1 hW
           have HBT4 := Lib.hid (n11 hW)
           have HW4 := Lib.hid hb4
           have HBP4 := Lib.hid (HBP.out.later hb4)
           have HBF4 := Lib.hid (HBF.out.later hb4)
           have HBB4 := Lib.hid (HBB.out.later hb4)
           have HBR4 := Lib.hid (HBR.out.later hb4)
           have HS4 := Lib.hid (HBS.out.later hb4 hBr)
           have HB4 : Hid (Below w.heap.size w v4) := Lib.hid (HWR.out.trans (hb4.mono hszr))
           have HX4 := Lib.hid (RTm.below hb4 hBr HX.out)
           have HY4 := Lib.hid (RTm.below hb4 hBr HY.out)
           have hB4 : B ≤ v4.heap.size := by omega
           have hsz4 := hb4.size
           have hlq := HBT4.out.lt
           have HLQ := Lib.hid hlq
           clear hW hb4 hz4 c0 c1 c2 c3
           have HZ4 : Hid (w4.heap.size ≤ v4.heap.size) := Lib.hid (by omega)
           by_cases hk1 : x.kind = 1
           rotate_left
           · have g1 : (x.kind != 1) = true := by simpa using hk1
             have HK1 := Lib.hid hk1
             clear hk1
             have k_t := HBT4.out.cell
             have l_t := HBT4.out.lt
             go_upto_region 7 with fail
             clear k_t l_t g1
             by_cases hs : sameB x y = true
             · have HSM := Lib.hid hs
               have HFT : Hid (fit1 c x y = some c) := Lib.hid (by unfold fit1; rw [if_neg HK1.out, if_pos hs])
               clear hs
               obtain ⟨d0, d1, d2_, d3⟩ := HYC.out v4 HW4.out
               have r0 := cell_regrown d0
               have r1 := cell_regrown d1
               have r2 := cell_regrown d2_
               have r3 := cell_regrown d3
               have q_t := HBT4.out.regrown
               have q_f := HBF4.out.regrown
               clear d0 d1 d2_ d3
               refine wp_region_quiet_below (by kernel_rfl) (by kernel_rfl) ?_
               repeat (go_big_quiet_step ((go_at_call 15; exact Calls.regrown_of (as_bool HSM.out (refSameJ_any (d := d + 1) (B := v4.heap.size) (a := x) (b := y) (va := [_, _, _, _]) (vb := [_, _, _, _]) (RTm.below (below_regrown _ _ _) (Nat.le_refl _) (RTm.more hB4 HX4.out)) (RTm.below (below_regrown _ _ _) (Nat.le_refl _) (RTm.more hB4 HY4.out)) (below_regrown _ _ _).size)))))
               refine wpQuiet_nil ?_
               intro v9 hw_
               have hb : Below v4.heap.size v4 v9 := by obtain ⟨p_, rfl⟩ := hw_; exact below_regrown _ _ _
               clear hw_ q_t q_f r0 r1 r2 r3
               have HB9 : Hid (Below w.heap.size w v9) := Lib.hid (HB4.out.trans (hb.mono HB4.out.size))
               have HBP9 := Lib.hid (HBP4.out.later hb)
               have HBF9 := Lib.hid (HBF4.out.later hb)
               have HBB9 := Lib.hid (HBB4.out.later hb)
               have HBR9 := Lib.hid (HBR4.out.later hb)
               have HS9 := Lib.hid (HS4.out.later hb hB4)
               have hsz9 := hb.size
               clear hb
               go_wp2_with fail
               go_roundw
               case rel => exact ⟨k + 1, c, An', cn', At', ct', by omega, by go_num, hn32, HB9, Lib.hid (by have := HZ4.out; omega), HBP9, HBF9, HBB9, HBR9, HS9, HOK, Lib.hid (HSOME.out _ HFT.out)⟩
               case measure => simp [intOf]; omega
             · simp only [Bool.not_eq_true] at hs
               have HSM := Lib.hid hs
               have HFT : Hid (fit1 c x y = none) := Lib.hid (by unfold fit1; rw [if_neg HK1.out, hs]; rfl)
               clear hs
               obtain ⟨d0, d1, d2_, d3⟩ := HYC.out v4 HW4.out
               have r0 := cell_regrown d0
               have r1 := cell_regrown d1
               have r2 := cell_regrown d2_
               have r3 := cell_regrown d3
               have q_t := HBT4.out.regrown
               have q_f := HBF4.out.regrown
               clear d0 d1 d2_ d3
               refine wp_region_quiet_below (by kernel_rfl) (by kernel_rfl) ?_
               repeat (go_big_quiet_step ((go_at_call 15; exact Calls.regrown_of (as_bool HSM.out (refSameJ_any (d := d + 1) (B := v4.heap.size) (a := x) (b := y) (va := [_, _, _, _]) (vb := [_, _, _, _]) (RTm.below (below_regrown _ _ _) (Nat.le_refl _) (RTm.more hB4 HX4.out)) (RTm.below (below_regrown _ _ _) (Nat.le_refl _) (RTm.more hB4 HY4.out)) (below_regrown _ _ _).size)))))
               refine wpQuiet_nil ?_
               intro v9 hw_
               have hb : Below v4.heap.size v4 v9 := by obtain ⟨p_, rfl⟩ := hw_; exact below_regrown _ _ _
               clear hw_ q_t q_f r0 r1 r2 r3
               have HB9 : Hid (Below w.heap.size w v9) := Lib.hid (HB4.out.trans (hb.mono HB4.out.size))
               have HBP9 := Lib.hid (HBP4.out.later hb)
               have HBF9 := Lib.hid (HBF4.out.later hb)
               have HBB9 := Lib.hid (HBB4.out.later hb)
               have HBR9 := Lib.hid (HBR4.out.later hb)
               have HS9 := Lib.hid (HS4.out.later hb hB4)
               have hsz9 := hb.size
               clear hb
               have HNO : Hid (oneR p f b = none) := Lib.hid (HNONE.out HFT.out)
               have k_r := HBR9.out.cell
               have f_r := HBR9.out.free
               have l_r := HBR9.out.lt
               go_wp2_with fail
               refine bodyPost_ret (ret_bd2 rfl rfl (put2b HBR9.out (.slice none 0 0) (.slice none 0 0)) rfl) rfl ?_
               rw [HNO.out]
               exact BindR.no (put2u HB9.out (by omega) _ _)
           have g1 : (x.kind != 1) = false := by simpa using hk1
           have HK1 := Lib.hid hk1
           clear hk1
           have HRL := Lib.hid (HS4.out.reads hB4 (by omega) (by omega))
           have k_t := HBT4.out.cell
           have l_t := HBT4.out.lt
           have k_b := HBB4.out.cell
           have l_b := HBB4.out.lt
           go_wp2_with fail
           refine (refLook_any (d := d) (cn := cn') (ct := ct') (b := c) HRL.out.1 HRL.out.2.tmR (Nat.le_refl _) (by omega)).mono ?_
           rintro e v5 ⟨⟨Au, cu, rfl, htm⟩, hb5⟩
           have HTM := Lib.hid htm
           have HW5 := Lib.hid (bthen HW4.out hb5)
           have HB5 := Lib.hid (bthen HB4.out hb5)
           have HBT5 := Lib.hid (HBT4.out.later hb5)
           have HBP5 := Lib.hid (HBP4.out.later hb5)
           have HBF5 := Lib.hid (HBF4.out.later hb5)
           have HBB5 := Lib.hid (HBB4.out.later hb5)
           have HBR5 := Lib.hid (HBR4.out.later hb5)
           have HS5 := Lib.hid (HS4.out.later hb5 hB4)
           have HY5 := Lib.hid (RTm.below hb5 hB4 HY4.out)
           have hsz5 := hb5.size
           have hB5 : B ≤ v5.heap.size := by omega
           clear k_t l_t k_b l_b htm hb5 HRL
           rw [if_pos (HOK.out.bd hn32)] at HTM ⊢
           rcases hl : lookR c (bs x.s) with _ | u
           · rw [hl] at HTM
             have HNI : Hid (bs x.s ∉ c.names) := Lib.hid ((look_none HOK.out).1 hl)
             have HFT : Hid (fit1 c x y = some (insB c (bs x.s) y)) := Lib.hid (by unfold fit1; rw [if_pos HK1.out, hl])
             clear hl
             simp only [Option.getD_none, Option.isSome_none] at HTM ⊢
             go_upto_region 10 with fail
             generalize hW : World.alloc _ _ = v6
             obtain ⟨hb6, hz6⟩ := al1 hW
             have HBU6 := Lib.hid (n11 hW)
             have HW6 := Lib.hid (bthen HW5.out hb6)
             have HB6 := Lib.hid (bthen HB5.out hb6)
             have HBT6 := Lib.hid (HBT5.out.later hb6)
             have HBP6 := Lib.hid (HBP5.out.later hb6)
             have HBF6 := Lib.hid (HBF5.out.later hb6)
             have HBB6 := Lib.hid (HBB5.out.later hb6)
             have HBR6 := Lib.hid (HBR5.out.later hb6)
             have HS6 := Lib.hid (HS5.out.later hb6 hB5)
             have HY6 := Lib.hid (RTm.below hb6 hB5 HY5.out)
             have hsz6 := hb6.size
             have hB6 : B ≤ v6.heap.size := by omega
             clear hW hb6 hz6
             have HRL := Lib.hid (HS6.out.reads hB6 (by omega) (by omega))
             have HOK2 : Hid (OkN (insB c (bs x.s) y)) := Lib.hid (HOK.out.ins HNI.out (may_name HXM.out HK1.out) HYF.out)
             have hnl : (insB c (bs x.s) y).names.length = c.names.length + 1 := ins_len
             have hnl33 : (insB c (bs x.s) y).names.length ≤ 33 := by omega
             have HNL := Lib.hid hnl
             clear hnl
             go_upto_region 11 with fail
             have HSL : Hid (∀ {w' : World}, Below v6.heap.size v6 w' → (w'.cell? ⟨w.heap.size + 1 + 1, 0, none⟩ = some (.slice An' c.names.length cn') ∧ w'.cell? ⟨w.heap.size + 1 + 1, 1, none⟩ = some (.slice At' c.terms.length ct') ∧ w'.cell? ⟨wr.heap.size, 2, none⟩ = some (.string x.s) ∧ w'.cell? ⟨w.heap.size + 1, 1, none⟩ = some (.slice (some ⟨bf_, offf, none⟩) f.terms.length cf) ∧ w'.cell? ⟨bf_, offf + k * 4, none⟩ = some (.int .i64 y.kind) ∧ w'.cell? ⟨bf_, offf + k * 4 + 1, none⟩ = some (.int .i64 y.n) ∧ w'.cell? ⟨bf_, offf + k * 4 + 2, none⟩ = some (.string y.s) ∧ w'.cell? ⟨bf_, offf + k * 4 + 3, none⟩ = some (.slice Ay y.l.length cy))) := Lib.hid (fun hb => have hc := HYC.out _ (HW6.out.trans (hb.mono (by omega))); ⟨(HBB6.out.later hb).cell 0, (HBB6.out.later hb).cell 1, (HBT6.out.later hb).cell 2, (HBF6.out.later hb).cell 1, hc.1, hc.2.1, hc.2.2.1, hc.2.2.2⟩)
             refine wp_region_upto (S := fun w' => w'.cell? ⟨w.heap.size + 1 + 1, 0, none⟩ = some (.slice An' c.names.length cn') ∧ w'.cell? ⟨w.heap.size + 1 + 1, 1, none⟩ = some (.slice At' c.terms.length ct') ∧ w'.cell? ⟨wr.heap.size, 2, none⟩ = some (.string x.s) ∧ w'.cell? ⟨w.heap.size + 1, 1, none⟩ = some (.slice (some ⟨bf_, offf, none⟩) f.terms.length cf) ∧ w'.cell? ⟨bf_, offf + k * 4, none⟩ = some (.int .i64 y.kind) ∧ w'.cell? ⟨bf_, offf + k * 4 + 1, none⟩ = some (.int .i64 y.n) ∧ w'.cell? ⟨bf_, offf + k * 4 + 2, none⟩ = some (.string y.s) ∧ w'.cell? ⟨bf_, offf + k * 4 + 3, none⟩ = some (.slice Ay y.l.length cy)) 9 (by kernel_rfl) (by kernel_rfl) (by kernel_rfl) (by kernel_rfl) (HSL.out (Below.refl _ _).drew) ?_
             refine upto_take (i := 0) (v := ?v1_) rfl (by kernel_rfl) (by kernel_rfl) (by kernel_rfl) (by kernel_rfl) ?hq1_ ?hw1_ ?hy1_ ?rest1_
             case hq1_ => exact fun _ _ _ h => h
             case hw1_ => rfl
             case hy1_ => (intro w' hS'; (try dsimp only at hS'); go_simp; (try with_reducible rfl))
             refine upto_take (i := 1) (v := ?v2_) rfl (by kernel_rfl) (by kernel_rfl) (by kernel_rfl) (by kernel_rfl) ?hq2_ ?hw2_ ?hy2_ ?rest2_
             case hq2_ => exact fun _ _ _ h => h
             case hw2_ => rfl
             case hy2_ => (intro w' hS'; (try dsimp only at hS'); go_simp; (try with_reducible rfl))
             refine upto_take (i := 2) (v := ?v3_) rfl (by kernel_rfl) (by kernel_rfl) (by kernel_rfl) (by kernel_rfl) ?hq3_ ?hw3_ ?hy3_ ?rest3_
             case hq3_ => exact fun _ _ _ h => h
             case hw3_ => rfl
             case hy3_ => (intro w' hS'; (try dsimp only at hS'); go_simp; (try with_reducible rfl))
             refine upto_take (i := 3) (v := ?v4_) rfl (by kernel_rfl) (by kernel_rfl) (by kernel_rfl) (by kernel_rfl) ?hq4_ ?hw4_ ?hy4_ ?rest4_
             case hq4_ => exact fun _ _ _ h => h
             case hw4_ => rfl
             case hy4_ => (intro w' hS'; (try dsimp only at hS'); go_simp; (try with_reducible rfl))
             refine upto_take (i := 4) (v := ?v5_) rfl (by kernel_rfl) (by kernel_rfl) (by kernel_rfl) (by kernel_rfl) ?hq5_ ?hw5_ ?hy5_ ?rest5_
             case hq5_ => exact fun _ _ _ h => h
             case hw5_ => rfl
             case hy5_ => (intro w' hS'; (try dsimp only at hS'); go_simp; (try with_reducible rfl))
             refine upto_take (i := 5) (v := ?v6_) rfl (by kernel_rfl) (by kernel_rfl) (by kernel_rfl) (by kernel_rfl) ?hq6_ ?hw6_ ?hy6_ ?rest6_
             case hq6_ => exact fun _ _ _ h => h
             case hw6_ => rfl
             case hy6_ => (intro w' hS'; (try dsimp only at hS'); go_simp; (try with_reducible rfl))
             refine upto_take (i := 6) (v := ?v7_) rfl (by kernel_rfl) (by kernel_rfl) (by kernel_rfl) (by kernel_rfl) ?hq7_ ?hw7_ ?hy7_ ?rest7_
             case hq7_ => exact fun _ _ _ h => h
             case hw7_ => rfl
             case hy7_ => (intro w' hS'; (try dsimp only at hS'); go_simp; (try with_reducible rfl))
             refine upto_take (i := 7) (v := ?v8_) rfl (by kernel_rfl) (by kernel_rfl) (by kernel_rfl) (by kernel_rfl) ?hq8_ ?hw8_ ?hy8_ ?rest8_
             case hq8_ => exact fun _ _ _ h => h
             case hw8_ => rfl
             case hy8_ => (intro w' hS'; (try dsimp only at hS'); go_simp; (try with_reducible rfl))
             refine upto_ready (rs := [8]) (by kernel_rfl) rfl (by kernel_rfl) ?_
             refine AllUpto.cons rfl (fun K hK => ?_) AllUpto.nil
             go_simp
             refine (refBind_any (d := d) (B0 := B) (B := v6.heap.size) (cn := cn') (ct := ct') (b := c) (n := x.s) (t := y) (vt := [_, _, _, _]) (HRL.out.1.keep (Below.refl v6.heap.size v6).drew (Nat.le_refl _)) (HRL.out.2.keep (Below.refl v6.heap.size v6).drew (Nat.le_refl _)) (RTm.below (Below.refl v6.heap.size v6).drew hB6 HY6.out) HOK.out hn32 HNI.out HXS.out hB6 (Nat.le_refl _)).mono ?_
             rintro e v7 ⟨⟨An2, cn2, At2, ct2, rfl, hown⟩, hb7⟩
             have HOWN : Hid (BdO v6.heap.size B d v7 (insB c (bs x.s) y).names (insB c (bs x.s) y).terms An2 cn2 At2 ct2) := Lib.hid hown
             have HB7 : Hid (Below v6.heap.size v6 v7) := Lib.hid ((Below.refl v6.heap.size v6).drew.trans hb7)
             have HBB7 := Lib.hid (HBB6.out.later HB7.out)
             have f_b := HBB7.out.free
             have k_b7 := HBB7.out.cell
             have l_b7 := HBB7.out.lt
             clear hown hb7
             refine hK.out _ _ (HSL.out HB7.out) ?_
             clear hK
             refine upto_last (by kernel_rfl) (by kernel_rfl) rfl (fun K hK => ?_)
             go_simp
             refine hK.out _ _ ?_
             clear f_b k_b7 l_b7
             have HBB8 := Lib.hid (put2b HBB7.out (.slice An2 (insB c (bs x.s) y).names.length cn2) (.slice At2 (insB c (bs x.s) y).terms.length ct2))
             have HBP8 := Lib.hid ((((HBP6.out.later HB7.out).far (c := w.heap.size + 1 + 1) (by omega) 0 (.slice An2 (insB c (bs x.s) y).names.length cn2)).far (c := w.heap.size + 1 + 1) (by omega) 1 (.slice At2 (insB c (bs x.s) y).terms.length ct2)))
             have HBF8 := Lib.hid ((((HBF6.out.later HB7.out).far (c := w.heap.size + 1 + 1) (by omega) 0 (.slice An2 (insB c (bs x.s) y).names.length cn2)).far (c := w.heap.size + 1 + 1) (by omega) 1 (.slice At2 (insB c (bs x.s) y).terms.length ct2)))
             have HBR8 := Lib.hid ((((HBR6.out.later HB7.out).far (c := w.heap.size + 1 + 1) (by omega) 0 (.slice An2 (insB c (bs x.s) y).names.length cn2)).far (c := w.heap.size + 1 + 1) (by omega) 1 (.slice At2 (insB c (bs x.s) y).terms.length ct2)))
             have HB8 : Hid (Below w.heap.size w ((v7.setCell ⟨w.heap.size + 1 + 1, 0, none⟩ (.slice An2 (insB c (bs x.s) y).names.length cn2)).setCell ⟨w.heap.size + 1 + 1, 1, none⟩ (.slice At2 (insB c (bs x.s) y).terms.length ct2))) := Lib.hid (put2u (bthen HB6.out HB7.out) (by omega) _ _)
             have HS8 : Hid (BdS w4.heap.size B d ((v7.setCell ⟨w.heap.size + 1 + 1, 0, none⟩ (.slice An2 (insB c (bs x.s) y).names.length cn2)).setCell ⟨w.heap.size + 1 + 1, 1, none⟩ (.slice At2 (insB c (bs x.s) y).terms.length ct2)) (insB c (bs x.s) y) An2 cn2 At2 ct2) := Lib.hid (.inr ⟨(((HOWN.out.nm.far (c := w.heap.size + 1 + 1) (i := 0) (by omega) (Nat.zero_le _) _).far (c := w.heap.size + 1 + 1) (i := 1) (by omega) (Nat.zero_le _) _)).lower (by have := HZ4.out; omega), (((HOWN.out.tm.far (c := w.heap.size + 1 + 1) (i := 0) (by omega) (by omega) _).far (c := w.heap.size + 1 + 1) (i := 1) (by omega) (by omega) _)).lower (by have := HZ4.out; omega)⟩)
             have hsz8 : v6.heap.size ≤ ((v7.setCell ⟨w.heap.size + 1 + 1, 0, none⟩ (.slice An2 (insB c (bs x.s) y).names.length cn2)).setCell ⟨w.heap.size + 1 + 1, 1, none⟩ (.slice At2 (insB c (bs x.s) y).terms.length ct2)).heap.size := by simp only [World.size_setCell]; exact HB7.out.size
             have HNT : Hid (lookR c (bs x.s) = none → True) := Lib.hid (fun _ => trivial)
             generalize (v7.setCell ⟨w.heap.size + 1 + 1, 0, none⟩ (.slice An2 (insB c (bs x.s) y).names.length cn2)).setCell ⟨w.heap.size + 1 + 1, 1, none⟩ (.slice At2 (insB c (bs x.s) y).terms.length ct2) = v8 at *
             generalize hcc : insB c (bs x.s) y = c2_ at *
             have k_b := HBB8.out.cell
             have l_b := HBB8.out.lt
             by_cases hm : 32 < c2_.names.length
             · have gm : decide ((c2_.names.length : Int) > 32) = true := by simp; omega
               have gm2 : decide ((32 : Int) < (c2_.names.length : Int)) = true := by simp; omega
               have HM := Lib.hid hm
               have HNO : Hid (oneR p f b = none) := Lib.hid (by rw [HR.out, ← HSOME.out _ HFT.out]; exact fitL_many HOK2.out (fun z hz => HMP.out.2 z (List.mem_of_mem_drop hz)) (fun z hz => HMF.out.2 z (List.mem_of_mem_drop hz)) HM.out)
               have k_r := HBR8.out.cell
               have f_r := HBR8.out.free
               have l_r := HBR8.out.lt
               go_wp2_with fail
               refine bodyPost_ret (ret_bd2 rfl rfl (put2b HBR8.out (.slice none 0 0) (.slice none 0 0)) rfl) rfl ?_
               rw [HNO.out]
               exact BindR.no (put2u HB8.out (by omega) _ _)
             · have gm : decide ((c2_.names.length : Int) > 32) = false := by simp; omega
               have gm2 : decide ((32 : Int) < (c2_.names.length : Int)) = false := by simp; omega
               go_wp2_with fail
               go_roundw
               case rel => exact ⟨k + 1, c2_, An2, cn2, At2, ct2, by omega, by go_num, by omega, HB8, Lib.hid (by have := HZ4.out; omega), HBP8, HBF8, HBB8, HBR8, HS8, HOK2, Lib.hid (HSOME.out _ HFT.out)⟩
               case measure => simp [intOf]; omega
           · rw [hl] at HTM
             have HLK := Lib.hid hl
             clear hl
             simp only [Option.getD_some, Option.isSome_some] at HTM ⊢
             go_upto_region 10 with fail
             generalize hW : World.alloc _ _ = v6
             obtain ⟨hb6, hz6⟩ := al1 hW
             have HBU6 := Lib.hid (n11 hW)
             have HW6 := Lib.hid (bthen HW5.out hb6)
             have HB6 := Lib.hid (bthen HB5.out hb6)
             have HBT6 := Lib.hid (HBT5.out.later hb6)
             have HBP6 := Lib.hid (HBP5.out.later hb6)
             have HBF6 := Lib.hid (HBF5.out.later hb6)
             have HBB6 := Lib.hid (HBB5.out.later hb6)
             have HBR6 := Lib.hid (HBR5.out.later hb6)
             have HS6 := Lib.hid (HS5.out.later hb6 hB5)
             have HY6 := Lib.hid (RTm.below hb6 hB5 HY5.out)
             have hsz6 := hb6.size
             have hB6 : B ≤ v6.heap.size := by omega
             have HTM6 := Lib.hid ((HTM.out.later hb6).rtm)
             clear hW hb6 hz6
             by_cases hs : sameB u y = true
             · have HSM := Lib.hid hs
               have HFT : Hid (fit1 c x y = some c) := Lib.hid (by unfold fit1; rw [if_pos HK1.out, HLK.out]; simp only [hs, if_true])
               clear hs
               go_upto_region 14 with fail
               obtain ⟨d0, d1, d2_, d3⟩ := HYC.out v6 HW6.out
               have r0 := cell_regrown d0
               have r1 := cell_regrown d1
               have r2 := cell_regrown d2_
               have r3 := cell_regrown d3
               have q_t := HBU6.out.regrown
               have q_f := HBF6.out.regrown
               clear d0 d1 d2_ d3
               refine wp_region_quiet_below (by kernel_rfl) (by kernel_rfl) ?_
               repeat (go_big_quiet_step ((go_at_call 15; exact Calls.regrown_of (as_bool HSM.out (refSameJ_any (d := d + 1) (B := v6.heap.size) (a := u) (b := y) (va := [_, _, _, _]) (vb := [_, _, _, _]) (RTm.below (below_regrown _ _ _) (Nat.le_refl _) HTM6.out) (RTm.below (below_regrown _ _ _) (Nat.le_refl _) (RTm.more hB6 HY6.out)) (below_regrown _ _ _).size)))))
               refine wpQuiet_nil ?_
               intro v9 hw_
               have hb : Below v6.heap.size v6 v9 := by obtain ⟨p_, rfl⟩ := hw_; exact below_regrown _ _ _
               clear hw_ q_t q_f r0 r1 r2 r3
               have HB9 : Hid (Below w.heap.size w v9) := Lib.hid (HB6.out.trans (hb.mono HB6.out.size))
               have HBP9 := Lib.hid (HBP6.out.later hb)
               have HBF9 := Lib.hid (HBF6.out.later hb)
               have HBB9 := Lib.hid (HBB6.out.later hb)
               have HBR9 := Lib.hid (HBR6.out.later hb)
               have HS9 := Lib.hid (HS6.out.later hb hB6)
               have hsz9 := hb.size
               clear hb
               go_wp2_with fail
               go_roundw
               case rel => exact ⟨k + 1, c, An', cn', At', ct', by omega, by go_num, hn32, HB9, Lib.hid (by have := HZ4.out; omega), HBP9, HBF9, HBB9, HBR9, HS9, HOK, Lib.hid (HSOME.out _ HFT.out)⟩
               case measure => simp [intOf]; omega
             · simp only [Bool.not_eq_true] at hs
               have HSM := Lib.hid hs
               have HFT : Hid (fit1 c x y = none) := Lib.hid (by unfold fit1; rw [if_pos HK1.out, HLK.out]; simp [hs])
               clear hs
               go_upto_region 14 with fail
               obtain ⟨d0, d1, d2_, d3⟩ := HYC.out v6 HW6.out
               have r0 := cell_regrown d0
               have r1 := cell_regrown d1
               have r2 := cell_regrown d2_
               have r3 := cell_regrown d3
               have q_t := HBU6.out.regrown
               have q_f := HBF6.out.regrown
               clear d0 d1 d2_ d3
               refine wp_region_quiet_below (by kernel_rfl) (by kernel_rfl) ?_
               repeat (go_big_quiet_step ((go_at_call 15; exact Calls.regrown_of (as_bool HSM.out (refSameJ_any (d := d + 1) (B := v6.heap.size) (a := u) (b := y) (va := [_, _, _, _]) (vb := [_, _, _, _]) (RTm.below (below_regrown _ _ _) (Nat.le_refl _) HTM6.out) (RTm.below (below_regrown _ _ _) (Nat.le_refl _) (RTm.more hB6 HY6.out)) (below_regrown _ _ _).size)))))
               refine wpQuiet_nil ?_
               intro v9 hw_
               have hb : Below v6.heap.size v6 v9 := by obtain ⟨p_, rfl⟩ := hw_; exact below_regrown _ _ _
               clear hw_ q_t q_f r0 r1 r2 r3
               have HB9 : Hid (Below w.heap.size w v9) := Lib.hid (HB6.out.trans (hb.mono HB6.out.size))
               have HBP9 := Lib.hid (HBP6.out.later hb)
               have HBF9 := Lib.hid (HBF6.out.later hb)
               have HBB9 := Lib.hid (HBB6.out.later hb)
               have HBR9 := Lib.hid (HBR6.out.later hb)
               have HS9 := Lib.hid (HS6.out.later hb hB6)
               have hsz9 := hb.size
               clear hb
               have HNO : Hid (oneR p f b = none) := Lib.hid (HNONE.out HFT.out)
               have k_r := HBR9.out.cell
               have f_r := HBR9.out.free
               have l_r := HBR9.out.lt
               go_wp2_with fail
               refine bodyPost_ret (ret_bd2 rfl rfl (put2b HBR9.out (.slice none 0 0) (.slice none 0 0)) rfl) rfl ?_
               rw [HNO.out]
               exact BindR.no (put2u HB9.out (by omega) _ _)
         · have HE : Hid (oneR p f b = some c) := Lib.hid (by
             rw [HR.out, ← HFIT.out, fitL_end k (by omega)]
             unfold okB
             simp only [HOK.out.bd hn32, if_true])
           have k_b := HBB.out.cell
           have l_b := HBB.out.lt
           have k_r := HBR.out.cell
           have f_r := HBR.out.free
           have l_r := HBR.out.lt
           go_wp2_with fail
           refine bodyPost_ret (ret_bd2 rfl rfl (put2b HBR.out (.slice An' c.names.length cn') (.slice At' c.terms.length ct')) rfl) rfl ?_
           rw [HE.out]
           have hS := (HBS.out.far (g := w.heap.size + 1 + 1 + 1) (by omega) (by omega) 0 (.slice An' c.names.length cn')).far (g := w.heap.size + 1 + 1 + 1) (by omega) (by omega) 1 (.slice At' c.terms.length ct')
           have hRd := hS.reads (by simp only [World.size_setCell]; omega) (by omega) (by omega)
           exact ⟨⟨An', cn', At', ct', rfl, hRd.1, hRd.2.tmR⟩, put2u HWR.out (by omega) _ _⟩
     · simp only [Bool.not_eq_true] at h3
       rw [h3]
       have HNO : Hid (oneR p f b = none) := Lib.hid (by unfold oneR; rw [if_neg]; rintro ⟨q1, q2, q3⟩; simp [h3] at *)
       have k_p := b_p_4.cell
       have l_p := b_p_4.lt
       have k_f := b_f_4.cell
       have l_f := b_f_4.lt
       have k_b := b_b_4.cell
       have l_b := b_b_4.lt
       have k_r := b_r_4.cell
       have l_r := b_r_4.lt
       have f_r := b_r_4.free
       have b_R := Lib.hid b_r_4
       go_wp2_with fail
       refine bodyPost_ret (ret_bd2 rfl rfl (put2b b_R.out (.slice none 0 0) (.slice none 0 0)) rfl) rfl ?_
       rw [HNO.out]
       exact BindR.no (put2u HB4.out (by omega) _ _)
   · simp only [Bool.not_eq_true] at h2
     rw [h2]
     have HNO : Hid (oneR p f b = none) := Lib.hid (by unfold oneR; rw [if_neg]; rintro ⟨q1, q2, q3⟩; simp [h2] at *)
     have k_p := b_p_3.cell
     have l_p := b_p_3.lt
     have k_f := b_f_3.cell
     have l_f := b_f_3.lt
     have k_b := b_b_3.cell
     have l_b := b_b_3.lt
     have k_r := b_r_3.cell
     have l_r := b_r_3.lt
     have f_r := b_r_3.free
     have b_R := Lib.hid b_r_3
     go_wp2_with fail
     refine bodyPost_ret (ret_bd2 rfl rfl (put2b b_R.out (.slice none 0 0) (.slice none 0 0)) rfl) rfl ?_
     rw [HNO.out]
     exact BindR.no (put2u HB3.out (by omega) _ _)
 · simp only [Bool.not_eq_true] at h1
   rw [h1]
   have HNO : Hid (oneR p f b = none) := Lib.hid (by unfold oneR; rw [if_neg]; rintro ⟨q1, q2, q3⟩; simp [h1] at *)
   have k_p := b_p_2.cell
   have l_p := b_p_2.lt
   have k_f := b_f_2.cell
   have l_f := b_f_2.lt
   have k_b := b_b_2.cell
   have l_b := b_b_2.lt
   have k_r := b_r_2.cell
   have l_r := b_r_2.lt
   have f_r := b_r_2.free
   have b_R := Lib.hid b_r_2
   go_wp2_with fail
   refine bodyPost_ret (ret_bd2 rfl rfl (put2b b_R.out (.slice none 0 0) (.slice none 0 0)) rfl) rfl ?_
   rw [HNO.out]
   exact BindR.no (put2u HB2.out (by omega) _ _)
end Go.Proofs.YtkdonhhbpacgmaaGreat
