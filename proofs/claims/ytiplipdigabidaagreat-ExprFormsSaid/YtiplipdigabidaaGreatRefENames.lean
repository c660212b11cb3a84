/- viaticumref11.ExprNames. -/
import Derived.Test.YtiplipdigabidaaGreatRe4
import Derived.Test.YtiplipdigabidaaGreatApp
set_option linter.unusedVariables false
set_option linter.unusedSimpArgs false
namespace Go.Proofs.YtiplipdigabidaaGreat
open Go.ChangeShapes Go.WideShapes Go.ChangeAt Go.RowKit
set_option maxRecDepth 100000 in
set_option maxHeartbeats 4000000 in
theorem refTrue_any {D B cn ct : Nat} {ops : List OpD} {evs : List Value} {b : Bd} {An At : Option Addr} {w : World} {m : Int} (he : (ExR (D + 1)).rd w B ops evs) (hn : RL StrR w B (b.names.map mkS) An) (ht : RL (TmR (D + 1)) w B b.terms At) (hn1 : b.names.length * 8 ≤ 140737488351232) (hB : B ≤ w.heap.size) (hm0 : w.cell? ⟨0, 0, none⟩ = some (.int .i64 m)) (h0 : 0 < w.heap.size) :
   Calls Tryz.prog 23 #[.agg evs.toArray, .agg (bdV An b.names.length cn At b.terms.length ct)] w fun e w' => e = .returned (.tuple #[.bool (trueT (evalE b ops)).1, .int .i64 (trueT (evalE b ops)).2]) ∧ Below w.heap.size w w' := by
 have HE := Lib.hid he
 have HN := Lib.hid hn
 have HT := Lib.hid ht
 have HM := Lib.hid hm0
 clear hn ht hm0
 obtain ⟨_, rfl, Ao, co, rfl, hc1, hc2, hl⟩ := he
 simp only [OpR] at hc2
 clear hl
 unfold bdV
 go_enter Tryz.func23, Tryz.ntmps23
 go_wp2_with fail
 generalize hW : World.alloc _ _ = w1
 obtain ⟨hb1, hz⟩ := al2 hW
 have HB1 := Lib.hid hb1
 clear hW
 refine (refEval_any (evs := [_]) (D := D) (cn := cn) (ct := ct) ((ExR (D + 1)).keep hb1 hB HE.out) (HN.out.keep hb1 hB) (HT.out.keep hb1 hB) hn1 (Nat.le_trans hB hb1.size) ((hb1.cell (p := ⟨0, 0, none⟩) h0).trans HM.out) (Nat.lt_of_lt_of_le h0 hb1.size)).mono ?_
 rintro z w2 ⟨⟨A, c, rfl, hrd⟩, hb⟩
 have HB2 := Lib.hid (bthen HB1.out hb)
 clear hb hb1 hrd
 generalize hr : evalE b ops = r
 have HRR := Lib.hid hr
 clear hr
 go_upto_region 2 with fail
 generalize hW : World.alloc _ _ = w3
 obtain ⟨hb, hz3⟩ := al1 hW
 have b_t := n11 hW
 have HB3 := Lib.hid (bthen HB2.out hb)
 clear hb hW
 have k_t := b_t.cell
 by_cases he : r.2 = 0
 · have p1 : (r.2 != 0) = false := by simp [he]
   by_cases hk : r.1.kind = 6
   · have p2 : (r.1.kind != 6) = false := by simp [hk]
     have HR := Lib.hid (trueT_is he hk)
     clear he hk
     go_wp2_with fail
     go_ret2
     rw [HRR.out, HR.out]
     exact ⟨rfl, HB3.out⟩
   · have p2 : (r.1.kind != 6) = true := by simpa using hk
     have HR := Lib.hid (trueT_kind he hk)
     clear he hk
     go_wp2_with fail
     go_ret2
     rw [HRR.out, HR.out]
     exact ⟨rfl, HB3.out⟩
 · have p1 : (r.2 != 0) = true := by simpa using he
   have HR := Lib.hid (trueT_err he)
   clear he
   go_wp2_with fail
   go_ret2
   rw [HRR.out, HR.out]
   exact ⟨rfl, HB3.out⟩
set_option maxRecDepth 100000 in
set_option maxHeartbeats 2000000 in
theorem sameTexts_any {L : List Bytes} {A A' : Option Addr} {c c' B : Nat} {w : World} (hl : RL StrR w B (L.map mkS) A) (hm : RL StrR w B (L.map mkS) A') (hB : B ≤ w.heap.size) (hn : L.length ≤ 1000000) :
   Calls Tryz.prog 27 #[.slice A L.length c, .slice A' L.length c'] w fun e w' => e = .returned (.bool true) ∧ Below w.heap.size w w' := by
 have HL := Lib.hid hl
 have HM := Lib.hid hm
 clear hl hm
 go_enter Tryz.func27, Tryz.ntmps27
 go_wp2_with fail
 go_loopw [13] (fun i wr => ∃ k : Nat, k ≤ L.length ∧ i = .int .i64 k ∧ Hid (Below w.heap.size w wr)) (fun i _ => L.length - (intOf i).toNat)
 case atStart => exact ⟨0, Nat.zero_le _, rfl, Lib.hid (Below.refl _ _)⟩
 case round =>
   obtain ⟨k, hk, rfl, HW⟩ := hrel
   have hBr := Nat.le_trans hB HW.out.size
   by_cases hlt : k < L.length
   · obtain ⟨b1, o1, rfl, hb1, hc1⟩ := strs_at (HL.out.keep HW.out hB) (Below.refl _ _) hBr (by omega)
     obtain ⟨b2, o2, rfl, hb2, hc2⟩ := strs_at (HM.out.keep HW.out hB) (Below.refl _ _) hBr (by omega)
     have c1 := hc1 k hlt
     have c2 := hc2 k hlt
     clear hc1 hc2 hb1 hb2
     have hq : ((mkS L[k]).toList != (mkS L[k]).toList) = false := by simp
     generalize mkS L[k] = nk at *
     go_wp2_with fail
     go_region
     go_wp2_with fail
     go_roundw
     case rel => exact ⟨k + 1, by omega, by go_num, Lib.hid (HW.out.trans (Below.refl _ _).drew)⟩
     case measure => simp [intOf]; omega
   · go_wp2_with fail
     go_ret
     exact ⟨rfl, HW.out⟩
open Go.ChangeShapes Go.WideShapes Go.ChangeAt Go.RowKit
set_option maxRecDepth 100000 in
set_option maxHeartbeats 2000000 in
theorem refExprNames_any {d B : Nat} {e : List OpD} {vs : List Value} {w : World} (he : (ExR d).rd w B e vs) (hB : B ≤ w.heap.size) :
   Calls Tryz.prog 28 #[.agg vs.toArray] w fun x w' => (∃ v, x = .returned v ∧ ReadsS w' (namesE e) v) ∧ Below w.heap.size w w' := by
 have HP := Lib.hid he
 obtain ⟨_, rfl, A, c, rfl, h1, h2, hl⟩ := he
 simp only [OpR] at h2
 have HL := Lib.hid hl
 clear hl
 go_enter Tryz.func28, Tryz.ntmps28
 go_wp2_with fail
 generalize hW : World.alloc _ _ = W
 obtain ⟨hb, hz⟩ := al1 hW
 have ba := n11 hW
 refine (refMayExpr_any (d := d) (B := B) (e := e) (vs := [_]) ((ExR d).keep hb hB HP.out) (by omega)).mono ?_
 rintro x w2 ⟨rfl, hb2⟩
 have HB2 := Lib.hid (bthen hb hb2)
 have ca := (ba.later hb2).cell
 have la := (ba.later hb2).lt
 clear hW hb hz hb2 ba
 by_cases hm : mayExprB e = true
 rotate_left
 · simp only [Bool.not_eq_true] at hm
   have HM := Lib.hid hm
   rw [hm]
   clear hm
   go_wp2_with fail
   go_ret
   exact ⟨⟨_, rfl, by unfold namesE; rw [HM.out]; exact ReadsS.nil _⟩, HB2.out⟩
 have HM := Lib.hid hm
 have hel : e.length ≤ 32 := by
   unfold mayExprB at hm
   simp only [Bool.and_eq_true, decide_eq_true_eq] at hm
   exact hm.1
 rw [hm]
 clear hm
 have hB2 : B ≤ w2.heap.size := Nat.le_trans hB HB2.out.size
 go_wp2_with fail
 go_loopw [3, 12] (fun v i wr => ∃ k : Nat, k ≤ e.length ∧ i = .int .i64 k ∧ ReadsS wr (uniqL (exprVars (e.take k))) v ∧ Below w2.heap.size w2 wr) (fun _ i _ => e.length - (intOf i).toNat)
 case atStart => exact ⟨0, Nat.zero_le _, rfl, by rw [List.take_zero, show uniqL (exprVars []) = [] from List.eq_nil_of_length_eq_zero (Nat.le_zero.1 (uniqL_length []))]; exact ReadsS.nil w2, Below.refl _ _⟩
 case round =>
   obtain ⟨k, hk, rfl, hown, hbw⟩ := hrel
   have HO := Lib.hid hown
   clear hown
   by_cases hlt : k < e.length
   · have hl := HL.out.keep HB2.out hB
     obtain ⟨b, off, rfl, hob⟩ := hl.base hbw hB2 (by omega)
     obtain ⟨o, vs, hx, hlen, hcell, hr⟩ := hl.at_ hbw hB2 hlt
     obtain ⟨Ao, co, rfl, hk1, hk2, hk3, ht⟩ := OpR.cells hr
     obtain ⟨_, _, _, _, _, hsx, _⟩ := RTm.cells ht
     have c0 : wr.cell? ⟨b, off + k * 7, none⟩ = some (.int .i64 o.kind) := hcell 0 _ rfl
     have c1 : wr.cell? ⟨b, off + k * 7 + 1, none⟩ = some (.int .i64 o.term.kind) := hcell 1 _ rfl
     have c2 : wr.cell? ⟨b, off + k * 7 + 2, none⟩ = some (.int .i64 o.term.n) := hcell 2 _ rfl
     have c3 : wr.cell? ⟨b, off + k * 7 + 3, none⟩ = some (.string o.term.s) := hcell 3 _ rfl
     have c4 : wr.cell? ⟨b, off + k * 7 + 4, none⟩ = some (.slice Ao o.term.l.length co) := hcell 4 _ rfl
     have c5 : wr.cell? ⟨b, off + k * 7 + 5, none⟩ = some (.int .i64 o.code) := hcell 5 _ rfl
     have c6 : wr.cell? ⟨b, off + k * 7 + 6, none⟩ = some (.int .i64 o.skip) := hcell 6 _ rfl
     have HX := Lib.hid (exprVars_succ hx)
     have HLN : Hid ((uniqL (exprVars (e.take k))).length ≤ 1000000) := by
       have h3 := uniqL_length (exprVars (e.take k))
       have h4 := exprVars_le (e.take k)
       have h5 := List.length_take_le k e
       exact (by omega : (uniqL (exprVars (e.take k))).length ≤ 1000000)
     have HBw := Lib.hid hbw
     have hszr := hbw.size
     clear hl hcell hlen hx hr ht hbw
     have hc : ((o.kind == 1) = true ∧ (o.term.kind == 1) = true) ∨ ((o.kind == 1) = true ∧ (o.term.kind == 1) = false) ∨ (o.kind == 1) = false := by
       cases (o.kind == 1) <;> cases (o.term.kind == 1) <;> simp
     rcases hc with ⟨q1, q2⟩ | hc
     · have HV : Hid (isVar o = true) := by
         rw [beq_iff_eq] at q1 q2
         unfold isVar
         rw [decide_eq_true q1, decide_eq_true q2]
         exact rfl
       go_wp2_with fail
       generalize hW2 : World.alloc _ _ = W2
       obtain ⟨hb2, hz2⟩ := al1 hW2
       refine (withV_any (HO.out.later hb2) HLN.out hsx).mono ?_
       rintro x w4 ⟨⟨v4, rfl, h4⟩, hb4⟩
       have HN : Hid (ReadsS w4 (uniqL (exprVars (e.take (k + 1)))) v4) := by
         rw [HX.out, if_pos HV.out, ← withL_uniq]
         exact h4
       have HB4 := Lib.hid (bthen HBw.out (bthen hb2 hb4))
       clear hW2 hb2 hz2 hb4 h4
       go_wp2_with fail
       go_roundw
       case rel => exact ⟨k + 1, by omega, by go_num, HN.out, HB4.out⟩
       case measure => simp [intOf]; omega
     · have HV : Hid (isVar o = false) := by
         unfold isVar
         rcases hc with ⟨q1, q2⟩ | q1
         · rw [beq_eq_false_iff_ne] at q2
           rw [decide_eq_false q2, Bool.and_false]
           exact rfl
         · rw [beq_eq_false_iff_ne] at q1
           rw [decide_eq_false q1, Bool.false_and]
           exact rfl
       have HN : Hid (uniqL (exprVars (e.take (k + 1))) = uniqL (exprVars (e.take k))) := by
         rw [HX.out, if_neg (by rw [HV.out]; simp), List.append_nil]
         exact rfl
       have HBel := Lib.hid (fun o : Obj => (Below.refl wr.heap.size wr).alloc (Nat.le_refl _) o)
       rcases hc with ⟨q1, q2⟩ | q1
       all_goals
         go_wp2_with fail
         go_roundw
         case rel => exact ⟨k + 1, by omega, by go_num, by rw [HN.out]; exact HO.out.later (HBel.out _), bthen HBw.out (HBel.out _)⟩
         case measure => simp [intOf]; omega
   · have HE : Hid (e.take k = e) := List.take_of_length_le (by omega)
     have HB3 := Lib.hid (bthen HB2.out hbw)
     clear hbw
     go_wp2_with fail
     go_ret
     exact ⟨⟨_, rfl, by have := HO.out; rw [HE.out] at this; unfold namesE; rw [HM.out]; exact this⟩, HB3.out⟩
end Go.Proofs.YtiplipdigabidaaGreat
