/- rule: body, MayQuery, May. -/
import Derived.Test.YtkdonhhbpacgmaaGreatExpr2
set_option linter.unusedVariables false
set_option linter.unusedSimpArgs false
namespace Go.Proofs.YtkdonhhbpacgmaaGreat
open Go.ChangeShapes Go.WideShapes Go.ChangeAt Go.RowKit
def mayExprB (e : List OpD) : Bool := decide (e.length ≤ 32) && wholeG 0 e
set_option maxRecDepth 100000 in
set_option maxHeartbeats 1000000 in
theorem mayExpr_any {d B : Nat} {e : List OpD} {vs : List Value} {w : World} (he : (ExR d).rd w B e vs) (hB : B ≤ w.heap.size) :
   Calls Tryz.prog 102 #[.agg vs.toArray] w fun x w' => x = .returned (.bool (mayExprB e)) ∧ Below w.heap.size w w' := by
 obtain ⟨_, rfl, A, c, rfl, hc1, hc2, hl⟩ := he
 have HB := Lib.hid (fun o : Obj => (Below.refl w.heap.size w).alloc (Nat.le_refl _) o)
 have HL := Lib.hid hl
 simp only [OpR] at hc2
 clear hl
 by_cases hn : (e.length : Int) ≤ 32
 · go_enter Tryz.func102, Tryz.ntmps102
   go_wp2_with fail
   refine (whole_all d e.length e A c B _ (Nat.le_refl _) (HL.out.keep (HB.out _) hB) (Nat.le_trans hB (HB.out _).size) hc1 (by omega)).mono ?_
   rintro x w1 ⟨rfl, hb1⟩
   have hfin := Lib.hid ((HB.out _).trans (hb1.mono (HB.out _).size))
   clear hb1
   go_wp2_with fail
   go_ret
   exact ⟨ret_bool (by rw [mayExprB, show decide (e.length ≤ 32) = true by simp; omega]; simp), hfin.out⟩
 · have hn' : decide ((e.length : Int) ≤ 32) = false := by simpa using hn
   go_enter Tryz.func102, Tryz.ntmps102
   go_wp2_with fail
   go_ret
   exact ⟨ret_bool (by rw [mayExprB, show decide (e.length ≤ 32) = false by simp; omega]; simp), HB.out _⟩
def isVar (o : OpD) : Bool := decide (o.kind = 1) && decide (o.term.kind = 1)
def exprVars (e : List OpD) : List Bytes := (e.filter isVar).map (fun o => bs o.term.s)
def namesE (e : List OpD) : List Bytes := if mayExprB e then uniqL (exprVars e) else []
theorem exprVars_succ {e : List OpD} {k : Nat} {o : OpD} (h : e[k]? = some o) : exprVars (e.take (k + 1)) = exprVars (e.take k) ++ (if isVar o then [bs o.term.s] else []) := by
 obtain ⟨h1, h2⟩ := List.getElem?_eq_some_iff.1 h
 rw [List.take_succ_eq_append_getElem h1, h2]
 by_cases hk : isVar o = true
 · simp [exprVars, hk]
 · simp [exprVars, (by simpa using hk : isVar o = false)]
theorem exprVars_le (e : List OpD) : (exprVars e).length ≤ e.length := by
 unfold exprVars; rw [List.length_map]; exact List.length_filter_le _ _
set_option maxRecDepth 100000 in
set_option maxHeartbeats 2000000 in
theorem exprNames_any {d B : Nat} {e : List OpD} {vs : List Value} {w : World} (he : (ExR d).rd w B e vs) (hB : B ≤ w.heap.size) :
   Calls Tryz.prog 107 #[.agg vs.toArray] w fun x w' => ∃ v, x = .returned v ∧ OwnS w' w.heap.size v (namesE e) ∧ Below w.heap.size w w' := by
 obtain ⟨i0, hi, hz0, hz1, hz2⟩ := info_parts infoStr
 have he0 := he
 obtain ⟨_, rfl, A, c, rfl, hc1, hc2, hl⟩ := he
 have HB := Lib.hid (fun o : Obj => (Below.refl w.heap.size w).alloc (Nat.le_refl _) o)
 have HL := Lib.hid hl
 have HE := Lib.hid he0
 simp only [OpR] at hc2
 clear hl he0
 by_cases hm : mayExprB e = true
 · have hlen : e.length ≤ 32 := by unfold mayExprB at hm; simp at hm; exact hm.1
   go_enter Tryz.func107, Tryz.ntmps107
   go_wp2_with fail
   refine (mayExpr_any (d := d) (B := B) (e := e) (vs := [_]) ((ExR d).keep (HB.out _) hB HE.out) (Nat.le_trans hB (HB.out _).size)).mono ?_
   rintro x w1 ⟨rfl, hb1⟩
   have hq : w1.cell? ⟨w.heap.size, 0, none⟩ = some (.slice A e.length c) := (hb1.cell (p := ⟨w.heap.size, 0, none⟩) (by simp)).trans (by go_simp)
   have HB1 := Lib.hid ((HB.out _).trans (hb1.mono (HB.out _).size))
   clear hb1
   go_wp2_with fail
   go_loopw [3, 12] (fun v i wr => ∃ k : Nat, k ≤ e.length ∧ i = .int .i64 k ∧ OwnS wr w.heap.size v (exprVars (e.take k)) ∧ Below w.heap.size w wr) (fun _ i _ => e.length - (intOf i).toNat)
   case atStart => exact ⟨0, Nat.zero_le _, rfl, World.ownsRow_nil _ _ _ _, HB1.out⟩
   case round =>
     obtain ⟨k, hk, rfl, hown, hbw⟩ := hrel
     by_cases hlt : k < e.length
     · obtain ⟨b, off, rfl, hb⟩ := HL.out.base hbw hB (by omega)
       obtain ⟨o, vs, hx, hlen', hcell, hr⟩ := HL.out.at_ hbw hB hlt
       obtain ⟨Ao, co, rfl, _⟩ := OpR.cells hr
       have c0 : wr.cell? ⟨b, off + k * 7, none⟩ = some (.int .i64 o.kind) := hcell 0 _ rfl
       have c1 : wr.cell? ⟨b, off + k * 7 + 1, none⟩ = some (.int .i64 o.term.kind) := hcell 1 _ rfl
       have c2 : wr.cell? ⟨b, off + k * 7 + 2, none⟩ = some (.int .i64 o.term.n) := hcell 2 _ rfl
       have c3 : wr.cell? ⟨b, off + k * 7 + 3, none⟩ = some (.string o.term.s) := hcell 3 _ rfl
       have c4 : wr.cell? ⟨b, off + k * 7 + 4, none⟩ = some (.slice Ao o.term.l.length co) := hcell 4 _ rfl
       have c5 : wr.cell? ⟨b, off + k * 7 + 5, none⟩ = some (.int .i64 o.code) := hcell 5 _ rfl
       have c6 : wr.cell? ⟨b, off + k * 7 + 6, none⟩ = some (.int .i64 o.skip) := hcell 6 _ rfl
       have HX := Lib.hid (exprVars_succ hx)
       have HT : Hid ((exprVars (e.take k)).length ≤ 32) := Nat.le_trans (exprVars_le _) (by rw [List.length_take]; omega)
       have HO := Lib.hid hown
       have HG := Lib.hid (fun g (hg : u3.ownBlock = some g) => ((HO.out.lt g hg).1 : w.heap.size ≤ g))
       have hszr := hbw.size
       clear hcell hlen' hx hr hown
       have hcases : ((o.kind == 1) = true ∧ (o.term.kind == 1) = true) ∨ ((o.kind == 1) = true ∧ (o.term.kind == 1) = false) ∨ (o.kind == 1) = false := by
         cases (o.kind == 1) <;> cases (o.term.kind == 1) <;> simp
       rcases hcases with ⟨h1, h2⟩ | ⟨h1, h2⟩ | h1
       · have HK : Hid (isVar o = true) := by
           show isVar o = true
           simp only [beq_iff_eq] at h1 h2
           simp [isVar, h1, h2]
         go_wp2_with (at_builtin; refine wpList_append_own _ rfl (.tmp 25) (.tmp 29) 25 rfl w.heap.size 9 i0 (.string ⟨#[]⟩) 1 16 Tryz.underlying25 hi hz0 hz1 hz2 rfl (by decide) _ _ _ rfl (World.ownsRow.alloc (World.ownsRow.alloc HO.out _) _) ⟨wr.heap.size + 1, 0, none⟩ 1 1 [.string o.term.s] rfl rfl ?c1 ?c2 ?c3 ?c4 ?c5 ?_)
         case c1 =>
           intro i u hi
           match i, hi with
           | 0, hi =>
             simp only [List.getElem?_cons_zero, Option.some.injEq] at hi
             subst hi
             simp [Addr.add]
         case c2 => intro u hu; simp at hu; subst hu; rfl
         case c3 => have := HT.out; unfold maxLen; omega
         case c4 => have := HT.out; omega
         case c5 => simp; omega
         intro v' w' hown' hgrow _
         have hnew : OwnS w' w.heap.size v' (exprVars (e.take (k + 1))) := by
           rw [HX.out, if_pos HK.out]
           unfold OwnS
           simpa [encStr_bs] using hown'
         have hbelow : Below w.heap.size w w' := by
           refine Below.grown (w := (wr.alloc _).alloc _) ((hbw.alloc hszr _).alloc (by simp; omega) _) hgrow (by simp; omega) ?_
           intro g hg
           exact HG.out g hg
         clear hown' hgrow
         go_wp2
         go_roundw
         case rel => exact ⟨k + 1, by omega, by go_num, hnew, hbelow⟩
         case measure => simp [intOf]; omega
       all_goals
         have HK : Hid (isVar o = false) := by
           show isVar o = false
           simp only [beq_iff_eq, beq_eq_false_iff_ne] at *
           simp [isVar, *]
         have HN := Lib.hid (fun ob : Obj => (World.ownsRow.alloc HO.out ob : OwnS (wr.alloc ob) w.heap.size u3 (exprVars (e.take k))))
         have HBel := Lib.hid (fun o : Obj => hbw.alloc hszr o)
         go_wp2_with fail
         go_roundw
         case rel => exact ⟨k + 1, by omega, by go_num, by rw [HX.out, if_neg (by rw [HK.out]; simp), List.append_nil]; exact HN.out _, HBel.out _⟩
         case measure => simp [intOf]; omega
     · have hown' : OwnS wr w.heap.size u3 (exprVars e) := by rwa [List.take_of_length_le (by omega)] at hown
       have HO := Lib.hid hown'
       have hle := exprVars_le e
       clear hown hown'
       go_wp2_with fail
       refine (sortS_any _ w.heap.size _ _ HO.out hbw.size (by omega)).mono ?_
       rintro x w1 ⟨rfl, hs1, hb1⟩
       have HS := Lib.hid hs1
       have HB1 := Lib.hid (hbw.trans hb1)
       clear hs1 hb1
       go_wp2_with fail
       refine (compactS_any _ w.heap.size _ _ HS.out (by rw [sortL_length]; omega)).mono ?_
       rintro x w2 ⟨v', rfl, hs2, hb2⟩
       have HS2 := Lib.hid hs2
       have HB2 := Lib.hid (HB1.out.trans hb2)
       clear hs2 hb2
       go_wp2_with fail
       go_ret
       exact ⟨_, rfl, by rw [namesE, if_pos hm]; exact HS2.out, HB2.out⟩
 · have hm' : mayExprB e = false := by simpa using hm
   go_enter Tryz.func107, Tryz.ntmps107
   go_wp2_with fail
   refine (mayExpr_any (d := d) (B := B) (e := e) (vs := [_]) ((ExR d).keep (HB.out _) hB HE.out) (Nat.le_trans hB (HB.out _).size)).mono ?_
   rintro x w1 ⟨rfl, hb1⟩
   have HB1 := Lib.hid ((HB.out _).trans (hb1.mono (HB.out _).size))
   clear hb1
   go_wp2_with fail
   go_ret
   exact ⟨_, rfl, by rw [namesE, if_neg hm]; exact World.ownsRow_nil _ _ _ _, HB1.out⟩
open Go.ChangeShapes Go.WideShapes Go.ChangeAt Go.RowKit
theorem namesE_len (e : List OpD) : (namesE e).length ≤ 32 := by
 unfold namesE
 split
 · rename_i h
   unfold mayExprB at h
   simp only [Bool.and_eq_true, decide_eq_true_eq] at h
   exact Nat.le_trans (uniqL_length _) (Nat.le_trans (exprVars_le e) h.1)
 · simp
def smallE (e : List OpD) : Prop := ∀ o ∈ e, o.term.s.size ≤ 140737488351232
theorem namesE_small {e : List OpD} (h : smallE e) : ∀ l ∈ namesE e, l.length ≤ 140737488351232 := by
 intro l hl
 unfold namesE at hl
 split at hl
 · rw [mem_uniqL] at hl
   unfold exprVars at hl
   simp only [List.mem_map, List.mem_filter] at hl
   obtain ⟨o, ⟨ho, _⟩, rfl⟩ := hl
   rw [bs_length]
   exact h o ho
 · simp at hl
theorem ExR.small {d B : Nat} {e : List OpD} {vs : List Value} {w : World} (he : (ExR d).rd w B e vs) : smallE e := by
 obtain ⟨_, _, A, c, _, _, _, hl⟩ := he
 intro o ho
 obtain ⟨i, hi, rfl⟩ := List.getElem_of_mem ho
 obtain ⟨b, off, rfl, hb, hc⟩ := hl (by omega)
 obtain ⟨vs, _, ⟨x, hx, hr⟩, _⟩ := hc i hi
 obtain ⟨ts, _, _, _, _, ht⟩ := hr
 obtain ⟨_, _, _, _, _, hs, _⟩ := RTm.cells ht
 rw [List.getElem?_eq_getElem hi] at hx
 simp only [Option.some.injEq] at hx
 rw [hx]; exact hs
set_option maxRecDepth 100000 in
set_option maxHeartbeats 1000000 in
theorem bodyLit_any (d : Nat) (L : List Bytes) (A : Option Addr) (c B G : Nat) (w : World) (hl : RL StrR w B (L.map mkS) A) (hB : B ≤ w.heap.size) (hn : L.length ≤ 1000000) (hs : L.Pairwise (· < ·))
   (hG : w.cell? ⟨G, 0, none⟩ = some (.slice A L.length c)) :
   Tells Tryz.prog (ExR d) aggOf B w 106 #[.pointer (some ⟨G, 0, none⟩)] (fun e => !knownB (namesE e) L) := by
 intro e vs w1 hb hr
 have hr0 := hr
 have hsm := ExR.small hr
 obtain ⟨v, rfl, h3⟩ := hr
 obtain ⟨A1, c1, rfl, _⟩ := h3
 have hGl : G < w.heap.size := block_lt_of_cell hG
 have hG1 : w1.cell? ⟨G, 0, none⟩ = some (.slice A L.length c) := (hb.cell (p := ⟨G, 0, none⟩) hGl).trans hG
 have hGl1 : G < w1.heap.size := by have := hb.size; omega
 have HL := Lib.hid (hl.keep hb hB)
 have HR := Lib.hid hr0
 have HSM := Lib.hid (namesE_small hsm)
 have hNL := namesE_len e
 have HS := Lib.hid hs
 have HB := Lib.hid (fun o : Obj => (Below.refl w1.heap.size w1).alloc (Nat.le_refl _) o)
 have hB1 : B ≤ w1.heap.size := by have := hb.size; omega
 clear hl hG hb hs hr0
 show Calls Tryz.prog 106 #[.agg #[.slice A1 e.length c1], .pointer (some ⟨G, 0, none⟩)] w1 _
 go_enter Tryz.func106, Tryz.ntmps106
 go_wp2_with fail
 have HW := Lib.hid (HB.out (.cells #[.slice A1 e.length c1] 51))
 have x0 : (w1.alloc (.cells #[.slice A1 e.length c1] 51)).cell? ⟨w1.heap.size, 0, none⟩ = some (.slice A1 e.length c1) := by go_simp
 have x1 : (w1.alloc (.cells #[.slice A1 e.length c1] 51)).cell? ⟨G, 0, none⟩ = some (.slice A L.length c) := by go_simp
 generalize (w1.alloc (.cells #[.slice A1 e.length c1] 51)) = W at *
 have q0 := cell_regrown x0
 have q1 := cell_regrown x1
 refine wp_region_mix (Grew W) (by kernel_rfl) (by kernel_rfl) (Grew.drew W) ?_
 repeat (refine mix_quiet rfl rfl (fun K hK => ?_); unfold Grew; go_big_quiet_op; refine hK _ ?_; clear hK K)
 refine mix_loud rfl rfl (fun K hK => ?_)
 go_wp2_with fail
 refine (exprNames_any (d := d) (B := B) (e := e) (vs := [_]) ((ExR d).keep HW.out.drew hB1 HR.out) (Nat.le_trans hB1 HW.out.size)).mono ?_
 rintro x w2 ⟨v2, rfl, hown, hb2⟩
 obtain ⟨A2, c2, rfl, hc2, hrl⟩ := hown.reads HSM.out (by omega)
 have HB2 := Lib.hid (HW.out.trans ((Below.refl _ W).drew.trans (hb2.mono (Nat.le_refl _)) |>.mono HW.out.size))
 have HC := Lib.hid (Grew.of ((Below.refl W.heap.size W).drew.trans (hb2.mono (Nat.le_refl _))))
 have HRL := Lib.hid hrl
 clear hown hb2 hrl
 go_wp2_with fail
 refine ⟨HC.out, ?_⟩
 repeat (refine mix_quiet rfl rfl (fun K hK => ?_); unfold Grew; go_big_quiet_op; refine hK _ ?_; clear hK K)
 refine mix_loud rfl rfl (fun K hK => ?_)
 go_wp2_with fail
 refine (known_any (namesE e) L A2 A c2 c w2.heap.size w2 HRL.out ((HL.out.keep HB2.out hB1).wide (Nat.le_trans hB1 HB2.out.size)) (Nat.le_refl _) (by omega) hn HS.out).mono ?_
 rintro x w3 ⟨rfl, hb3⟩
 have HC3 := Lib.hid (Grew.of (HC.out.below.trans (hb3.mono HC.out.below.size)))
 have HB3 := Lib.hid (HB2.out.trans (hb3.mono HB2.out.size))
 clear hb3
 go_wp2_with fail
 refine ⟨HC3.out, ?_⟩
 repeat (refine mix_quiet rfl rfl (fun K hK => ?_); unfold Grew; go_big_quiet_op; refine hK _ ?_; clear hK K)
 refine mix_nil (fun _ => ?_)
 go_wp2_with fail
 go_ret
 exact ⟨rfl, HB3.out⟩
end Go.Proofs.YtkdonhhbpacgmaaGreat
