/- Appending to a slice of the call's own, in a region that draws its order: which row is written; blocks that no append writes. -/
import Derived.Test.YtiplipdigabidaaGreatReadsS
import Derived.Test.YtiplipdigabidaaGreatOwnS
import Derived.Test.YtiplipdigabidaaGreatHeld
import Derived.Test.YtiplipdigabidaaGreatReg3
import Derived.Test.YtiplipdigabidaaGreatMat1
import Derived.RegionTactic
import Derived.Deep.RegionHeld3
import Derived.Deep.RegionLaw
import Derived.Deep.DeepCutAuto
set_option linter.unusedVariables false
set_option linter.unusedSimpArgs false
namespace Go.Proofs.YtiplipdigabidaaGreat
open Go.ChangeShapes Go.WideShapes Go.ChangeAt Go.RowKit
set_option maxRecDepth 100000 in
set_option maxHeartbeats 1000000 in
theorem zero_any {d B : Nat} {t : Tm} {vs : List Value} {w : World} (ht : RTm w B d t vs) :
   Calls Tryz.prog 113 #[.agg vs.toArray] w fun e w' => e = .returned (.bool (emptyB t)) ∧ Below w.heap.size w w' := by
 obtain ⟨A, c, rfl, hc1, hc2, hs, _, _, hl⟩ := ht.cells
 obtain ⟨kind, n, s, l⟩ := t
 dsimp only at hc1 hc2 hs hl
 have HB := Lib.hid (fun o : Obj => (Below.refl w.heap.size w).alloc (Nat.le_refl _) o)
 clear ht hl
 go_enter Tryz.func113, Tryz.ntmps113
 go_wp2_with fail
 all_goals go_ret
 all_goals refine ⟨ret_bool ?_, HB.out _⟩
 all_goals
   try simp only [toList_empty, isEmpty_empty, beq_eq_false_iff_ne] at *
   rw [Bool.eq_iff_iff]
   simp [emptyB, isEmpty_empty, *]
set_option maxRecDepth 100000 in
set_option maxHeartbeats 2000000 in
theorem mayOp_any {d B : Nat} {o : OpD} {vs : List Value} {w : World} (ho : (OpR d).rd w B o vs) (hB : B ≤ w.heap.size) :
   Calls Tryz.prog 81 #[.agg vs.toArray] w fun e w' => e = .returned (.bool (aloneB o)) ∧ Below w.heap.size w w' := by
 obtain ⟨A, c, rfl, _, _, _, ht⟩ := OpR.cells ho
 have HB := Lib.hid (fun o : Obj => (Below.refl w.heap.size w).alloc (Nat.le_refl _) o)
 have HT := Lib.hid ht
 clear ho ht
 have hcases : ((o.kind == 1) = true ∧ mayB o.term = true) ∨ ((o.kind == 1) = true ∧ mayB o.term = false) ∨ ((o.kind == 1) = false ∧
     (((o.kind == 2) = true ∧ ¬ (1 ≤ o.code ∧ o.code ≤ 3)) ∨ ((o.kind == 2) = true ∧ (1 ≤ o.code ∧ o.code ≤ 3) ∧ emptyB o.term = true) ∨ ((o.kind == 2) = true ∧ (1 ≤ o.code ∧ o.code ≤ 3) ∧ emptyB o.term = false) ∨ ((o.kind == 2) = false ∧
     (((o.kind == 3) = true ∧ ¬ (1 ≤ o.code ∧ o.code ≤ 19)) ∨ ((o.kind == 3) = true ∧ (1 ≤ o.code ∧ o.code ≤ 19) ∧ emptyB o.term = true) ∨ ((o.kind == 3) = true ∧ (1 ≤ o.code ∧ o.code ≤ 19) ∧ emptyB o.term = false) ∨ ((o.kind == 3) = false ∧
     ((lazyB o = false ∧ (o.kind == 4) = false ∧ (o.kind == 5) = false) ∨ (lazyB o = true ∧ ((o.kind == 4) = true ∨ (o.kind == 4) = false ∧ (o.kind == 5) = true) ∧ (((o.code == 0) = false) ∨ ((o.code == 0) = true ∧ emptyB o.term = true) ∨ ((o.code == 0) = true ∧ emptyB o.term = false))))))))) := by
   have e4 : lazyB o = ((o.kind == 4) || (o.kind == 5)) := by unfold lazyB; rw [Bool.eq_iff_iff]; simp
   rw [e4]
   by_cases q1 : 1 ≤ o.code ∧ o.code ≤ 3 <;> by_cases q2 : 1 ≤ o.code ∧ o.code ≤ 19 <;> cases (o.kind == 1) <;> cases mayB o.term <;> cases emptyB o.term <;> cases (o.kind == 2) <;> cases (o.kind == 3) <;> cases (o.kind == 4) <;> cases (o.kind == 5) <;> cases (o.code == 0) <;> simp [q1, q2] <;> omega
 rcases hcases with ⟨h1, hm⟩ | ⟨h1, hm⟩ | ⟨h1, ⟨h2, hq⟩ | ⟨h2, ⟨hq1, hq2⟩, he⟩ | ⟨h2, ⟨hq1, hq2⟩, he⟩ | ⟨h2, ⟨h3, hq⟩ | ⟨h3, ⟨hq1, hq2⟩, he⟩ | ⟨h3, ⟨hq1, hq2⟩, he⟩ | ⟨h3, ⟨hl, h4, h5⟩ | ⟨hl, h4 | ⟨h4, h5⟩, hz | ⟨hz, he⟩ | ⟨hz, he⟩⟩⟩⟩⟩
 all_goals
   go_enter Tryz.func81, Tryz.ntmps81
   go_wp2_with (first
     | (go_at_call 21; refine (as_bool hm (refMay_any (vs := [_, _, _, _]) (RTm.below (HB.out _) hB HT.out) (Nat.le_trans hB (HB.out _).size))).mono ?_; rintro e w1 ⟨rfl, hb1⟩; have cw := ((Blk.new w _ _).later hb1).cell; have lw := ((Blk.new w _ _).later hb1).lt; have HB1 := Lib.hid (bthen (HB.out _) hb1); clear hb1)
     | (go_at_call 113; refine (as_bool he (zero_any (vs := [_, _, _, _]) (RTm.below (HB.out _) hB HT.out))).mono ?_; rintro e w1 ⟨rfl, hb1⟩; have cw := ((Blk.new w _ _).later hb1).cell; have lw := ((Blk.new w _ _).later hb1).lt; have HB1 := Lib.hid (bthen (HB.out _) hb1); clear hb1))
   all_goals go_ret
   all_goals first
     | refine ⟨ret_bool ?_, HB.out _⟩
     | refine ⟨ret_bool ?_, HB1.out⟩
   all_goals
     clear HT HB
     try clear HB1
     try clear cw lw
     try simp only [beq_iff_eq, beq_eq_false_iff_ne] at *
     rw [Bool.eq_iff_iff]
     simp [aloneB, *]
     try omega
theorem aloneB_kinds {o : OpD} (h : aloneB o = true) : o.kind = 1 ∨ o.kind = 2 ∨ o.kind = 3 ∨ ((o.kind = 4 ∨ o.kind = 5) ∧ lazyB o = true ∧ 1 ≤ o.skip) := by
 unfold aloneB lazyB at h
 unfold lazyB
 by_cases h1 : o.kind = 1
 · exact .inl h1
 by_cases h2 : o.kind = 2
 · exact .inr (.inl h2)
 by_cases h3 : o.kind = 3
 · exact .inr (.inr (.inl h3))
 rw [if_neg h1, if_neg h2, if_neg h3] at h
 simp only [Bool.and_eq_true, Bool.or_eq_true, decide_eq_true_eq] at h
 refine .inr (.inr (.inr ⟨by omega, ?_, by omega⟩))
 simp only [Bool.or_eq_true, decide_eq_true_eq]
 omega
set_option maxRecDepth 100000 in
set_option maxHeartbeats 4000000 in
theorem depth_all (d N : Nat) : ∀ (l : List OpD) (A : Option Addr) (c B : Nat) (w : World), l.length ≤ N → RL (OpR d) w B l A → B ≤ w.heap.size → l.length ≤ c → (l.length * 56 ≤ 140737488351232 ∧ c ≤ 9223372036854775807) →
   Calls Tryz.prog 56 #[.slice A l.length c] w fun e w' => e = .returned (.int .i64 (depthG 0 l)) ∧ Below w.heap.size w w' := by
 induction N with
 | zero =>
   intro l A c B w hN hl hB hc hn
   obtain rfl : l = [] := List.eq_nil_of_length_eq_zero (by omega)
   show Calls _ _ #[.slice A 0 c] _ _
   go_enter Tryz.func56, Tryz.ntmps56
   go_wp2_with fail
   go_loopw [3, 4] (fun t i wr => i = .int .i64 0 ∧ t = .int .i64 0 ∧ wr = w) (fun _ _ _ => 0)
   case atStart => exact ⟨rfl, rfl, rfl⟩
   case round =>
     obtain ⟨rfl, rfl, rfl⟩ := hrel
     go_wp2_with fail
     go_ret
     exact ⟨rfl, Below.refl _ _⟩
 | succ N ih =>
   intro l A c B w hN hl hB hc hn
   have HI := Lib.hid ih
   have HL0 := Lib.hid hl
   clear ih hl
   go_enter Tryz.func56, Tryz.ntmps56
   go_wp2_with fail
   go_loopw [3, 4] (fun t i wr => ∃ (k : Nat) (n : Int), k ≤ l.length ∧ i = .int .i64 k ∧ t = .int .i64 n ∧ 0 ≤ n ∧ n ≤ k ∧ Below w.heap.size w wr ∧ Hid (depthG 0 l = depthG n (l.drop k))) (fun _ i _ => l.length - (intOf i).toNat)
   case atStart => exact ⟨0, 0, Nat.zero_le _, rfl, rfl, by omega, by omega, Below.refl _ _, rfl⟩
   case round =>
     obtain ⟨k, n, hk, rfl, rfl, hn0, hnk, hbw, HE⟩ := hrel
     by_cases hlt : k < l.length
     · obtain ⟨b, off, rfl, hb⟩ := HL0.out.base hbw hB (by omega)
       obtain ⟨o, vs, hx, hlen, hcell, hr⟩ := HL0.out.at_ hbw hB hlt
       have hr0 := hr
       obtain ⟨Ao, co, rfl, hk1, hk2, hk3, _⟩ := OpR.cells hr
       unfold I64 at hk3
       have c0 : wr.cell? ⟨b, off + k * 7, none⟩ = some (.int .i64 o.kind) := hcell 0 _ rfl
       have c1 : wr.cell? ⟨b, off + k * 7 + 1, none⟩ = some (.int .i64 o.term.kind) := hcell 1 _ rfl
       have c2 : wr.cell? ⟨b, off + k * 7 + 2, none⟩ = some (.int .i64 o.term.n) := hcell 2 _ rfl
       have c3 : wr.cell? ⟨b, off + k * 7 + 3, none⟩ = some (.string o.term.s) := hcell 3 _ rfl
       have c4 : wr.cell? ⟨b, off + k * 7 + 4, none⟩ = some (.slice Ao o.term.l.length co) := hcell 4 _ rfl
       have c5 : wr.cell? ⟨b, off + k * 7 + 5, none⟩ = some (.int .i64 o.code) := hcell 5 _ rfl
       have c6 : wr.cell? ⟨b, off + k * 7 + 6, none⟩ = some (.int .i64 o.skip) := hcell 6 _ rfl
       have hdrop : l.drop k = o :: l.drop (k + 1) := by
         obtain ⟨h1, h2⟩ := List.getElem?_eq_some_iff.1 hx
         rw [← h2]; exact List.drop_eq_getElem_cons h1
       have HE2 : Hid (depthG 0 l = if (aloneB o && decide (needsB o ≤ n)) = true then
           (if lazyB o then (if (decide (o.skip ≤ (l.drop (k + 1)).length) && decide (depthG 0 ((l.drop (k + 1)).take o.skip.toNat) = 1)) = true then depthG (n + (1 - needsB o)) ((l.drop (k + 1)).drop o.skip.toNat) else -1)
            else depthG (n + (1 - needsB o)) (l.drop (k + 1)))
           else -1) := by
         rw [← depthG_cons, ← hdrop]; exact HE.out
       have HR := Lib.hid hr0
       have HBw := Lib.hid hbw
       have hszr := hbw.size
       clear hcell hlen hx hr hr0 hdrop HE hbw
       go_wp2_with fail
       generalize hW : World.alloc _ _ = W2
       obtain ⟨hb2, hz2⟩ := al1 hW
       have bo := n11 hW
       clear hW c0 c1 c2 c3 c4 c5 c6
       refine (mayOp_any (d := d) (B := B) (o := o) (vs := [_, _, _, _, _, _, _]) ((OpR d).keep hb2 (by omega) HR.out) (by omega)).mono ?_
       rintro e w1 ⟨rfl, hb1⟩
       have b1 := bo.later hb1
       have co := (bo.later hb1).cell
       have lo := (bo.later hb1).lt
       have HB1 := Lib.hid (bthen HBw.out (bthen hb2 hb1))
       clear hb1 hb2 hz2 bo
       by_cases ha : aloneB o = true
       rotate_left
       · simp only [Bool.not_eq_true] at ha
         have HE3 : Hid (depthG 0 l = -1) := by have := HE2.out; rw [ha] at this; exact this
         rw [ha]
         clear HE2 ha
         go_wp2_with fail
         go_ret
         exact ⟨ret_int HE3.out.symm, HB1.out⟩
       have hkinds := aloneB_kinds ha
       rw [ha, Bool.true_and] at HE2
       rw [ha]
       clear ha
       rcases hkinds with hkd | hkd | hkd | ⟨hkd, hlz, hsk1⟩
       · have HE3 : Hid (depthG 0 l = depthG (n + 1) (l.drop (k + 1))) := by
           have := HE2.out
           unfold needsB lazyB at this
           rw [hkd] at this
           simp only [if_true] at this
           rw [if_pos (decide_eq_true hn0)] at this
           exact Lib.hid (by simpa using this)
         have k1 : (o.kind == 1) = true := by simpa using hkd
         clear HE2 hkd
         go_wp2_with fail
         go_roundw
         case rel => exact ⟨k + 1, n + 1, by omega, by go_num, rfl, by omega, by omega, HB1.out, HE3⟩
         case measure => simp [intOf]; omega
       · have k1 : (o.kind == 1) = false := by simp [hkd]
         have k2 : (o.kind == 2) = true := by simpa using hkd
         by_cases hn1 : n < 1
         · have HE3 : Hid (depthG 0 l = -1) := by
             have := HE2.out
             unfold needsB at this
             rw [hkd] at this
             rw [if_neg (by simp; omega)] at this
             exact this
           clear HE2 hkd
           go_wp2_with fail
           go_ret
           exact ⟨ret_int HE3.out.symm, HB1.out⟩
         · have HE3 : Hid (depthG 0 l = depthG n (l.drop (k + 1))) := by
             have := HE2.out
             unfold needsB lazyB at this
             rw [hkd] at this
             rw [if_pos (by simp; omega)] at this
             exact Lib.hid (by simpa using this)
           clear HE2 hkd
           go_wp2_with fail
           go_roundw
           case rel => exact ⟨k + 1, n, by omega, by go_num, rfl, by omega, by omega, HB1.out, HE3⟩
           case measure => simp [intOf]; omega
       · have k1 : (o.kind == 1) = false := by simp [hkd]
         have k2 : (o.kind == 2) = false := by simp [hkd]
         have k3 : (o.kind == 3) = true := by simpa using hkd
         by_cases hn1 : n < 2
         · have HE3 : Hid (depthG 0 l = -1) := by
             have := HE2.out
             unfold needsB at this
             rw [hkd] at this
             rw [if_neg (by simp; omega)] at this
             exact this
           clear HE2 hkd
           go_wp2_with fail
           go_ret
           exact ⟨ret_int HE3.out.symm, HB1.out⟩
         · have HE3 : Hid (depthG 0 l = depthG (n - 1) (l.drop (k + 1))) := by
             have := HE2.out
             unfold needsB lazyB at this
             rw [hkd] at this
             rw [if_pos (by simp; omega)] at this
             exact Lib.hid (by simpa [show n + -1 = n - 1 by omega] using this)
           clear HE2 hkd
           go_wp2_with fail
           go_roundw
           case rel => exact ⟨k + 1, n - 1, by omega, by go_num, rfl, by omega, by omega, HB1.out, HE3⟩
           case measure => simp [intOf]; omega
       · have k1 : (o.kind == 1) = false := by simp; omega
         have k2 : (o.kind == 2) = false := by simp; omega
         have k3 : (o.kind == 3) = false := by simp; omega
         have hnd : needsB o = 1 := by unfold needsB; rw [if_neg (by omega), if_neg (by omega)]
         rw [hlz, if_pos rfl, hnd] at HE2
         clear hkd hlz hnd
         by_cases hn1 : n < 1
         · have HE3 : Hid (depthG 0 l = -1) := by
             have := HE2.out
             rw [if_neg (by simp; omega)] at this
             exact this
           clear HE2
           go_wp2_with fail
           go_ret
           exact ⟨ret_int HE3.out.symm, HB1.out⟩
         rw [show decide ((1 : Int) ≤ n) = true by simp; omega, if_pos rfl] at HE2
         by_cases hsk : o.skip ≤ (l.length : Int) - k - 1
         rotate_left
         · have hsk' : decide ((l.length : Int) - 1 - k < o.skip) = true := by simp; omega
           have HE3 : Hid (depthG 0 l = -1) := by
             have := HE2.out
             rw [if_neg (by rw [List.length_drop]; simp; omega)] at this
             exact this
           clear HE2
           go_wp2_with fail
           go_ret
           exact ⟨ret_int HE3.out.symm, HB1.out⟩
         have hsk' : decide ((l.length : Int) - 1 - k < o.skip) = false := by simp; omega
         have HL : Hid (((l.drop (k + 1)).take o.skip.toNat).length = o.skip.toNat) := by rw [List.length_take, List.length_drop]; exact (by omega : min o.skip.toNat (l.length - (k + 1)) = o.skip.toNat)
         have HC := Lib.hid (HL0.out.cut (k + 1) o.skip.toNat (by omega))
         go_wp2_with fail
         rw [show ((k : Int) + 1 + o.skip).toNat - (k + 1) = ((l.drop (k + 1)).take o.skip.toNat).length from by rw [HL.out]; omega]
         refine (HI.out ((l.drop (k + 1)).take o.skip.toNat) _ (c - (k + 1)) B w1 (by rw [HL.out]; omega) (HC.out.keep HB1.out hB) (by have := HB1.out.size; omega) (by rw [HL.out]; omega) (by rw [HL.out]; omega)).mono ?_
         rintro e w5 ⟨rfl, hb5⟩
         have co5 := (b1.later hb5).cell
         have lo5 := (b1.later hb5).lt
         have HB5 := Lib.hid (bthen HB1.out hb5)
         clear hb5 co lo b1
         by_cases hw : depthG 0 ((l.drop (k + 1)).take o.skip.toNat) = 1
         · have hw' : (depthG 0 ((l.drop (k + 1)).take o.skip.toNat) != 1) = false := by simpa using hw
           have HE3 : Hid (depthG 0 l = depthG n (l.drop (k + 1 + o.skip.toNat))) := by
             have := HE2.out
             rw [if_pos (by rw [List.length_drop, hw]; simp; omega), List.drop_drop, show n + (1 - 1) = n by omega] at this
             exact this
           clear HE2 hw
           go_wp2_with fail
           go_roundw
           case rel => exact ⟨k + 1 + o.skip.toNat, n, by omega, by go_num, rfl, by omega, by omega, HB5.out, HE3⟩
           case measure => simp [intOf]; omega
         · have hw' : (depthG 0 ((l.drop (k + 1)).take o.skip.toNat) != 1) = true := by simpa using hw
           have HE3 : Hid (depthG 0 l = -1) := by
             have := HE2.out
             rw [if_neg (by simp [hw])] at this
             exact this
           clear HE2 hw
           go_wp2_with fail
           go_ret
           exact ⟨ret_int HE3.out.symm, HB5.out⟩
     · have HE3 : Hid (depthG 0 l = n) := by
         have := HE.out
         rw [List.drop_eq_nil_iff.2 (show l.length ≤ k by omega)] at this
         exact this
       clear HE
       go_wp2_with fail
       go_ret
       exact ⟨ret_int HE3.out.symm, hbw⟩
set_option maxRecDepth 100000 in
set_option maxHeartbeats 2000000 in
theorem refMayExpr_any {d B : Nat} {e : List OpD} {vs : List Value} {w : World} (he : (ExR d).rd w B e vs) (hB : B ≤ w.heap.size) :
   Calls Tryz.prog 25 #[.agg vs.toArray] w fun x w' => x = .returned (.bool (mayExprB e)) ∧ Below w.heap.size w w' := by
 obtain ⟨_, rfl, A, c, rfl, h1, h2, hl⟩ := he
 simp only [OpR] at h2
 have HL := Lib.hid hl
 have HB := Lib.hid (fun o : Obj => (Below.refl w.heap.size w).alloc (Nat.le_refl _) o)
 clear hl
 have hcases : (1 ≤ e.length ∧ e.length ≤ 32) ∨ e.length < 1 ∨ 32 < e.length := by omega
 rcases hcases with ⟨q1, q2⟩ | q | q
 · go_enter Tryz.func25, Tryz.ntmps25
   go_wp2_with fail
   generalize hW : World.alloc _ _ = W
   obtain ⟨hb, hz⟩ := al1 hW
   refine (depth_all d e.length e A c B W (Nat.le_refl _) (HL.out.keep hb hB) (by omega) h1 (by omega)).mono ?_
   rintro x w1 ⟨rfl, hb1⟩
   have HB1 := Lib.hid (bthen hb hb1)
   have HD := Lib.hid (depthG_whole e)
   clear hW hb hz hb1
   go_wp2_with fail
   go_ret
   refine ⟨ret_bool ?_, HB1.out⟩
   unfold mayExprB
   rw [← HD.out, decide_eq_true q2, Bool.true_and, Bool.eq_iff_iff]
   simp
 · obtain rfl : e = [] := List.eq_nil_of_length_eq_zero (by omega)
   show Calls _ _ #[.agg #[.slice A 0 c]] _ _
   go_enter Tryz.func25, Tryz.ntmps25
   go_wp2_with fail
   go_ret
   exact ⟨rfl, HB.out _⟩
 · go_enter Tryz.func25, Tryz.ntmps25
   go_wp2_with fail
   go_ret
   refine ⟨ret_bool ?_, HB.out _⟩
   unfold mayExprB
   rw [decide_eq_false (by omega), Bool.false_and]
open Go.ChangeShapes Go.WideShapes Go.ChangeAt Go.RowKit
section
variable {α : Type} {R : Reader α} {P : Program} {w : World} {e : TypeId} {base B : Nat} {v : Value} {xs ys : List α}
end
def KeepB (w : World) (v : Value) (k : Nat) (cs : Array Value) (T : TypeId) : Prop := w.heap[k]? = some (.cells cs T (0, 0)) ∧ v.ownBlock ≠ some k
section
variable {w w' : World} {v v' : Value} {k : Nat} {cs : Array Value} {T : TypeId} {o : Obj}
theorem KeepB.lt (h : KeepB w v k cs T) : k < w.heap.size := (Array.getElem?_eq_some_iff.1 h.1).1
theorem KeepB.below (h : KeepB w v k cs T) (hb : Below w.heap.size w w') : KeepB w' v k cs T := by
 have hb2 : Blk w k cs := ⟨T, h.1⟩
 refine ⟨?_, h.2⟩
 exact (hb.block k h.lt).trans h.1
theorem KeepB.app (h : KeepB w v k cs T) (hg : w.grownBy w' v.ownBlock) (hf : FreshV w v v') : KeepB w' v' k cs T := by
 refine ⟨(hg.block k h.lt (Ne.symm h.2)).trans h.1, ?_⟩
 rcases hf with e | ⟨g, e, hge⟩
 · rw [e]; exact h.2
 · rw [e]; have := h.lt; simp; omega
theorem KeepB.blk (h : KeepB w v k cs T) : Blk w k cs := ⟨T, h.1⟩
end
theorem OwnR.own_lt {α : Type} {R : Reader α} {e : TypeId} {w : World} {base B k : Nat} {v : Value} {xs : List α} (h : OwnR R e w base B v xs) (hk : w.heap.size ≤ k) : v.ownBlock ≠ some k := by
 obtain ⟨cells, h, _⟩ := h
 intro e
 have := (h.lt k e).2
 omega
theorem KeepB.new {α : Type} {R : Reader α} {e T : TypeId} {w : World} {base B : Nat} {v : Value} {xs : List α} {cs : Array Value} (h : OwnR R e w base B v xs) : KeepB (w.alloc (.cells cs T)) v w.heap.size cs T := ⟨heap_alloc_new w _, h.own_lt (Nat.le_refl _)⟩
theorem Blk.srcs {α : Type} {R : Reader α} {w : World} {B b : Nat} {xs : List α} {vs : Array Value} (h : Blk w b vs) (hf : Flat R w B xs vs.toList) : SrcR R w B (some ⟨b, 0, none⟩) xs := by
 refine ⟨vs.toList, hf, fun e => by (cases e), fun a ha j u hu => ?_⟩
 simp only [Option.some.injEq] at ha
 subst ha
 have := h.cell j
 rw [← Array.getElem?_toList, hu] at this
 unfold Addr.add
 split
 · rename_i hj; subst hj; exact this
 · simpa using this
theorem OwnR.fresh {α : Type} {R : Reader α} {e : TypeId} {w : World} {base B k : Nat} {v : Value} {xs : List α} (h : OwnR R e w base B v xs) (hk : w.heap.size ≤ k) : some k ≠ v.ownBlock := by
 obtain ⟨cells, h, _⟩ := h
 intro e
 have := (h.lt k e.symm).2
 omega
theorem hp11d {w : World} {o1 : Obj} : (w.alloc o1).drew.heap[w.heap.size]? = some o1 := hp11
section
variable {α : Type} {R : Reader α} {w : World} {B b : Nat} {xs : List α} {vs : Array Value} {T : TypeId} {o2 : Obj}
end
section
variable {α : Type} {R : Reader α} {w : World} {B b : Nat} {xs : List α} {vs : Array Value} {T : TypeId} {o2 : Obj}
end
theorem ne_own {k g o n c : Nat} (h : k ≠ g) : some k ≠ (Value.slice (some ⟨g, o, none⟩) n c).ownBlock := fun e => h (by simpa [Value.ownBlock] using e)
end Go.Proofs.YtiplipdigabidaaGreat
