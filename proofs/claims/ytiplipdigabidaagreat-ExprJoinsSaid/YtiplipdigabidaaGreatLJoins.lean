/- viaticumlaw12.ExprJoins. -/
import Derived.Test.YtiplipdigabidaaGreatAwake12
import Derived.Test.YtiplipdigabidaaGreatJoinsLaw
import Derived.Test.YtiplipdigabidaaGreatRb1
import Derived.Test.YtiplipdigabidaaGreatRb5c
import Derived.Test.YtiplipdigabidaaGreatPush
set_option linter.unusedVariables false
set_option linter.unusedSimpArgs false
namespace Go.Proofs.YtiplipdigabidaaGreat
open Go.ChangeShapes Go.WideShapes Go.ChangeAt Go.RowKit
theorem infoOp : (Tryz.prog.info? 35).map (fun i => (i.zero, i.size, i.bytes)) = some (some (.agg #[.int .i64 0, .int .i64 0, .int .i64 0, .string ⟨#[]⟩, .slice none 0 0, .int .i64 0, .int .i64 0]), 7, 80) := by kernel_rfl
theorem ex_ne : (24 : TypeId) ≠ 35 := by decide
theorem opC_flat {w : World} {B d : Nat} {code : Int} (h1 : 1 ≤ code) (h2 : code ≤ 19) : Flat (OpR (d + 1)) w B [opC code] [.int .i64 3, .int .i64 0, .int .i64 0, .string ⟨#[]⟩, .slice none 0 0, .int .i64 code, .int .i64 0] := Flat.one (opC_rd d (by omega) (by omega))
theorem joins_end {w6 w8 : World} {e T : TypeId} {B g d : Nat} {v v' : Value} {xs : List OpD} (B6 : KeepB w8 v g #[.slice none 0 0] T) (ho : OwnR (OpR d) e w8 w6.heap.size B v' xs) (hT : T ≠ e) (hB : B ≤ w6.heap.size) (hb : Below w6.heap.size w6 w8) (hg : w6.heap.size ≤ g) :
   ∃ (g' : Nat) (u : Value), Value.pointer (some ⟨g, 0, none⟩) = .pointer (some ⟨g', 0, none⟩) ∧ Blk (w8.setCell ⟨g, 0, none⟩ v') g' #[u] ∧ OwnR (OpR d) e (w8.setCell ⟨g, 0, none⟩ v') w6.heap.size B u xs ∧ Below w6.heap.size w6 (w8.setCell ⟨g, 0, none⟩ v') ∧ w6.heap.size ≤ g' :=
 ⟨g, v', rfl, B6.blk.set_ 0 v', ho.farB B6.1 hT (Nat.le_trans hB hg) 0 v', hb.setCell hg _, hg⟩
theorem joins_lawE {b : Bd} {a c : List OpD} {code : Int} (hb : bindB b = true) (ha : mayExprB a = true) (hc : mayExprB c = true) (h31 : a.length + c.length ≤ 31) (h1 : 1 ≤ code) (h2 : code ≤ 19) :
   mayExprB (a ++ c ++ [opC code]) = true ∧ evalE b (a ++ c ++ [opC code]) = if (evalE b a).2 ≠ 0 then (noT, (evalE b a).2) else if (evalE b c).2 ≠ 0 then (noT, (evalE b c).2) else binR code (evalE b a).1 (evalE b c).1 := by
 have h := joins_law hb ha hc h31 h1 h2
 rw [evalE_of ha hb, evalE_of hc hb, evalE_of h.1 hb]
 exact h
set_option maxRecDepth 100000 in
set_option maxHeartbeats 8000000 in
theorem exprJoins_any {D B cn ct : Nat} {ea ec : List OpD} {eva evc : List Value} {b : Bd} {code : Int} {An At : Option Addr} {w : World} {m : Int} (hea : (ExR (D + 1)).rd w B ea eva) (hec : (ExR (D + 1)).rd w B ec evc) (hn : RL StrR w B (b.names.map mkS) An) (ht : RL (TmR (D + 1)) w B b.terms At) (hn1 : b.names.length * 8 ≤ 140737488351232) (ht1 : b.terms.length * 32 ≤ 140737488351232) (hB : B ≤ w.heap.size) (hm : w.cell? ⟨0, 0, none⟩ = some (.int .i64 m)) (h0 : 0 < w.heap.size) :
   Calls Tryz.prog 4 #[.agg eva.toArray, .agg evc.toArray, .int .i64 code, .agg (bdV An b.names.length cn At b.terms.length ct)] w fun z w' => z = .returned (.bool true) ∧ Below w.heap.size w w' := by
 have HEa := Lib.hid hea
 have HEc := Lib.hid hec
 have HN := Lib.hid hn
 have HT := Lib.hid ht
 have HM := Lib.hid hm
 have HN1 := Lib.hid hn1
 have HT1 := Lib.hid ht1
 obtain ⟨_, rfl, Aa, ca, rfl, ha1, ha2, hla⟩ := hea
 obtain ⟨_, rfl, Ac, cc, rfl, hc1, hc2, hlc⟩ := hec
 have HLa := Lib.hid hla
 have HLc := Lib.hid hlc
 simp only [OpR] at ha2 hc2
 clear hla hlc hn ht hm hn1 ht1
 unfold bdV
 go_enter Tryz.func4, Tryz.ntmps4
 go_wp2_with fail
 generalize hW : World.alloc _ _ = w1
 obtain ⟨hb, hz⟩ := al3 hW
 have b_a_1 := n31 hW
 have b_c_1 := n32 hW
 have b_b_1 := n33 hW
 have HB1 := Lib.hid hb
 clear hW hz hb
 refine (light12_any (vs := [_]) ((ExR (D + 1)).keep HB1.out hB HEa.out) (Nat.le_trans hB HB1.out.size)).mono ?_
 rintro x w2 ⟨⟨q1, rfl⟩, hb⟩
 have b_a_2 := b_a_1.later hb
 have b_c_2 := b_c_1.later hb
 have b_b_2 := b_b_1.later hb
 have HB2 := Lib.hid (bthen HB1.out hb)
 clear b_a_1 b_c_1 b_b_1
 clear hb
 cases q1
 · have k_a := b_a_2.cell
   have l_a := b_a_2.lt
   have k_c := b_c_2.cell
   have l_c := b_c_2.lt
   have k_b := b_b_2.cell
   have l_b := b_b_2.lt
   go_wp2_with fail
   clear k_a l_a k_c l_c k_b l_b
   refine (awake12_any ((HB2.out.cell (p := ⟨0, 0, none⟩) h0).trans HM.out) (Nat.lt_of_lt_of_le h0 HB2.out.size)).mono ?_
   rintro x w3 ⟨rfl, hb⟩
   have b_a_3 := b_a_2.later hb
   have b_c_3 := b_c_2.later hb
   have b_b_3 := b_b_2.later hb
   have HB3 := Lib.hid (bthen HB2.out hb)
   clear b_a_2 b_c_2 b_b_2
   clear hb
   have k_a := b_a_3.cell
   have l_a := b_a_3.lt
   have k_c := b_c_3.cell
   have l_c := b_c_3.lt
   have k_b := b_b_3.cell
   have l_b := b_b_3.lt
   go_wp2_with fail
   clear k_a l_a k_c l_c k_b l_b
   go_ret
   exact ⟨rfl, HB3.out⟩
 · have k_a := b_a_2.cell
   have l_a := b_a_2.lt
   have k_c := b_c_2.cell
   have l_c := b_c_2.lt
   have k_b := b_b_2.cell
   have l_b := b_b_2.lt
   go_wp2_with fail
   clear k_a l_a k_c l_c k_b l_b
   refine (light12_any (vs := [_]) ((ExR (D + 1)).keep HB2.out hB HEc.out) (Nat.le_trans hB HB2.out.size)).mono ?_
   rintro x w3 ⟨⟨q2, rfl⟩, hb⟩
   have b_a_3 := b_a_2.later hb
   have b_c_3 := b_c_2.later hb
   have b_b_3 := b_b_2.later hb
   have HB3 := Lib.hid (bthen HB2.out hb)
   clear b_a_2 b_c_2 b_b_2
   clear hb
   cases q2
   · have k_a := b_a_3.cell
     have l_a := b_a_3.lt
     have k_c := b_c_3.cell
     have l_c := b_c_3.lt
     have k_b := b_b_3.cell
     have l_b := b_b_3.lt
     go_wp2_with fail
     clear k_a l_a k_c l_c k_b l_b
     refine (awake12_any ((HB3.out.cell (p := ⟨0, 0, none⟩) h0).trans HM.out) (Nat.lt_of_lt_of_le h0 HB3.out.size)).mono ?_
     rintro x w4 ⟨rfl, hb⟩
     have b_a_4 := b_a_3.later hb
     have b_c_4 := b_c_3.later hb
     have b_b_4 := b_b_3.later hb
     have HB4 := Lib.hid (bthen HB3.out hb)
     clear b_a_3 b_c_3 b_b_3
     clear hb
     have k_a := b_a_4.cell
     have l_a := b_a_4.lt
     have k_c := b_c_4.cell
     have l_c := b_c_4.lt
     have k_b := b_b_4.cell
     have l_b := b_b_4.lt
     go_wp2_with fail
     clear k_a l_a k_c l_c k_b l_b
     go_ret
     exact ⟨rfl, HB4.out⟩
   · have k_a := b_a_3.cell
     have l_a := b_a_3.lt
     have k_c := b_c_3.cell
     have l_c := b_c_3.lt
     have k_b := b_b_3.cell
     have l_b := b_b_3.lt
     go_wp2_with fail
     clear k_a l_a k_c l_c k_b l_b
     refine (lightBind_any (cn := cn) (ct := ct) (d := D + 1) HN1.out (HT.out.keep HB3.out hB) HT1.out (Nat.le_trans hB HB3.out.size)).mono ?_
     rintro x w4 ⟨⟨q3, rfl⟩, hb⟩
     have b_a_4 := b_a_3.later hb
     have b_c_4 := b_c_3.later hb
     have b_b_4 := b_b_3.later hb
     have HB4 := Lib.hid (bthen HB3.out hb)
     clear b_a_3 b_c_3 b_b_3
     clear hb
     cases q3
     · have k_a := b_a_4.cell
       have l_a := b_a_4.lt
       have k_c := b_c_4.cell
       have l_c := b_c_4.lt
       have k_b := b_b_4.cell
       have l_b := b_b_4.lt
       go_wp2_with fail
       clear k_a l_a k_c l_c k_b l_b
       refine (awake12_any ((HB4.out.cell (p := ⟨0, 0, none⟩) h0).trans HM.out) (Nat.lt_of_lt_of_le h0 HB4.out.size)).mono ?_
       rintro x w5 ⟨rfl, hb⟩
       have b_a_5 := b_a_4.later hb
       have b_c_5 := b_c_4.later hb
       have b_b_5 := b_b_4.later hb
       have HB5 := Lib.hid (bthen HB4.out hb)
       clear b_a_4 b_c_4 b_b_4
       clear hb
       have k_a := b_a_5.cell
       have l_a := b_a_5.lt
       have k_c := b_c_5.cell
       have l_c := b_c_5.lt
       have k_b := b_b_5.cell
       have l_b := b_b_5.lt
       go_wp2_with fail
       clear k_a l_a k_c l_c k_b l_b
       go_ret
       exact ⟨rfl, HB5.out⟩
     · have k_a := b_a_4.cell
       have l_a := b_a_4.lt
       have k_c := b_c_4.cell
       have l_c := b_c_4.lt
       have k_b := b_b_4.cell
       have l_b := b_b_4.lt
       go_wp2_with fail
       clear k_a l_a k_c l_c k_b l_b
       refine (mayExpr_any (vs := [_]) ((ExR (D + 1)).keep HB4.out hB HEa.out) (Nat.le_trans hB HB4.out.size)).mono ?_
       rintro x w5 ⟨rfl, hb⟩
       have b_a_5 := b_a_4.later hb
       have b_c_5 := b_c_4.later hb
       have b_b_5 := b_b_4.later hb
       have HB5 := Lib.hid (bthen HB4.out hb)
       clear b_a_4 b_c_4 b_b_4
       clear hb
       by_cases hm_a : mayExprB ea = true
       · have HM_a := Lib.hid hm_a
         rw [hm_a]
         clear hm_a
         have k_a := b_a_5.cell
         have l_a := b_a_5.lt
         have k_c := b_c_5.cell
         have l_c := b_c_5.lt
         have k_b := b_b_5.cell
         have l_b := b_b_5.lt
         go_wp2_with fail
         clear k_a l_a k_c l_c k_b l_b
         refine (mayExpr_any (vs := [_]) ((ExR (D + 1)).keep HB5.out hB HEc.out) (Nat.le_trans hB HB5.out.size)).mono ?_
         rintro x w6 ⟨rfl, hb⟩
         have b_a_6 := b_a_5.later hb
         have b_c_6 := b_c_5.later hb
         have b_b_6 := b_b_5.later hb
         have HB6 := Lib.hid (bthen HB5.out hb)
         clear b_a_5 b_c_5 b_b_5
         clear hb
         by_cases hm_c : mayExprB ec = true
         · have HM_c := Lib.hid hm_c
           rw [hm_c]
           clear hm_c
           by_cases h31 : 31 < ea.length + ec.length
           · have gh31 : decide ((ea.length : Int) + ec.length > 31) = true := by simp; omega
             have k_a := b_a_6.cell
             have l_a := b_a_6.lt
             have k_c := b_c_6.cell
             have l_c := b_c_6.lt
             have k_b := b_b_6.cell
             have l_b := b_b_6.lt
             go_wp2_with fail
             clear k_a l_a k_c l_c k_b l_b
             refine (awake12_any ((HB6.out.cell (p := ⟨0, 0, none⟩) h0).trans HM.out) (Nat.lt_of_lt_of_le h0 HB6.out.size)).mono ?_
             rintro x w7 ⟨rfl, hb⟩
             have b_a_7 := b_a_6.later hb
             have b_c_7 := b_c_6.later hb
             have b_b_7 := b_b_6.later hb
             have HB7 := Lib.hid (bthen HB6.out hb)
             clear b_a_6 b_c_6 b_b_6
             clear hb
             have k_a := b_a_7.cell
             have l_a := b_a_7.lt
             have k_c := b_c_7.cell
             have l_c := b_c_7.lt
             have k_b := b_b_7.cell
             have l_b := b_b_7.lt
             go_wp2_with fail
             clear k_a l_a k_c l_c k_b l_b
             go_ret
             exact ⟨rfl, HB7.out⟩
           · have gh31 : decide ((ea.length : Int) + ec.length > 31) = false := by simp; omega
             by_cases hlo : code < 1
             · have ghlo : decide (code < 1) = true := by simp; omega
               have k_a := b_a_6.cell
               have l_a := b_a_6.lt
               have k_c := b_c_6.cell
               have l_c := b_c_6.lt
               have k_b := b_b_6.cell
               have l_b := b_b_6.lt
               go_wp2_with fail
               clear k_a l_a k_c l_c k_b l_b
               refine (awake12_any ((HB6.out.cell (p := ⟨0, 0, none⟩) h0).trans HM.out) (Nat.lt_of_lt_of_le h0 HB6.out.size)).mono ?_
               rintro x w7 ⟨rfl, hb⟩
               have b_a_7 := b_a_6.later hb
               have b_c_7 := b_c_6.later hb
               have b_b_7 := b_b_6.later hb
               have HB7 := Lib.hid (bthen HB6.out hb)
               clear b_a_6 b_c_6 b_b_6
               clear hb
               have k_a := b_a_7.cell
               have l_a := b_a_7.lt
               have k_c := b_c_7.cell
               have l_c := b_c_7.lt
               have k_b := b_b_7.cell
               have l_b := b_b_7.lt
               go_wp2_with fail
               clear k_a l_a k_c l_c k_b l_b
               go_ret
               exact ⟨rfl, HB7.out⟩
             · have ghlo : decide (code < 1) = false := by simp; omega
               by_cases hhi : 19 < code
               · have ghhi : decide (code > 19) = true := by simp; omega
                 have k_a := b_a_6.cell
                 have l_a := b_a_6.lt
                 have k_c := b_c_6.cell
                 have l_c := b_c_6.lt
                 have k_b := b_b_6.cell
                 have l_b := b_b_6.lt
                 go_wp2_with fail
                 clear k_a l_a k_c l_c k_b l_b
                 refine (awake12_any ((HB6.out.cell (p := ⟨0, 0, none⟩) h0).trans HM.out) (Nat.lt_of_lt_of_le h0 HB6.out.size)).mono ?_
                 rintro x w7 ⟨rfl, hb⟩
                 have b_a_7 := b_a_6.later hb
                 have b_c_7 := b_c_6.later hb
                 have b_b_7 := b_b_6.later hb
                 have HB7 := Lib.hid (bthen HB6.out hb)
                 clear b_a_6 b_c_6 b_b_6
                 clear hb
                 have k_a := b_a_7.cell
                 have l_a := b_a_7.lt
                 have k_c := b_c_7.cell
                 have l_c := b_c_7.lt
                 have k_b := b_b_7.cell
                 have l_b := b_b_7.lt
                 go_wp2_with fail
                 clear k_a l_a k_c l_c k_b l_b
                 go_ret
                 exact ⟨rfl, HB7.out⟩
               · have ghhi : decide (code > 19) = false := by simp; omega
                 have k_a := b_a_6.cell
                 have l_a := b_a_6.lt
                 have k_c := b_c_6.cell
                 have l_c := b_c_6.lt
                 have k_b := b_b_6.cell
                 have l_b := b_b_6.lt
                 go_wp2_with fail
                 clear k_a l_a k_c l_c k_b l_b
                 refine (maybind_any (cn := cn) (ct := ct) (d := D) (HN.out.keep HB6.out hB) (HT.out.keep HB6.out hB) (Nat.le_trans hB HB6.out.size)).mono ?_
                 rintro x w7 ⟨rfl, hb⟩
                 have b_a_7 := b_a_6.later hb
                 have b_c_7 := b_c_6.later hb
                 have b_b_7 := b_b_6.later hb
                 have HB7 := Lib.hid (bthen HB6.out hb)
                 clear b_a_6 b_c_6 b_b_6
                 clear hb
                 by_cases hb1 : bindB b = true
                 · have HB_ := Lib.hid hb1
                   rw [hb1]
                   clear hb1
                   clear gh31
                   clear ghlo
                   clear ghhi
                   have hsum : ea.length + ec.length ≤ 31 := by omega
                   have hcode1 : 1 ≤ code := by omega
                   have hcode2 : code ≤ 19 := by omega
                   have LAW := Lib.hid (joins_lawE HB_.out HM_a.out HM_c.out hsum hcode1 hcode2)
                   obtain ⟨i0, hi0, hz0, hz1, hz2⟩ := info_parts infoOp
                   have HCn := Lib.hid (show B ≤ w7.heap.size from Nat.le_trans hB HB7.out.size)
                   have HLka := Lib.hid (HLa.out.keep HB7.out hB)
                   have HLkc := Lib.hid (HLc.out.keep HB7.out hB)
                   have be_a := Lib.hid b_a_7
                   have be_c := Lib.hid b_c_7
                   have hb_a := b_a_7.lt
                   have hb_c := b_c_7.lt
                   have k_a := b_a_7.cell
                   have k_c := b_c_7.cell
                   go_upto_region 3 with fail
                   go_cut [9] (fun v9 wx => ∃ (g : Nat) (v' : Value), v9 = .pointer (some ⟨g, 0, none⟩) ∧ Blk wx g #[v'] ∧ OwnR (OpR (D + 1)) 35 wx w7.heap.size B v' (ea ++ ec ++ [opC code]) ∧ Below w7.heap.size w7 wx ∧ w7.heap.size ≤ g)
                   case first =>
                     have s00 : w7.cell? ⟨w.heap.size, 0, none⟩ = some (.slice Aa ea.length ca) := k_a 0
                     have s01 : w7.cell? ⟨w.heap.size + 1, 0, none⟩ = some (.slice Ac ec.length cc) := k_c 0
                     clear k_a k_c
                     have hby1 : (([] : List OpD).length + ea.length) * 80 ≤ 140737488355328 := by simp only [List.length_nil]; omega
                     have hby2 : (([] ++ ea : List OpD).length + ec.length) * 80 ≤ 140737488355328 := by simp only [List.length_append, List.length_nil]; omega
                     have hby3 : (([] ++ ea ++ ec : List OpD).length + [opC code].length) * 80 ≤ 140737488355328 := by simp only [List.length_append, List.length_cons, List.length_nil]; omega
                     have tok1 : True := trivial
                     have HSL : Hid (∀ {w' : World}, Below w7.heap.size w7 w' → (w'.cell? ⟨w.heap.size, 0, none⟩ = some (.slice Aa ea.length ca) ∧ w'.cell? ⟨w.heap.size + 1, 0, none⟩ = some (.slice Ac ec.length cc))) := Lib.hid (fun H => ⟨(be_a.out.keep H hb_a).cell 0, (be_c.out.keep H hb_c).cell 0⟩)
                     clear s00 s01 tok1
                     refine wp_region_upto (S := fun w' => w'.cell? ⟨w.heap.size, 0, none⟩ = some (.slice Aa ea.length ca) ∧ w'.cell? ⟨w.heap.size + 1, 0, none⟩ = some (.slice Ac ec.length cc)) 13 (by kernel_rfl) (by kernel_rfl) (by kernel_rfl) (by kernel_rfl) (HSL.out (Below.refl _ _).drew) ?_
                     refine upto_take (i := 1) (v := ?v1_) rfl (by kernel_rfl) (by kernel_rfl) (by kernel_rfl) (by kernel_rfl) ?hq1_ ?hw1_ ?hy1_ ?rest1_
                     case hq1_ => exact fun _ _ _ h => h
                     case hw1_ => rfl
                     case hy1_ => (intro w' hS'; (try dsimp only at hS'); go_simp; (try with_reducible rfl))
                     refine upto_take (i := 2) (v := ?v2_) rfl (by kernel_rfl) (by kernel_rfl) (by kernel_rfl) (by kernel_rfl) ?hq2_ ?hw2_ ?hy2_ ?rest2_
                     case hq2_ => exact fun _ _ _ h => h
                     case hw2_ => rfl
                     case hy2_ => (intro w' hS'; (try dsimp only at hS'); go_simp; (try with_reducible rfl))
                     refine upto_take (i := 4) (v := ?v3_) rfl (by kernel_rfl) (by kernel_rfl) (by kernel_rfl) (by kernel_rfl) ?hq3_ ?hw3_ ?hy3_ ?rest3_
                     case hq3_ => exact fun _ _ _ h => h
                     case hw3_ => rfl
                     case hy3_ => (intro w' hS'; (try dsimp only at hS'); go_simp; (try with_reducible rfl))
                     refine upto_take (i := 5) (v := ?v4_) rfl (by kernel_rfl) (by kernel_rfl) (by kernel_rfl) (by kernel_rfl) ?hq4_ ?hw4_ ?hy4_ ?rest4_
                     case hq4_ => exact fun _ _ _ h => h
                     case hw4_ => rfl
                     case hy4_ => (intro w' hS'; (try dsimp only at hS'); go_simp; (try with_reducible rfl))
                     refine upto_take (i := 7) (v := ?v5_) rfl (by kernel_rfl) (by kernel_rfl) (by kernel_rfl) (by kernel_rfl) ?hq5_ ?hw5_ ?hy5_ ?rest5_
                     case hq5_ => exact fun _ _ _ h => h
                     case hw5_ => rfl
                     case hy5_ => (intro w' hS'; (try dsimp only at hS'); go_simp; (try with_reducible rfl))
                     refine upto_take (i := 8) (v := ?v6_) rfl (by kernel_rfl) (by kernel_rfl) (by kernel_rfl) (by kernel_rfl) ?hq6_ ?hw6_ ?hy6_ ?rest6_
                     case hq6_ => exact fun _ _ _ h => h
                     case hw6_ => rfl
                     case hy6_ => (intro w' hS'; (try dsimp only at hS'); go_simp; (try with_reducible rfl))
                     generalize hD : World.drew w7 = u_0
                     have HU_0 : Hid (Below w7.heap.size w7 u_0) := Lib.hid (hD ▸ (Below.refl _ _).drew)
                     have hs_0 := HU_0.out.size
                     clear hD
                     refine upto_ready (rs := [0, 9, 12]) (by kernel_rfl) rfl (by kernel_rfl) ?_
                     refine AllUpto.cons rfl (fun K hK => ?_) (AllUpto.cons rfl (fun K hK => ?_) (AllUpto.cons rfl (fun K hK => ?_) AllUpto.nil))
                     ·
                      go_simp
                      generalize hW : World.alloc _ _ = u_1
                      obtain ⟨hb, hz⟩ := al1 hW
                      have hl_1 : u_0.heap.size < u_1.heap.size := by rw [hz]; exact Nat.lt_succ_self _
                      have HU_1 : Hid (Below w7.heap.size w7 u_1) := Lib.hid (HU_0.out.trans (hb.mono HU_0.out.size))
                      have hs_1 := HU_1.out.size
                      have hp_1 : Hid (u_1.heap[u_0.heap.size]? = some (.cells #[] 35 (0, 0))) := Lib.hid (hW ▸ heap_alloc_new _ _)
                      have HO_1 : Hid (OwnR (OpR (D + 1)) 35 u_1 w7.heap.size B (.slice (some ⟨u_0.heap.size, 0, none⟩) 0 0) []) := Lib.hid (OwnR.empty (OpR (D + 1)) 35 hp_1.out (by omega) B)
                      clear hW hb hz
                      refine hK.out _ _ (HSL.out HU_1.out) ?_
                      clear hK
                      refine upto_ready (rs := [3, 9, 12]) (by kernel_rfl) rfl (by kernel_rfl) ?_
                      refine AllUpto.cons rfl (fun K hK => ?_) (AllUpto.cons rfl (fun K hK => ?_) (AllUpto.cons rfl (fun K hK => ?_) AllUpto.nil))
                      ·
                       refine step_append_FB (R := OpR (D + 1)) (e := 35) rfl (.tmp 65) (.tmp 67) 22 rfl (bytes := 80) Tryz.underlying22 hi0 hz0 hz1 hz2 rfl (show 0 < 7 by omega) (single_op (D + 1)) rfl (xs := []) (base := w7.heap.size) (B := B) HO_1.out rfl (ys := ea) ((HLka.out.keep HU_1.out HCn.out).src) rfl HCn.out hby1 (by omega) HU_1.out.size ?_
                       intro v_2 u_2 hown hb hg hf
                       have HU_2 : Hid (Below w7.heap.size w7 u_2) := Lib.hid (HU_1.out.trans hb)
                       have hs_2 := HU_2.out.size
                       have HO_2 := Lib.hid hown
                       clear hown hb hg hf
                       refine hK.out _ _ (HSL.out HU_2.out) ?_
                       clear hK
                       refine upto_ready (rs := [6, 9, 12]) (by kernel_rfl) rfl (by kernel_rfl) ?_
                       refine AllUpto.cons rfl (fun K hK => ?_) (AllUpto.cons rfl (fun K hK => ?_) (AllUpto.cons rfl (fun K hK => ?_) AllUpto.nil))
                       ·
                        refine step_append_FB (R := OpR (D + 1)) (e := 35) rfl (.tmp 68) (.tmp 70) 22 rfl (bytes := 80) Tryz.underlying22 hi0 hz0 hz1 hz2 rfl (show 0 < 7 by omega) (single_op (D + 1)) rfl (xs := [] ++ ea) (base := w7.heap.size) (B := B) HO_2.out rfl (ys := ec) ((HLkc.out.keep HU_2.out HCn.out).src) rfl HCn.out hby2 (by omega) HU_2.out.size ?_
                        intro v_3 u_3 hown hb hg hf
                        have HU_3 : Hid (Below w7.heap.size w7 u_3) := Lib.hid (HU_2.out.trans hb)
                        have hs_3 := HU_3.out.size
                        have HO_3 := Lib.hid hown
                        clear hown hb hg hf
                        refine hK.out _ _ (HSL.out HU_3.out) ?_
                        clear hK
                        refine upto_ready (rs := [9, 12]) (by kernel_rfl) rfl (by kernel_rfl) ?_
                        refine AllUpto.cons rfl (fun K hK => ?_) (AllUpto.cons rfl (fun K hK => ?_) AllUpto.nil)
                        ·
                         go_simp
                         generalize hW : World.alloc _ _ = u_4
                         obtain ⟨hb, hz⟩ := al1 hW
                         have hl_4 : u_3.heap.size < u_4.heap.size := by rw [hz]; exact Nat.lt_succ_self _
                         have HU_4 : Hid (Below w7.heap.size w7 u_4) := Lib.hid (HU_3.out.trans (hb.mono HU_3.out.size))
                         have hs_4 := HU_4.out.size
                         have hp_4 : Hid (u_4.heap[u_3.heap.size]? = some (.cells #[.int .i64 3, .int .i64 0, .int .i64 0, .string ⟨#[]⟩, .slice none 0 0, .int .i64 code, .int .i64 0] 35 (0, 0))) := Lib.hid (hW ▸ heap_alloc_new _ _)
                         have HK9_4 : Hid (KeepB u_4 _ (u_3.heap.size) #[.int .i64 3, .int .i64 0, .int .i64 0, .string ⟨#[]⟩, .slice none 0 0, .int .i64 code, .int .i64 0] 35) := Lib.hid (KeepB.mk' hp_4.out (HO_3.out.own_lt (Nat.le_refl _)))
                         have HO_4 := Lib.hid (HO_3.out.later hb (Nat.le_trans HCn.out HU_3.out.size))
                         clear hW hb hz
                         refine hK.out _ _ (HSL.out HU_4.out) ?_
                         clear hK
                         refine upto_ready (rs := [10, 12]) (by kernel_rfl) rfl (by kernel_rfl) ?_
                         refine AllUpto.cons rfl (fun K hK => ?_) (AllUpto.cons rfl (fun K hK => ?_) AllUpto.nil)
                         ·
                          refine step_append_FB (R := OpR (D + 1)) (e := 35) rfl (.tmp 71) (.tmp 74) 22 rfl (bytes := 80) Tryz.underlying22 hi0 hz0 hz1 hz2 rfl (show 0 < 7 by omega) (single_op (D + 1)) rfl (xs := [] ++ ea ++ ec) (base := w7.heap.size) (B := B) HO_4.out rfl (ys := [opC code]) (src_keep HK9_4.out (Below.refl _ _) (opC_flat hcode1 hcode2)) rfl HCn.out hby3 (by omega) HU_4.out.size ?_
                          intro v_5 u_5 hown hb hg hf
                          have HU_5 : Hid (Below w7.heap.size w7 u_5) := Lib.hid (HU_4.out.trans hb)
                          have hs_5 := HU_5.out.size
                          have HK9_5 : Hid (KeepB u_5 v_5 (u_3.heap.size) #[.int .i64 3, .int .i64 0, .int .i64 0, .string ⟨#[]⟩, .slice none 0 0, .int .i64 code, .int .i64 0] 35) := Lib.hid (HK9_4.out.app hg hf)
                          obtain ⟨A2, c2, rfl⟩ := hown.form
                          simp only [List.nil_append, List.length_append, List.length_cons, List.length_nil, Nat.zero_add, Nat.reduceAdd] at hown
                          have HO_5 := Lib.hid hown
                          clear hown hb hg hf
                          refine hK.out _ _ (HSL.out HU_5.out) ?_
                          clear hK
                          refine upto_take (i := 11) (v := ?v7_) rfl (by kernel_rfl) (by kernel_rfl) (by kernel_rfl) (by kernel_rfl) ?hq7_ ?hw7_ ?hy7_ ?rest7_
                          case hq7_ => exact fun _ _ _ h => h
                          case hw7_ => rfl
                          case hy7_ => (intro w' hS'; (try dsimp only at hS'); go_simp; (try with_reducible rfl))
                          refine upto_ready (rs := [12]) (by kernel_rfl) rfl (by kernel_rfl) ?_
                          refine AllUpto.cons rfl (fun K hK => ?_) AllUpto.nil
                          ·
                           go_simp
                           generalize hW : World.alloc _ _ = u_6
                           obtain ⟨hb, hz⟩ := al1 hW
                           have hl_6 : u_5.heap.size < u_6.heap.size := by rw [hz]; exact Nat.lt_succ_self _
                           have HU_6 : Hid (Below w7.heap.size w7 u_6) := Lib.hid (HU_5.out.trans (hb.mono HU_5.out.size))
                           have hs_6 := HU_6.out.size
                           have hp_6 : Hid (u_6.heap[u_5.heap.size]? = some (.cells #[.slice none 0 0] 24 (0, 0))) := Lib.hid (hW ▸ heap_alloc_new _ _)
                           have HK12_6 : Hid (KeepB u_6 _ (u_5.heap.size) #[.slice none 0 0] 24) := Lib.hid (KeepB.mk' hp_6.out (HO_5.out.own_lt (Nat.le_refl _)))
                           have HO_6 := Lib.hid (HO_5.out.later hb (Nat.le_trans HCn.out HU_5.out.size))
                           clear hW hb hz
                           refine hK.out _ _ (HSL.out HU_6.out) ?_
                           clear hK
                           have k_o := HK12_6.out.blk.cell
                           have f_o := HK12_6.out.blk.free
                           refine upto_last (by kernel_rfl) (by kernel_rfl) rfl (fun K hK => ?_)
                           go_simp
                           refine hK.out _ _ ?_
                           go_wp2_with fail
                           go_meet
                           exact joins_end HK12_6.out HO_6.out ex_ne HCn.out HU_6.out (by omega)
                         ·
                          go_simp
                          generalize hW : World.alloc _ _ = u_7
                          obtain ⟨hb, hz⟩ := al1 hW
                          have hl_7 : u_4.heap.size < u_7.heap.size := by rw [hz]; exact Nat.lt_succ_self _
                          have HU_7 : Hid (Below w7.heap.size w7 u_7) := Lib.hid (HU_4.out.trans (hb.mono HU_4.out.size))
                          have hs_7 := HU_7.out.size
                          have hp_7 : Hid (u_7.heap[u_4.heap.size]? = some (.cells #[.slice none 0 0] 24 (0, 0))) := Lib.hid (hW ▸ heap_alloc_new _ _)
                          have HK9_7 : Hid (KeepB u_7 _ (u_3.heap.size) #[.int .i64 3, .int .i64 0, .int .i64 0, .string ⟨#[]⟩, .slice none 0 0, .int .i64 code, .int .i64 0] 35) := Lib.hid (HK9_4.out.below hb)
                          have HK12_7 : Hid (KeepB u_7 _ (u_4.heap.size) #[.slice none 0 0] 24) := Lib.hid (KeepB.mk' hp_7.out (HO_4.out.own_lt (Nat.le_refl _)))
                          have HO_7 := Lib.hid (HO_4.out.later hb (Nat.le_trans HCn.out HU_4.out.size))
                          clear hW hb hz
                          refine hK.out _ _ (HSL.out HU_7.out) ?_
                          clear hK
                          refine upto_ready (rs := [10]) (by kernel_rfl) rfl (by kernel_rfl) ?_
                          refine AllUpto.cons rfl (fun K hK => ?_) AllUpto.nil
                          ·
                           refine step_append_FB (R := OpR (D + 1)) (e := 35) rfl (.tmp 71) (.tmp 74) 22 rfl (bytes := 80) Tryz.underlying22 hi0 hz0 hz1 hz2 rfl (show 0 < 7 by omega) (single_op (D + 1)) rfl (xs := [] ++ ea ++ ec) (base := w7.heap.size) (B := B) HO_7.out rfl (ys := [opC code]) (src_keep HK9_7.out (Below.refl _ _) (opC_flat hcode1 hcode2)) rfl HCn.out hby3 (by omega) HU_7.out.size ?_
                           intro v_8 u_8 hown hb hg hf
                           have HU_8 : Hid (Below w7.heap.size w7 u_8) := Lib.hid (HU_7.out.trans hb)
                           have hs_8 := HU_8.out.size
                           have HK9_8 : Hid (KeepB u_8 v_8 (u_3.heap.size) #[.int .i64 3, .int .i64 0, .int .i64 0, .string ⟨#[]⟩, .slice none 0 0, .int .i64 code, .int .i64 0] 35) := Lib.hid (HK9_7.out.app hg hf)
                           have HK12_8 : Hid (KeepB u_8 v_8 (u_4.heap.size) #[.slice none 0 0] 24) := Lib.hid (HK12_7.out.app hg hf)
                           obtain ⟨A2, c2, rfl⟩ := hown.form
                           simp only [List.nil_append, List.length_append, List.length_cons, List.length_nil, Nat.zero_add, Nat.reduceAdd] at hown
                           have HO_8 := Lib.hid hown
                           clear hown hb hg hf
                           refine hK.out _ _ (HSL.out HU_8.out) ?_
                           clear hK
                           refine upto_take (i := 11) (v := ?v8_) rfl (by kernel_rfl) (by kernel_rfl) (by kernel_rfl) (by kernel_rfl) ?hq8_ ?hw8_ ?hy8_ ?rest8_
                           case hq8_ => exact fun _ _ _ h => h
                           case hw8_ => rfl
                           case hy8_ => (intro w' hS'; (try dsimp only at hS'); go_simp; (try with_reducible rfl))
                           have k_o := HK12_8.out.blk.cell
                           have f_o := HK12_8.out.blk.free
                           refine upto_last (by kernel_rfl) (by kernel_rfl) rfl (fun K hK => ?_)
                           go_simp
                           refine hK.out _ _ ?_
                           go_wp2_with fail
                           go_meet
                           exact joins_end HK12_8.out HO_8.out ex_ne HCn.out HU_8.out (by omega)
                        ·
                         go_simp
                         generalize hW : World.alloc _ _ = u_9
                         obtain ⟨hb, hz⟩ := al1 hW
                         have hl_9 : u_3.heap.size < u_9.heap.size := by rw [hz]; exact Nat.lt_succ_self _
                         have HU_9 : Hid (Below w7.heap.size w7 u_9) := Lib.hid (HU_3.out.trans (hb.mono HU_3.out.size))
                         have hs_9 := HU_9.out.size
                         have hp_9 : Hid (u_9.heap[u_3.heap.size]? = some (.cells #[.slice none 0 0] 24 (0, 0))) := Lib.hid (hW ▸ heap_alloc_new _ _)
                         have HK12_9 : Hid (KeepB u_9 _ (u_3.heap.size) #[.slice none 0 0] 24) := Lib.hid (KeepB.mk' hp_9.out (HO_3.out.own_lt (Nat.le_refl _)))
                         have HO_9 := Lib.hid (HO_3.out.later hb (Nat.le_trans HCn.out HU_3.out.size))
                         clear hW hb hz
                         refine hK.out _ _ (HSL.out HU_9.out) ?_
                         clear hK
                         refine upto_ready (rs := [9]) (by kernel_rfl) rfl (by kernel_rfl) ?_
                         refine AllUpto.cons rfl (fun K hK => ?_) AllUpto.nil
                         ·
                          go_simp
                          generalize hW : World.alloc _ _ = u_10
                          obtain ⟨hb, hz⟩ := al1 hW
                          have hl_10 : u_9.heap.size < u_10.heap.size := by rw [hz]; exact Nat.lt_succ_self _
                          have HU_10 : Hid (Below w7.heap.size w7 u_10) := Lib.hid (HU_9.out.trans (hb.mono HU_9.out.size))
                          have hs_10 := HU_10.out.size
                          have hp_10 : Hid (u_10.heap[u_9.heap.size]? = some (.cells #[.int .i64 3, .int .i64 0, .int .i64 0, .string ⟨#[]⟩, .slice none 0 0, .int .i64 code, .int .i64 0] 35 (0, 0))) := Lib.hid (hW ▸ heap_alloc_new _ _)
                          have HK12_10 : Hid (KeepB u_10 _ (u_3.heap.size) #[.slice none 0 0] 24) := Lib.hid (HK12_9.out.below hb)
                          have HK9_10 : Hid (KeepB u_10 _ (u_9.heap.size) #[.int .i64 3, .int .i64 0, .int .i64 0, .string ⟨#[]⟩, .slice none 0 0, .int .i64 code, .int .i64 0] 35) := Lib.hid (KeepB.mk' hp_10.out (HO_9.out.own_lt (Nat.le_refl _)))
                          have HO_10 := Lib.hid (HO_9.out.later hb (Nat.le_trans HCn.out HU_9.out.size))
                          clear hW hb hz
                          refine hK.out _ _ (HSL.out HU_10.out) ?_
                          clear hK
                          refine upto_ready (rs := [10]) (by kernel_rfl) rfl (by kernel_rfl) ?_
                          refine AllUpto.cons rfl (fun K hK => ?_) AllUpto.nil
                          ·
                           refine step_append_FB (R := OpR (D + 1)) (e := 35) rfl (.tmp 71) (.tmp 74) 22 rfl (bytes := 80) Tryz.underlying22 hi0 hz0 hz1 hz2 rfl (show 0 < 7 by omega) (single_op (D + 1)) rfl (xs := [] ++ ea ++ ec) (base := w7.heap.size) (B := B) HO_10.out rfl (ys := [opC code]) (src_keep HK9_10.out (Below.refl _ _) (opC_flat hcode1 hcode2)) rfl HCn.out hby3 (by omega) HU_10.out.size ?_
                           intro v_11 u_11 hown hb hg hf
                           have HU_11 : Hid (Below w7.heap.size w7 u_11) := Lib.hid (HU_10.out.trans hb)
                           have hs_11 := HU_11.out.size
                           have HK12_11 : Hid (KeepB u_11 v_11 (u_3.heap.size) #[.slice none 0 0] 24) := Lib.hid (HK12_10.out.app hg hf)
                           have HK9_11 : Hid (KeepB u_11 v_11 (u_9.heap.size) #[.int .i64 3, .int .i64 0, .int .i64 0, .string ⟨#[]⟩, .slice none 0 0, .int .i64 code, .int .i64 0] 35) := Lib.hid (HK9_10.out.app hg hf)
                           obtain ⟨A2, c2, rfl⟩ := hown.form
                           simp only [List.nil_append, List.length_append, List.length_cons, List.length_nil, Nat.zero_add, Nat.reduceAdd] at hown
                           have HO_11 := Lib.hid hown
                           clear hown hb hg hf
                           refine hK.out _ _ (HSL.out HU_11.out) ?_
                           clear hK
                           refine upto_take (i := 11) (v := ?v9_) rfl (by kernel_rfl) (by kernel_rfl) (by kernel_rfl) (by kernel_rfl) ?hq9_ ?hw9_ ?hy9_ ?rest9_
                           case hq9_ => exact fun _ _ _ h => h
                           case hw9_ => rfl
                           case hy9_ => (intro w' hS'; (try dsimp only at hS'); go_simp; (try with_reducible rfl))
                           have k_o := HK12_11.out.blk.cell
                           have f_o := HK12_11.out.blk.free
                           refine upto_last (by kernel_rfl) (by kernel_rfl) rfl (fun K hK => ?_)
                           go_simp
                           refine hK.out _ _ ?_
                           go_wp2_with fail
                           go_meet
                           exact joins_end HK12_11.out HO_11.out ex_ne HCn.out HU_11.out (by omega)
                       ·
                        go_simp
                        generalize hW : World.alloc _ _ = u_12
                        obtain ⟨hb, hz⟩ := al1 hW
                        have hl_12 : u_2.heap.size < u_12.heap.size := by rw [hz]; exact Nat.lt_succ_self _
                        have HU_12 : Hid (Below w7.heap.size w7 u_12) := Lib.hid (HU_2.out.trans (hb.mono HU_2.out.size))
                        have hs_12 := HU_12.out.size
                        have hp_12 : Hid (u_12.heap[u_2.heap.size]? = some (.cells #[.int .i64 3, .int .i64 0, .int .i64 0, .string ⟨#[]⟩, .slice none 0 0, .int .i64 code, .int .i64 0] 35 (0, 0))) := Lib.hid (hW ▸ heap_alloc_new _ _)
                        have HK9_12 : Hid (KeepB u_12 _ (u_2.heap.size) #[.int .i64 3, .int .i64 0, .int .i64 0, .string ⟨#[]⟩, .slice none 0 0, .int .i64 code, .int .i64 0] 35) := Lib.hid (KeepB.mk' hp_12.out (HO_2.out.own_lt (Nat.le_refl _)))
                        have HO_12 := Lib.hid (HO_2.out.later hb (Nat.le_trans HCn.out HU_2.out.size))
                        clear hW hb hz
                        refine hK.out _ _ (HSL.out HU_12.out) ?_
                        clear hK
                        refine upto_ready (rs := [6, 12]) (by kernel_rfl) rfl (by kernel_rfl) ?_
                        refine AllUpto.cons rfl (fun K hK => ?_) (AllUpto.cons rfl (fun K hK => ?_) AllUpto.nil)
                        ·
                         refine step_append_FB (R := OpR (D + 1)) (e := 35) rfl (.tmp 68) (.tmp 70) 22 rfl (bytes := 80) Tryz.underlying22 hi0 hz0 hz1 hz2 rfl (show 0 < 7 by omega) (single_op (D + 1)) rfl (xs := [] ++ ea) (base := w7.heap.size) (B := B) HO_12.out rfl (ys := ec) ((HLkc.out.keep HU_12.out HCn.out).src) rfl HCn.out hby2 (by omega) HU_12.out.size ?_
                         intro v_13 u_13 hown hb hg hf
                         have HU_13 : Hid (Below w7.heap.size w7 u_13) := Lib.hid (HU_12.out.trans hb)
                         have hs_13 := HU_13.out.size
                         have HK9_13 : Hid (KeepB u_13 v_13 (u_2.heap.size) #[.int .i64 3, .int .i64 0, .int .i64 0, .string ⟨#[]⟩, .slice none 0 0, .int .i64 code, .int .i64 0] 35) := Lib.hid (HK9_12.out.app hg hf)
                         have HO_13 := Lib.hid hown
                         clear hown hb hg hf
                         refine hK.out _ _ (HSL.out HU_13.out) ?_
                         clear hK
                         refine upto_ready (rs := [10, 12]) (by kernel_rfl) rfl (by kernel_rfl) ?_
                         refine AllUpto.cons rfl (fun K hK => ?_) (AllUpto.cons rfl (fun K hK => ?_) AllUpto.nil)
                         ·
                          refine step_append_FB (R := OpR (D + 1)) (e := 35) rfl (.tmp 71) (.tmp 74) 22 rfl (bytes := 80) Tryz.underlying22 hi0 hz0 hz1 hz2 rfl (show 0 < 7 by omega) (single_op (D + 1)) rfl (xs := [] ++ ea ++ ec) (base := w7.heap.size) (B := B) HO_13.out rfl (ys := [opC code]) (src_keep HK9_13.out (Below.refl _ _) (opC_flat hcode1 hcode2)) rfl HCn.out hby3 (by omega) HU_13.out.size ?_
                          intro v_14 u_14 hown hb hg hf
                          have HU_14 : Hid (Below w7.heap.size w7 u_14) := Lib.hid (HU_13.out.trans hb)
                          have hs_14 := HU_14.out.size
                          have HK9_14 : Hid (KeepB u_14 v_14 (u_2.heap.size) #[.int .i64 3, .int .i64 0, .int .i64 0, .string ⟨#[]⟩, .slice none 0 0, .int .i64 code, .int .i64 0] 35) := Lib.hid (HK9_13.out.app hg hf)
                          obtain ⟨A2, c2, rfl⟩ := hown.form
                          simp only [List.nil_append, List.length_append, List.length_cons, List.length_nil, Nat.zero_add, Nat.reduceAdd] at hown
                          have HO_14 := Lib.hid hown
                          clear hown hb hg hf
                          refine hK.out _ _ (HSL.out HU_14.out) ?_
                          clear hK
                          refine upto_take (i := 11) (v := ?v10_) rfl (by kernel_rfl) (by kernel_rfl) (by kernel_rfl) (by kernel_rfl) ?hq10_ ?hw10_ ?hy10_ ?rest10_
                          case hq10_ => exact fun _ _ _ h => h
                          case hw10_ => rfl
                          case hy10_ => (intro w' hS'; (try dsimp only at hS'); go_simp; (try with_reducible rfl))
                          refine upto_ready (rs := [12]) (by kernel_rfl) rfl (by kernel_rfl) ?_
                          refine AllUpto.cons rfl (fun K hK => ?_) AllUpto.nil
                          ·
                           go_simp
                           generalize hW : World.alloc _ _ = u_15
                           obtain ⟨hb, hz⟩ := al1 hW
                           have hl_15 : u_14.heap.size < u_15.heap.size := by rw [hz]; exact Nat.lt_succ_self _
                           have HU_15 : Hid (Below w7.heap.size w7 u_15) := Lib.hid (HU_14.out.trans (hb.mono HU_14.out.size))
                           have hs_15 := HU_15.out.size
                           have hp_15 : Hid (u_15.heap[u_14.heap.size]? = some (.cells #[.slice none 0 0] 24 (0, 0))) := Lib.hid (hW ▸ heap_alloc_new _ _)
                           have HK12_15 : Hid (KeepB u_15 _ (u_14.heap.size) #[.slice none 0 0] 24) := Lib.hid (KeepB.mk' hp_15.out (HO_14.out.own_lt (Nat.le_refl _)))
                           have HO_15 := Lib.hid (HO_14.out.later hb (Nat.le_trans HCn.out HU_14.out.size))
                           clear hW hb hz
                           refine hK.out _ _ (HSL.out HU_15.out) ?_
                           clear hK
                           have k_o := HK12_15.out.blk.cell
                           have f_o := HK12_15.out.blk.free
                           refine upto_last (by kernel_rfl) (by kernel_rfl) rfl (fun K hK => ?_)
                           go_simp
                           refine hK.out _ _ ?_
                           go_wp2_with fail
                           go_meet
                           exact joins_end HK12_15.out HO_15.out ex_ne HCn.out HU_15.out (by omega)
                         ·
                          go_simp
                          generalize hW : World.alloc _ _ = u_16
                          obtain ⟨hb, hz⟩ := al1 hW
                          have hl_16 : u_13.heap.size < u_16.heap.size := by rw [hz]; exact Nat.lt_succ_self _
                          have HU_16 : Hid (Below w7.heap.size w7 u_16) := Lib.hid (HU_13.out.trans (hb.mono HU_13.out.size))
                          have hs_16 := HU_16.out.size
                          have hp_16 : Hid (u_16.heap[u_13.heap.size]? = some (.cells #[.slice none 0 0] 24 (0, 0))) := Lib.hid (hW ▸ heap_alloc_new _ _)
                          have HK9_16 : Hid (KeepB u_16 _ (u_2.heap.size) #[.int .i64 3, .int .i64 0, .int .i64 0, .string ⟨#[]⟩, .slice none 0 0, .int .i64 code, .int .i64 0] 35) := Lib.hid (HK9_13.out.below hb)
                          have HK12_16 : Hid (KeepB u_16 _ (u_13.heap.size) #[.slice none 0 0] 24) := Lib.hid (KeepB.mk' hp_16.out (HO_13.out.own_lt (Nat.le_refl _)))
                          have HO_16 := Lib.hid (HO_13.out.later hb (Nat.le_trans HCn.out HU_13.out.size))
                          clear hW hb hz
                          refine hK.out _ _ (HSL.out HU_16.out) ?_
                          clear hK
                          refine upto_ready (rs := [10]) (by kernel_rfl) rfl (by kernel_rfl) ?_
                          refine AllUpto.cons rfl (fun K hK => ?_) AllUpto.nil
                          ·
                           refine step_append_FB (R := OpR (D + 1)) (e := 35) rfl (.tmp 71) (.tmp 74) 22 rfl (bytes := 80) Tryz.underlying22 hi0 hz0 hz1 hz2 rfl (show 0 < 7 by omega) (single_op (D + 1)) rfl (xs := [] ++ ea ++ ec) (base := w7.heap.size) (B := B) HO_16.out rfl (ys := [opC code]) (src_keep HK9_16.out (Below.refl _ _) (opC_flat hcode1 hcode2)) rfl HCn.out hby3 (by omega) HU_16.out.size ?_
                           intro v_17 u_17 hown hb hg hf
                           have HU_17 : Hid (Below w7.heap.size w7 u_17) := Lib.hid (HU_16.out.trans hb)
                           have hs_17 := HU_17.out.size
                           have HK9_17 : Hid (KeepB u_17 v_17 (u_2.heap.size) #[.int .i64 3, .int .i64 0, .int .i64 0, .string ⟨#[]⟩, .slice none 0 0, .int .i64 code, .int .i64 0] 35) := Lib.hid (HK9_16.out.app hg hf)
                           have HK12_17 : Hid (KeepB u_17 v_17 (u_13.heap.size) #[.slice none 0 0] 24) := Lib.hid (HK12_16.out.app hg hf)
                           obtain ⟨A2, c2, rfl⟩ := hown.form
                           simp only [List.nil_append, List.length_append, List.length_cons, List.length_nil, Nat.zero_add, Nat.reduceAdd] at hown
                           have HO_17 := Lib.hid hown
                           clear hown hb hg hf
                           refine hK.out _ _ (HSL.out HU_17.out) ?_
                           clear hK
                           refine upto_take (i := 11) (v := ?v11_) rfl (by kernel_rfl) (by kernel_rfl) (by kernel_rfl) (by kernel_rfl) ?hq11_ ?hw11_ ?hy11_ ?rest11_
                           case hq11_ => exact fun _ _ _ h => h
                           case hw11_ => rfl
                           case hy11_ => (intro w' hS'; (try dsimp only at hS'); go_simp; (try with_reducible rfl))
                           have k_o := HK12_17.out.blk.cell
                           have f_o := HK12_17.out.blk.free
                           refine upto_last (by kernel_rfl) (by kernel_rfl) rfl (fun K hK => ?_)
                           go_simp
                           refine hK.out _ _ ?_
                           go_wp2_with fail
                           go_meet
                           exact joins_end HK12_17.out HO_17.out ex_ne HCn.out HU_17.out (by omega)
                        ·
                         go_simp
                         generalize hW : World.alloc _ _ = u_18
                         obtain ⟨hb, hz⟩ := al1 hW
                         have hl_18 : u_12.heap.size < u_18.heap.size := by rw [hz]; exact Nat.lt_succ_self _
                         have HU_18 : Hid (Below w7.heap.size w7 u_18) := Lib.hid (HU_12.out.trans (hb.mono HU_12.out.size))
                         have hs_18 := HU_18.out.size
                         have hp_18 : Hid (u_18.heap[u_12.heap.size]? = some (.cells #[.slice none 0 0] 24 (0, 0))) := Lib.hid (hW ▸ heap_alloc_new _ _)
                         have HK9_18 : Hid (KeepB u_18 _ (u_2.heap.size) #[.int .i64 3, .int .i64 0, .int .i64 0, .string ⟨#[]⟩, .slice none 0 0, .int .i64 code, .int .i64 0] 35) := Lib.hid (HK9_12.out.below hb)
                         have HK12_18 : Hid (KeepB u_18 _ (u_12.heap.size) #[.slice none 0 0] 24) := Lib.hid (KeepB.mk' hp_18.out (HO_12.out.own_lt (Nat.le_refl _)))
                         have HO_18 := Lib.hid (HO_12.out.later hb (Nat.le_trans HCn.out HU_12.out.size))
                         clear hW hb hz
                         refine hK.out _ _ (HSL.out HU_18.out) ?_
                         clear hK
                         refine upto_ready (rs := [6]) (by kernel_rfl) rfl (by kernel_rfl) ?_
                         refine AllUpto.cons rfl (fun K hK => ?_) AllUpto.nil
                         ·
                          refine step_append_FB (R := OpR (D + 1)) (e := 35) rfl (.tmp 68) (.tmp 70) 22 rfl (bytes := 80) Tryz.underlying22 hi0 hz0 hz1 hz2 rfl (show 0 < 7 by omega) (single_op (D + 1)) rfl (xs := [] ++ ea) (base := w7.heap.size) (B := B) HO_18.out rfl (ys := ec) ((HLkc.out.keep HU_18.out HCn.out).src) rfl HCn.out hby2 (by omega) HU_18.out.size ?_
                          intro v_19 u_19 hown hb hg hf
                          have HU_19 : Hid (Below w7.heap.size w7 u_19) := Lib.hid (HU_18.out.trans hb)
                          have hs_19 := HU_19.out.size
                          have HK9_19 : Hid (KeepB u_19 v_19 (u_2.heap.size) #[.int .i64 3, .int .i64 0, .int .i64 0, .string ⟨#[]⟩, .slice none 0 0, .int .i64 code, .int .i64 0] 35) := Lib.hid (HK9_18.out.app hg hf)
                          have HK12_19 : Hid (KeepB u_19 v_19 (u_12.heap.size) #[.slice none 0 0] 24) := Lib.hid (HK12_18.out.app hg hf)
                          have HO_19 := Lib.hid hown
                          clear hown hb hg hf
                          refine hK.out _ _ (HSL.out HU_19.out) ?_
                          clear hK
                          refine upto_ready (rs := [10]) (by kernel_rfl) rfl (by kernel_rfl) ?_
                          refine AllUpto.cons rfl (fun K hK => ?_) AllUpto.nil
                          ·
                           refine step_append_FB (R := OpR (D + 1)) (e := 35) rfl (.tmp 71) (.tmp 74) 22 rfl (bytes := 80) Tryz.underlying22 hi0 hz0 hz1 hz2 rfl (show 0 < 7 by omega) (single_op (D + 1)) rfl (xs := [] ++ ea ++ ec) (base := w7.heap.size) (B := B) HO_19.out rfl (ys := [opC code]) (src_keep HK9_19.out (Below.refl _ _) (opC_flat hcode1 hcode2)) rfl HCn.out hby3 (by omega) HU_19.out.size ?_
                           intro v_20 u_20 hown hb hg hf
                           have HU_20 : Hid (Below w7.heap.size w7 u_20) := Lib.hid (HU_19.out.trans hb)
                           have hs_20 := HU_20.out.size
                           have HK9_20 : Hid (KeepB u_20 v_20 (u_2.heap.size) #[.int .i64 3, .int .i64 0, .int .i64 0, .string ⟨#[]⟩, .slice none 0 0, .int .i64 code, .int .i64 0] 35) := Lib.hid (HK9_19.out.app hg hf)
                           have HK12_20 : Hid (KeepB u_20 v_20 (u_12.heap.size) #[.slice none 0 0] 24) := Lib.hid (HK12_19.out.app hg hf)
                           obtain ⟨A2, c2, rfl⟩ := hown.form
                           simp only [List.nil_append, List.length_append, List.length_cons, List.length_nil, Nat.zero_add, Nat.reduceAdd] at hown
                           have HO_20 := Lib.hid hown
                           clear hown hb hg hf
                           refine hK.out _ _ (HSL.out HU_20.out) ?_
                           clear hK
                           refine upto_take (i := 11) (v := ?v12_) rfl (by kernel_rfl) (by kernel_rfl) (by kernel_rfl) (by kernel_rfl) ?hq12_ ?hw12_ ?hy12_ ?rest12_
                           case hq12_ => exact fun _ _ _ h => h
                           case hw12_ => rfl
                           case hy12_ => (intro w' hS'; (try dsimp only at hS'); go_simp; (try with_reducible rfl))
                           have k_o := HK12_20.out.blk.cell
                           have f_o := HK12_20.out.blk.free
                           refine upto_last (by kernel_rfl) (by kernel_rfl) rfl (fun K hK => ?_)
                           go_simp
                           refine hK.out _ _ ?_
                           go_wp2_with fail
                           go_meet
                           exact joins_end HK12_20.out HO_20.out ex_ne HCn.out HU_20.out (by omega)
                       ·
                        go_simp
                        generalize hW : World.alloc _ _ = u_21
                        obtain ⟨hb, hz⟩ := al1 hW
                        have hl_21 : u_2.heap.size < u_21.heap.size := by rw [hz]; exact Nat.lt_succ_self _
                        have HU_21 : Hid (Below w7.heap.size w7 u_21) := Lib.hid (HU_2.out.trans (hb.mono HU_2.out.size))
                        have hs_21 := HU_21.out.size
                        have hp_21 : Hid (u_21.heap[u_2.heap.size]? = some (.cells #[.slice none 0 0] 24 (0, 0))) := Lib.hid (hW ▸ heap_alloc_new _ _)
                        have HK12_21 : Hid (KeepB u_21 _ (u_2.heap.size) #[.slice none 0 0] 24) := Lib.hid (KeepB.mk' hp_21.out (HO_2.out.own_lt (Nat.le_refl _)))
                        have HO_21 := Lib.hid (HO_2.out.later hb (Nat.le_trans HCn.out HU_2.out.size))
                        clear hW hb hz
                        refine hK.out _ _ (HSL.out HU_21.out) ?_
                        clear hK
                        refine upto_ready (rs := [6, 9]) (by kernel_rfl) rfl (by kernel_rfl) ?_
                        refine AllUpto.cons rfl (fun K hK => ?_) (AllUpto.cons rfl (fun K hK => ?_) AllUpto.nil)
                        ·
                         refine step_append_FB (R := OpR (D + 1)) (e := 35) rfl (.tmp 68) (.tmp 70) 22 rfl (bytes := 80) Tryz.underlying22 hi0 hz0 hz1 hz2 rfl (show 0 < 7 by omega) (single_op (D + 1)) rfl (xs := [] ++ ea) (base := w7.heap.size) (B := B) HO_21.out rfl (ys := ec) ((HLkc.out.keep HU_21.out HCn.out).src) rfl HCn.out hby2 (by omega) HU_21.out.size ?_
                         intro v_22 u_22 hown hb hg hf
                         have HU_22 : Hid (Below w7.heap.size w7 u_22) := Lib.hid (HU_21.out.trans hb)
                         have hs_22 := HU_22.out.size
                         have HK12_22 : Hid (KeepB u_22 v_22 (u_2.heap.size) #[.slice none 0 0] 24) := Lib.hid (HK12_21.out.app hg hf)
                         have HO_22 := Lib.hid hown
                         clear hown hb hg hf
                         refine hK.out _ _ (HSL.out HU_22.out) ?_
                         clear hK
                         refine upto_ready (rs := [9]) (by kernel_rfl) rfl (by kernel_rfl) ?_
                         refine AllUpto.cons rfl (fun K hK => ?_) AllUpto.nil
                         ·
                          go_simp
                          generalize hW : World.alloc _ _ = u_23
                          obtain ⟨hb, hz⟩ := al1 hW
                          have hl_23 : u_22.heap.size < u_23.heap.size := by rw [hz]; exact Nat.lt_succ_self _
                          have HU_23 : Hid (Below w7.heap.size w7 u_23) := Lib.hid (HU_22.out.trans (hb.mono HU_22.out.size))
                          have hs_23 := HU_23.out.size
                          have hp_23 : Hid (u_23.heap[u_22.heap.size]? = some (.cells #[.int .i64 3, .int .i64 0, .int .i64 0, .string ⟨#[]⟩, .slice none 0 0, .int .i64 code, .int .i64 0] 35 (0, 0))) := Lib.hid (hW ▸ heap_alloc_new _ _)
                          have HK12_23 : Hid (KeepB u_23 _ (u_2.heap.size) #[.slice none 0 0] 24) := Lib.hid (HK12_22.out.below hb)
                          have HK9_23 : Hid (KeepB u_23 _ (u_22.heap.size) #[.int .i64 3, .int .i64 0, .int .i64 0, .string ⟨#[]⟩, .slice none 0 0, .int .i64 code, .int .i64 0] 35) := Lib.hid (KeepB.mk' hp_23.out (HO_22.out.own_lt (Nat.le_refl _)))
                          have HO_23 := Lib.hid (HO_22.out.later hb (Nat.le_trans HCn.out HU_22.out.size))
                          clear hW hb hz
                          refine hK.out _ _ (HSL.out HU_23.out) ?_
                          clear hK
                          refine upto_ready (rs := [10]) (by kernel_rfl) rfl (by kernel_rfl) ?_
                          refine AllUpto.cons rfl (fun K hK => ?_) AllUpto.nil
                          ·
                           refine step_append_FB (R := OpR (D + 1)) (e := 35) rfl (.tmp 71) (.tmp 74) 22 rfl (bytes := 80) Tryz.underlying22 hi0 hz0 hz1 hz2 rfl (show 0 < 7 by omega) (single_op (D + 1)) rfl (xs := [] ++ ea ++ ec) (base := w7.heap.size) (B := B) HO_23.out rfl (ys := [opC code]) (src_keep HK9_23.out (Below.refl _ _) (opC_flat hcode1 hcode2)) rfl HCn.out hby3 (by omega) HU_23.out.size ?_
                           intro v_24 u_24 hown hb hg hf
                           have HU_24 : Hid (Below w7.heap.size w7 u_24) := Lib.hid (HU_23.out.trans hb)
                           have hs_24 := HU_24.out.size
                           have HK12_24 : Hid (KeepB u_24 v_24 (u_2.heap.size) #[.slice none 0 0] 24) := Lib.hid (HK12_23.out.app hg hf)
                           have HK9_24 : Hid (KeepB u_24 v_24 (u_22.heap.size) #[.int .i64 3, .int .i64 0, .int .i64 0, .string ⟨#[]⟩, .slice none 0 0, .int .i64 code, .int .i64 0] 35) := Lib.hid (HK9_23.out.app hg hf)
                           obtain ⟨A2, c2, rfl⟩ := hown.form
                           simp only [List.nil_append, List.length_append, List.length_cons, List.length_nil, Nat.zero_add, Nat.reduceAdd] at hown
                           have HO_24 := Lib.hid hown
                           clear hown hb hg hf
                           refine hK.out _ _ (HSL.out HU_24.out) ?_
                           clear hK
                           refine upto_take (i := 11) (v := ?v13_) rfl (by kernel_rfl) (by kernel_rfl) (by kernel_rfl) (by kernel_rfl) ?hq13_ ?hw13_ ?hy13_ ?rest13_
                           case hq13_ => exact fun _ _ _ h => h
                           case hw13_ => rfl
                           case hy13_ => (intro w' hS'; (try dsimp only at hS'); go_simp; (try with_reducible rfl))
                           have k_o := HK12_24.out.blk.cell
                           have f_o := HK12_24.out.blk.free
                           refine upto_last (by kernel_rfl) (by kernel_rfl) rfl (fun K hK => ?_)
                           go_simp
                           refine hK.out _ _ ?_
                           go_wp2_with fail
                           go_meet
                           exact joins_end HK12_24.out HO_24.out ex_ne HCn.out HU_24.out (by omega)
                        ·
                         go_simp
                         generalize hW : World.alloc _ _ = u_25
                         obtain ⟨hb, hz⟩ := al1 hW
                         have hl_25 : u_21.heap.size < u_25.heap.size := by rw [hz]; exact Nat.lt_succ_self _
                         have HU_25 : Hid (Below w7.heap.size w7 u_25) := Lib.hid (HU_21.out.trans (hb.mono HU_21.out.size))
                         have hs_25 := HU_25.out.size
                         have hp_25 : Hid (u_25.heap[u_21.heap.size]? = some (.cells #[.int .i64 3, .int .i64 0, .int .i64 0, .string ⟨#[]⟩, .slice none 0 0, .int .i64 code, .int .i64 0] 35 (0, 0))) := Lib.hid (hW ▸ heap_alloc_new _ _)
                         have HK12_25 : Hid (KeepB u_25 _ (u_2.heap.size) #[.slice none 0 0] 24) := Lib.hid (HK12_21.out.below hb)
                         have HK9_25 : Hid (KeepB u_25 _ (u_21.heap.size) #[.int .i64 3, .int .i64 0, .int .i64 0, .string ⟨#[]⟩, .slice none 0 0, .int .i64 code, .int .i64 0] 35) := Lib.hid (KeepB.mk' hp_25.out (HO_21.out.own_lt (Nat.le_refl _)))
                         have HO_25 := Lib.hid (HO_21.out.later hb (Nat.le_trans HCn.out HU_21.out.size))
                         clear hW hb hz
                         refine hK.out _ _ (HSL.out HU_25.out) ?_
                         clear hK
                         refine upto_ready (rs := [6]) (by kernel_rfl) rfl (by kernel_rfl) ?_
                         refine AllUpto.cons rfl (fun K hK => ?_) AllUpto.nil
                         ·
                          refine step_append_FB (R := OpR (D + 1)) (e := 35) rfl (.tmp 68) (.tmp 70) 22 rfl (bytes := 80) Tryz.underlying22 hi0 hz0 hz1 hz2 rfl (show 0 < 7 by omega) (single_op (D + 1)) rfl (xs := [] ++ ea) (base := w7.heap.size) (B := B) HO_25.out rfl (ys := ec) ((HLkc.out.keep HU_25.out HCn.out).src) rfl HCn.out hby2 (by omega) HU_25.out.size ?_
                          intro v_26 u_26 hown hb hg hf
                          have HU_26 : Hid (Below w7.heap.size w7 u_26) := Lib.hid (HU_25.out.trans hb)
                          have hs_26 := HU_26.out.size
                          have HK12_26 : Hid (KeepB u_26 v_26 (u_2.heap.size) #[.slice none 0 0] 24) := Lib.hid (HK12_25.out.app hg hf)
                          have HK9_26 : Hid (KeepB u_26 v_26 (u_21.heap.size) #[.int .i64 3, .int .i64 0, .int .i64 0, .string ⟨#[]⟩, .slice none 0 0, .int .i64 code, .int .i64 0] 35) := Lib.hid (HK9_25.out.app hg hf)
                          have HO_26 := Lib.hid hown
                          clear hown hb hg hf
                          refine hK.out _ _ (HSL.out HU_26.out) ?_
                          clear hK
                          refine upto_ready (rs := [10]) (by kernel_rfl) rfl (by kernel_rfl) ?_
                          refine AllUpto.cons rfl (fun K hK => ?_) AllUpto.nil
                          ·
                           refine step_append_FB (R := OpR (D + 1)) (e := 35) rfl (.tmp 71) (.tmp 74) 22 rfl (bytes := 80) Tryz.underlying22 hi0 hz0 hz1 hz2 rfl (show 0 < 7 by omega) (single_op (D + 1)) rfl (xs := [] ++ ea ++ ec) (base := w7.heap.size) (B := B) HO_26.out rfl (ys := [opC code]) (src_keep HK9_26.out (Below.refl _ _) (opC_flat hcode1 hcode2)) rfl HCn.out hby3 (by omega) HU_26.out.size ?_
                           intro v_27 u_27 hown hb hg hf
                           have HU_27 : Hid (Below w7.heap.size w7 u_27) := Lib.hid (HU_26.out.trans hb)
                           have hs_27 := HU_27.out.size
                           have HK12_27 : Hid (KeepB u_27 v_27 (u_2.heap.size) #[.slice none 0 0] 24) := Lib.hid (HK12_26.out.app hg hf)
                           have HK9_27 : Hid (KeepB u_27 v_27 (u_21.heap.size) #[.int .i64 3, .int .i64 0, .int .i64 0, .string ⟨#[]⟩, .slice none 0 0, .int .i64 code, .int .i64 0] 35) := Lib.hid (HK9_26.out.app hg hf)
                           obtain ⟨A2, c2, rfl⟩ := hown.form
                           simp only [List.nil_append, List.length_append, List.length_cons, List.length_nil, Nat.zero_add, Nat.reduceAdd] at hown
                           have HO_27 := Lib.hid hown
                           clear hown hb hg hf
                           refine hK.out _ _ (HSL.out HU_27.out) ?_
                           clear hK
                           refine upto_take (i := 11) (v := ?v14_) rfl (by kernel_rfl) (by kernel_rfl) (by kernel_rfl) (by kernel_rfl) ?hq14_ ?hw14_ ?hy14_ ?rest14_
                           case hq14_ => exact fun _ _ _ h => h
                           case hw14_ => rfl
                           case hy14_ => (intro w' hS'; (try dsimp only at hS'); go_simp; (try with_reducible rfl))
                           have k_o := HK12_27.out.blk.cell
                           have f_o := HK12_27.out.blk.free
                           refine upto_last (by kernel_rfl) (by kernel_rfl) rfl (fun K hK => ?_)
                           go_simp
                           refine hK.out _ _ ?_
                           go_wp2_with fail
                           go_meet
                           exact joins_end HK12_27.out HO_27.out ex_ne HCn.out HU_27.out (by omega)
                      ·
                       go_simp
                       generalize hW : World.alloc _ _ = u_28
                       obtain ⟨hb, hz⟩ := al1 hW
                       have hl_28 : u_1.heap.size < u_28.heap.size := by rw [hz]; exact Nat.lt_succ_self _
                       have HU_28 : Hid (Below w7.heap.size w7 u_28) := Lib.hid (HU_1.out.trans (hb.mono HU_1.out.size))
                       have hs_28 := HU_28.out.size
                       have hp_28 : Hid (u_28.heap[u_1.heap.size]? = some (.cells #[.int .i64 3, .int .i64 0, .int .i64 0, .string ⟨#[]⟩, .slice none 0 0, .int .i64 code, .int .i64 0] 35 (0, 0))) := Lib.hid (hW ▸ heap_alloc_new _ _)
                       have HK9_28 : Hid (KeepB u_28 _ (u_1.heap.size) #[.int .i64 3, .int .i64 0, .int .i64 0, .string ⟨#[]⟩, .slice none 0 0, .int .i64 code, .int .i64 0] 35) := Lib.hid (KeepB.mk' hp_28.out (HO_1.out.own_lt (Nat.le_refl _)))
                       have HO_28 := Lib.hid (HO_1.out.later hb (Nat.le_trans HCn.out HU_1.out.size))
                       clear hW hb hz
                       refine hK.out _ _ (HSL.out HU_28.out) ?_
                       clear hK
                       refine upto_ready (rs := [3, 12]) (by kernel_rfl) rfl (by kernel_rfl) ?_
                       refine AllUpto.cons rfl (fun K hK => ?_) (AllUpto.cons rfl (fun K hK => ?_) AllUpto.nil)
                       ·
                        refine step_append_FB (R := OpR (D + 1)) (e := 35) rfl (.tmp 65) (.tmp 67) 22 rfl (bytes := 80) Tryz.underlying22 hi0 hz0 hz1 hz2 rfl (show 0 < 7 by omega) (single_op (D + 1)) rfl (xs := []) (base := w7.heap.size) (B := B) HO_28.out rfl (ys := ea) ((HLka.out.keep HU_28.out HCn.out).src) rfl HCn.out hby1 (by omega) HU_28.out.size ?_
                        intro v_29 u_29 hown hb hg hf
                        have HU_29 : Hid (Below w7.heap.size w7 u_29) := Lib.hid (HU_28.out.trans hb)
                        have hs_29 := HU_29.out.size
                        have HK9_29 : Hid (KeepB u_29 v_29 (u_1.heap.size) #[.int .i64 3, .int .i64 0, .int .i64 0, .string ⟨#[]⟩, .slice none 0 0, .int .i64 code, .int .i64 0] 35) := Lib.hid (HK9_28.out.app hg hf)
                        have HO_29 := Lib.hid hown
                        clear hown hb hg hf
                        refine hK.out _ _ (HSL.out HU_29.out) ?_
                        clear hK
                        refine upto_ready (rs := [6, 12]) (by kernel_rfl) rfl (by kernel_rfl) ?_
                        refine AllUpto.cons rfl (fun K hK => ?_) (AllUpto.cons rfl (fun K hK => ?_) AllUpto.nil)
                        ·
                         refine step_append_FB (R := OpR (D + 1)) (e := 35) rfl (.tmp 68) (.tmp 70) 22 rfl (bytes := 80) Tryz.underlying22 hi0 hz0 hz1 hz2 rfl (show 0 < 7 by omega) (single_op (D + 1)) rfl (xs := [] ++ ea) (base := w7.heap.size) (B := B) HO_29.out rfl (ys := ec) ((HLkc.out.keep HU_29.out HCn.out).src) rfl HCn.out hby2 (by omega) HU_29.out.size ?_
                         intro v_30 u_30 hown hb hg hf
                         have HU_30 : Hid (Below w7.heap.size w7 u_30) := Lib.hid (HU_29.out.trans hb)
                         have hs_30 := HU_30.out.size
                         have HK9_30 : Hid (KeepB u_30 v_30 (u_1.heap.size) #[.int .i64 3, .int .i64 0, .int .i64 0, .string ⟨#[]⟩, .slice none 0 0, .int .i64 code, .int .i64 0] 35) := Lib.hid (HK9_29.out.app hg hf)
                         have HO_30 := Lib.hid hown
                         clear hown hb hg hf
                         refine hK.out _ _ (HSL.out HU_30.out) ?_
                         clear hK
                         refine upto_ready (rs := [10, 12]) (by kernel_rfl) rfl (by kernel_rfl) ?_
                         refine AllUpto.cons rfl (fun K hK => ?_) (AllUpto.cons rfl (fun K hK => ?_) AllUpto.nil)
                         ·
                          refine step_append_FB (R := OpR (D + 1)) (e := 35) rfl (.tmp 71) (.tmp 74) 22 rfl (bytes := 80) Tryz.underlying22 hi0 hz0 hz1 hz2 rfl (show 0 < 7 by omega) (single_op (D + 1)) rfl (xs := [] ++ ea ++ ec) (base := w7.heap.size) (B := B) HO_30.out rfl (ys := [opC code]) (src_keep HK9_30.out (Below.refl _ _) (opC_flat hcode1 hcode2)) rfl HCn.out hby3 (by omega) HU_30.out.size ?_
                          intro v_31 u_31 hown hb hg hf
                          have HU_31 : Hid (Below w7.heap.size w7 u_31) := Lib.hid (HU_30.out.trans hb)
                          have hs_31 := HU_31.out.size
                          have HK9_31 : Hid (KeepB u_31 v_31 (u_1.heap.size) #[.int .i64 3, .int .i64 0, .int .i64 0, .string ⟨#[]⟩, .slice none 0 0, .int .i64 code, .int .i64 0] 35) := Lib.hid (HK9_30.out.app hg hf)
                          obtain ⟨A2, c2, rfl⟩ := hown.form
                          simp only [List.nil_append, List.length_append, List.length_cons, List.length_nil, Nat.zero_add, Nat.reduceAdd] at hown
                          have HO_31 := Lib.hid hown
                          clear hown hb hg hf
                          refine hK.out _ _ (HSL.out HU_31.out) ?_
                          clear hK
                          refine upto_take (i := 11) (v := ?v15_) rfl (by kernel_rfl) (by kernel_rfl) (by kernel_rfl) (by kernel_rfl) ?hq15_ ?hw15_ ?hy15_ ?rest15_
                          case hq15_ => exact fun _ _ _ h => h
                          case hw15_ => rfl
                          case hy15_ => (intro w' hS'; (try dsimp only at hS'); go_simp; (try with_reducible rfl))
                          refine upto_ready (rs := [12]) (by kernel_rfl) rfl (by kernel_rfl) ?_
                          refine AllUpto.cons rfl (fun K hK => ?_) AllUpto.nil
                          ·
                           go_simp
                           generalize hW : World.alloc _ _ = u_32
                           obtain ⟨hb, hz⟩ := al1 hW
                           have hl_32 : u_31.heap.size < u_32.heap.size := by rw [hz]; exact Nat.lt_succ_self _
                           have HU_32 : Hid (Below w7.heap.size w7 u_32) := Lib.hid (HU_31.out.trans (hb.mono HU_31.out.size))
                           have hs_32 := HU_32.out.size
                           have hp_32 : Hid (u_32.heap[u_31.heap.size]? = some (.cells #[.slice none 0 0] 24 (0, 0))) := Lib.hid (hW ▸ heap_alloc_new _ _)
                           have HK12_32 : Hid (KeepB u_32 _ (u_31.heap.size) #[.slice none 0 0] 24) := Lib.hid (KeepB.mk' hp_32.out (HO_31.out.own_lt (Nat.le_refl _)))
                           have HO_32 := Lib.hid (HO_31.out.later hb (Nat.le_trans HCn.out HU_31.out.size))
                           clear hW hb hz
                           refine hK.out _ _ (HSL.out HU_32.out) ?_
                           clear hK
                           have k_o := HK12_32.out.blk.cell
                           have f_o := HK12_32.out.blk.free
                           refine upto_last (by kernel_rfl) (by kernel_rfl) rfl (fun K hK => ?_)
                           go_simp
                           refine hK.out _ _ ?_
                           go_wp2_with fail
                           go_meet
                           exact joins_end HK12_32.out HO_32.out ex_ne HCn.out HU_32.out (by omega)
                         ·
                          go_simp
                          generalize hW : World.alloc _ _ = u_33
                          obtain ⟨hb, hz⟩ := al1 hW
                          have hl_33 : u_30.heap.size < u_33.heap.size := by rw [hz]; exact Nat.lt_succ_self _
                          have HU_33 : Hid (Below w7.heap.size w7 u_33) := Lib.hid (HU_30.out.trans (hb.mono HU_30.out.size))
                          have hs_33 := HU_33.out.size
                          have hp_33 : Hid (u_33.heap[u_30.heap.size]? = some (.cells #[.slice none 0 0] 24 (0, 0))) := Lib.hid (hW ▸ heap_alloc_new _ _)
                          have HK9_33 : Hid (KeepB u_33 _ (u_1.heap.size) #[.int .i64 3, .int .i64 0, .int .i64 0, .string ⟨#[]⟩, .slice none 0 0, .int .i64 code, .int .i64 0] 35) := Lib.hid (HK9_30.out.below hb)
                          have HK12_33 : Hid (KeepB u_33 _ (u_30.heap.size) #[.slice none 0 0] 24) := Lib.hid (KeepB.mk' hp_33.out (HO_30.out.own_lt (Nat.le_refl _)))
                          have HO_33 := Lib.hid (HO_30.out.later hb (Nat.le_trans HCn.out HU_30.out.size))
                          clear hW hb hz
                          refine hK.out _ _ (HSL.out HU_33.out) ?_
                          clear hK
                          refine upto_ready (rs := [10]) (by kernel_rfl) rfl (by kernel_rfl) ?_
                          refine AllUpto.cons rfl (fun K hK => ?_) AllUpto.nil
                          ·
                           refine step_append_FB (R := OpR (D + 1)) (e := 35) rfl (.tmp 71) (.tmp 74) 22 rfl (bytes := 80) Tryz.underlying22 hi0 hz0 hz1 hz2 rfl (show 0 < 7 by omega) (single_op (D + 1)) rfl (xs := [] ++ ea ++ ec) (base := w7.heap.size) (B := B) HO_33.out rfl (ys := [opC code]) (src_keep HK9_33.out (Below.refl _ _) (opC_flat hcode1 hcode2)) rfl HCn.out hby3 (by omega) HU_33.out.size ?_
                           intro v_34 u_34 hown hb hg hf
                           have HU_34 : Hid (Below w7.heap.size w7 u_34) := Lib.hid (HU_33.out.trans hb)
                           have hs_34 := HU_34.out.size
                           have HK9_34 : Hid (KeepB u_34 v_34 (u_1.heap.size) #[.int .i64 3, .int .i64 0, .int .i64 0, .string ⟨#[]⟩, .slice none 0 0, .int .i64 code, .int .i64 0] 35) := Lib.hid (HK9_33.out.app hg hf)
                           have HK12_34 : Hid (KeepB u_34 v_34 (u_30.heap.size) #[.slice none 0 0] 24) := Lib.hid (HK12_33.out.app hg hf)
                           obtain ⟨A2, c2, rfl⟩ := hown.form
                           simp only [List.nil_append, List.length_append, List.length_cons, List.length_nil, Nat.zero_add, Nat.reduceAdd] at hown
                           have HO_34 := Lib.hid hown
                           clear hown hb hg hf
                           refine hK.out _ _ (HSL.out HU_34.out) ?_
                           clear hK
                           refine upto_take (i := 11) (v := ?v16_) rfl (by kernel_rfl) (by kernel_rfl) (by kernel_rfl) (by kernel_rfl) ?hq16_ ?hw16_ ?hy16_ ?rest16_
                           case hq16_ => exact fun _ _ _ h => h
                           case hw16_ => rfl
                           case hy16_ => (intro w' hS'; (try dsimp only at hS'); go_simp; (try with_reducible rfl))
                           have k_o := HK12_34.out.blk.cell
                           have f_o := HK12_34.out.blk.free
                           refine upto_last (by kernel_rfl) (by kernel_rfl) rfl (fun K hK => ?_)
                           go_simp
                           refine hK.out _ _ ?_
                           go_wp2_with fail
                           go_meet
                           exact joins_end HK12_34.out HO_34.out ex_ne HCn.out HU_34.out (by omega)
                        ·
                         go_simp
                         generalize hW : World.alloc _ _ = u_35
                         obtain ⟨hb, hz⟩ := al1 hW
                         have hl_35 : u_29.heap.size < u_35.heap.size := by rw [hz]; exact Nat.lt_succ_self _
                         have HU_35 : Hid (Below w7.heap.size w7 u_35) := Lib.hid (HU_29.out.trans (hb.mono HU_29.out.size))
                         have hs_35 := HU_35.out.size
                         have hp_35 : Hid (u_35.heap[u_29.heap.size]? = some (.cells #[.slice none 0 0] 24 (0, 0))) := Lib.hid (hW ▸ heap_alloc_new _ _)
                         have HK9_35 : Hid (KeepB u_35 _ (u_1.heap.size) #[.int .i64 3, .int .i64 0, .int .i64 0, .string ⟨#[]⟩, .slice none 0 0, .int .i64 code, .int .i64 0] 35) := Lib.hid (HK9_29.out.below hb)
                         have HK12_35 : Hid (KeepB u_35 _ (u_29.heap.size) #[.slice none 0 0] 24) := Lib.hid (KeepB.mk' hp_35.out (HO_29.out.own_lt (Nat.le_refl _)))
                         have HO_35 := Lib.hid (HO_29.out.later hb (Nat.le_trans HCn.out HU_29.out.size))
                         clear hW hb hz
                         refine hK.out _ _ (HSL.out HU_35.out) ?_
                         clear hK
                         refine upto_ready (rs := [6]) (by kernel_rfl) rfl (by kernel_rfl) ?_
                         refine AllUpto.cons rfl (fun K hK => ?_) AllUpto.nil
                         ·
                          refine step_append_FB (R := OpR (D + 1)) (e := 35) rfl (.tmp 68) (.tmp 70) 22 rfl (bytes := 80) Tryz.underlying22 hi0 hz0 hz1 hz2 rfl (show 0 < 7 by omega) (single_op (D + 1)) rfl (xs := [] ++ ea) (base := w7.heap.size) (B := B) HO_35.out rfl (ys := ec) ((HLkc.out.keep HU_35.out HCn.out).src) rfl HCn.out hby2 (by omega) HU_35.out.size ?_
                          intro v_36 u_36 hown hb hg hf
                          have HU_36 : Hid (Below w7.heap.size w7 u_36) := Lib.hid (HU_35.out.trans hb)
                          have hs_36 := HU_36.out.size
                          have HK9_36 : Hid (KeepB u_36 v_36 (u_1.heap.size) #[.int .i64 3, .int .i64 0, .int .i64 0, .string ⟨#[]⟩, .slice none 0 0, .int .i64 code, .int .i64 0] 35) := Lib.hid (HK9_35.out.app hg hf)
                          have HK12_36 : Hid (KeepB u_36 v_36 (u_29.heap.size) #[.slice none 0 0] 24) := Lib.hid (HK12_35.out.app hg hf)
                          have HO_36 := Lib.hid hown
                          clear hown hb hg hf
                          refine hK.out _ _ (HSL.out HU_36.out) ?_
                          clear hK
                          refine upto_ready (rs := [10]) (by kernel_rfl) rfl (by kernel_rfl) ?_
                          refine AllUpto.cons rfl (fun K hK => ?_) AllUpto.nil
                          ·
                           refine step_append_FB (R := OpR (D + 1)) (e := 35) rfl (.tmp 71) (.tmp 74) 22 rfl (bytes := 80) Tryz.underlying22 hi0 hz0 hz1 hz2 rfl (show 0 < 7 by omega) (single_op (D + 1)) rfl (xs := [] ++ ea ++ ec) (base := w7.heap.size) (B := B) HO_36.out rfl (ys := [opC code]) (src_keep HK9_36.out (Below.refl _ _) (opC_flat hcode1 hcode2)) rfl HCn.out hby3 (by omega) HU_36.out.size ?_
                           intro v_37 u_37 hown hb hg hf
                           have HU_37 : Hid (Below w7.heap.size w7 u_37) := Lib.hid (HU_36.out.trans hb)
                           have hs_37 := HU_37.out.size
                           have HK9_37 : Hid (KeepB u_37 v_37 (u_1.heap.size) #[.int .i64 3, .int .i64 0, .int .i64 0, .string ⟨#[]⟩, .slice none 0 0, .int .i64 code, .int .i64 0] 35) := Lib.hid (HK9_36.out.app hg hf)
                           have HK12_37 : Hid (KeepB u_37 v_37 (u_29.heap.size) #[.slice none 0 0] 24) := Lib.hid (HK12_36.out.app hg hf)
                           obtain ⟨A2, c2, rfl⟩ := hown.form
                           simp only [List.nil_append, List.length_append, List.length_cons, List.length_nil, Nat.zero_add, Nat.reduceAdd] at hown
                           have HO_37 := Lib.hid hown
                           clear hown hb hg hf
                           refine hK.out _ _ (HSL.out HU_37.out) ?_
                           clear hK
                           refine upto_take (i := 11) (v := ?v17_) rfl (by kernel_rfl) (by kernel_rfl) (by kernel_rfl) (by kernel_rfl) ?hq17_ ?hw17_ ?hy17_ ?rest17_
                           case hq17_ => exact fun _ _ _ h => h
                           case hw17_ => rfl
                           case hy17_ => (intro w' hS'; (try dsimp only at hS'); go_simp; (try with_reducible rfl))
                           have k_o := HK12_37.out.blk.cell
                           have f_o := HK12_37.out.blk.free
                           refine upto_last (by kernel_rfl) (by kernel_rfl) rfl (fun K hK => ?_)
                           go_simp
                           refine hK.out _ _ ?_
                           go_wp2_with fail
                           go_meet
                           exact joins_end HK12_37.out HO_37.out ex_ne HCn.out HU_37.out (by omega)
                       ·
                        go_simp
                        generalize hW : World.alloc _ _ = u_38
                        obtain ⟨hb, hz⟩ := al1 hW
                        have hl_38 : u_28.heap.size < u_38.heap.size := by rw [hz]; exact Nat.lt_succ_self _
                        have HU_38 : Hid (Below w7.heap.size w7 u_38) := Lib.hid (HU_28.out.trans (hb.mono HU_28.out.size))
                        have hs_38 := HU_38.out.size
                        have hp_38 : Hid (u_38.heap[u_28.heap.size]? = some (.cells #[.slice none 0 0] 24 (0, 0))) := Lib.hid (hW ▸ heap_alloc_new _ _)
                        have HK9_38 : Hid (KeepB u_38 _ (u_1.heap.size) #[.int .i64 3, .int .i64 0, .int .i64 0, .string ⟨#[]⟩, .slice none 0 0, .int .i64 code, .int .i64 0] 35) := Lib.hid (HK9_28.out.below hb)
                        have HK12_38 : Hid (KeepB u_38 _ (u_28.heap.size) #[.slice none 0 0] 24) := Lib.hid (KeepB.mk' hp_38.out (HO_28.out.own_lt (Nat.le_refl _)))
                        have HO_38 := Lib.hid (HO_28.out.later hb (Nat.le_trans HCn.out HU_28.out.size))
                        clear hW hb hz
                        refine hK.out _ _ (HSL.out HU_38.out) ?_
                        clear hK
                        refine upto_ready (rs := [3]) (by kernel_rfl) rfl (by kernel_rfl) ?_
                        refine AllUpto.cons rfl (fun K hK => ?_) AllUpto.nil
                        ·
                         refine step_append_FB (R := OpR (D + 1)) (e := 35) rfl (.tmp 65) (.tmp 67) 22 rfl (bytes := 80) Tryz.underlying22 hi0 hz0 hz1 hz2 rfl (show 0 < 7 by omega) (single_op (D + 1)) rfl (xs := []) (base := w7.heap.size) (B := B) HO_38.out rfl (ys := ea) ((HLka.out.keep HU_38.out HCn.out).src) rfl HCn.out hby1 (by omega) HU_38.out.size ?_
                         intro v_39 u_39 hown hb hg hf
                         have HU_39 : Hid (Below w7.heap.size w7 u_39) := Lib.hid (HU_38.out.trans hb)
                         have hs_39 := HU_39.out.size
                         have HK9_39 : Hid (KeepB u_39 v_39 (u_1.heap.size) #[.int .i64 3, .int .i64 0, .int .i64 0, .string ⟨#[]⟩, .slice none 0 0, .int .i64 code, .int .i64 0] 35) := Lib.hid (HK9_38.out.app hg hf)
                         have HK12_39 : Hid (KeepB u_39 v_39 (u_28.heap.size) #[.slice none 0 0] 24) := Lib.hid (HK12_38.out.app hg hf)
                         have HO_39 := Lib.hid hown
                         clear hown hb hg hf
                         refine hK.out _ _ (HSL.out HU_39.out) ?_
                         clear hK
                         refine upto_ready (rs := [6]) (by kernel_rfl) rfl (by kernel_rfl) ?_
                         refine AllUpto.cons rfl (fun K hK => ?_) AllUpto.nil
                         ·
                          refine step_append_FB (R := OpR (D + 1)) (e := 35) rfl (.tmp 68) (.tmp 70) 22 rfl (bytes := 80) Tryz.underlying22 hi0 hz0 hz1 hz2 rfl (show 0 < 7 by omega) (single_op (D + 1)) rfl (xs := [] ++ ea) (base := w7.heap.size) (B := B) HO_39.out rfl (ys := ec) ((HLkc.out.keep HU_39.out HCn.out).src) rfl HCn.out hby2 (by omega) HU_39.out.size ?_
                          intro v_40 u_40 hown hb hg hf
                          have HU_40 : Hid (Below w7.heap.size w7 u_40) := Lib.hid (HU_39.out.trans hb)
                          have hs_40 := HU_40.out.size
                          have HK9_40 : Hid (KeepB u_40 v_40 (u_1.heap.size) #[.int .i64 3, .int .i64 0, .int .i64 0, .string ⟨#[]⟩, .slice none 0 0, .int .i64 code, .int .i64 0] 35) := Lib.hid (HK9_39.out.app hg hf)
                          have HK12_40 : Hid (KeepB u_40 v_40 (u_28.heap.size) #[.slice none 0 0] 24) := Lib.hid (HK12_39.out.app hg hf)
                          have HO_40 := Lib.hid hown
                          clear hown hb hg hf
                          refine hK.out _ _ (HSL.out HU_40.out) ?_
                          clear hK
                          refine upto_ready (rs := [10]) (by kernel_rfl) rfl (by kernel_rfl) ?_
                          refine AllUpto.cons rfl (fun K hK => ?_) AllUpto.nil
                          ·
                           refine step_append_FB (R := OpR (D + 1)) (e := 35) rfl (.tmp 71) (.tmp 74) 22 rfl (bytes := 80) Tryz.underlying22 hi0 hz0 hz1 hz2 rfl (show 0 < 7 by omega) (single_op (D + 1)) rfl (xs := [] ++ ea ++ ec) (base := w7.heap.size) (B := B) HO_40.out rfl (ys := [opC code]) (src_keep HK9_40.out (Below.refl _ _) (opC_flat hcode1 hcode2)) rfl HCn.out hby3 (by omega) HU_40.out.size ?_
                           intro v_41 u_41 hown hb hg hf
                           have HU_41 : Hid (Below w7.heap.size w7 u_41) := Lib.hid (HU_40.out.trans hb)
                           have hs_41 := HU_41.out.size
                           have HK9_41 : Hid (KeepB u_41 v_41 (u_1.heap.size) #[.int .i64 3, .int .i64 0, .int .i64 0, .string ⟨#[]⟩, .slice none 0 0, .int .i64 code, .int .i64 0] 35) := Lib.hid (HK9_40.out.app hg hf)
                           have HK12_41 : Hid (KeepB u_41 v_41 (u_28.heap.size) #[.slice none 0 0] 24) := Lib.hid (HK12_40.out.app hg hf)
                           obtain ⟨A2, c2, rfl⟩ := hown.form
                           simp only [List.nil_append, List.length_append, List.length_cons, List.length_nil, Nat.zero_add, Nat.reduceAdd] at hown
                           have HO_41 := Lib.hid hown
                           clear hown hb hg hf
                           refine hK.out _ _ (HSL.out HU_41.out) ?_
                           clear hK
                           refine upto_take (i := 11) (v := ?v18_) rfl (by kernel_rfl) (by kernel_rfl) (by kernel_rfl) (by kernel_rfl) ?hq18_ ?hw18_ ?hy18_ ?rest18_
                           case hq18_ => exact fun _ _ _ h => h
                           case hw18_ => rfl
                           case hy18_ => (intro w' hS'; (try dsimp only at hS'); go_simp; (try with_reducible rfl))
                           have k_o := HK12_41.out.blk.cell
                           have f_o := HK12_41.out.blk.free
                           refine upto_last (by kernel_rfl) (by kernel_rfl) rfl (fun K hK => ?_)
                           go_simp
                           refine hK.out _ _ ?_
                           go_wp2_with fail
                           go_meet
                           exact joins_end HK12_41.out HO_41.out ex_ne HCn.out HU_41.out (by omega)
                      ·
                       go_simp
                       generalize hW : World.alloc _ _ = u_42
                       obtain ⟨hb, hz⟩ := al1 hW
                       have hl_42 : u_1.heap.size < u_42.heap.size := by rw [hz]; exact Nat.lt_succ_self _
                       have HU_42 : Hid (Below w7.heap.size w7 u_42) := Lib.hid (HU_1.out.trans (hb.mono HU_1.out.size))
                       have hs_42 := HU_42.out.size
                       have hp_42 : Hid (u_42.heap[u_1.heap.size]? = some (.cells #[.slice none 0 0] 24 (0, 0))) := Lib.hid (hW ▸ heap_alloc_new _ _)
                       have HK12_42 : Hid (KeepB u_42 _ (u_1.heap.size) #[.slice none 0 0] 24) := Lib.hid (KeepB.mk' hp_42.out (HO_1.out.own_lt (Nat.le_refl _)))
                       have HO_42 := Lib.hid (HO_1.out.later hb (Nat.le_trans HCn.out HU_1.out.size))
                       clear hW hb hz
                       refine hK.out _ _ (HSL.out HU_42.out) ?_
                       clear hK
                       refine upto_ready (rs := [3, 9]) (by kernel_rfl) rfl (by kernel_rfl) ?_
                       refine AllUpto.cons rfl (fun K hK => ?_) (AllUpto.cons rfl (fun K hK => ?_) AllUpto.nil)
                       ·
                        refine step_append_FB (R := OpR (D + 1)) (e := 35) rfl (.tmp 65) (.tmp 67) 22 rfl (bytes := 80) Tryz.underlying22 hi0 hz0 hz1 hz2 rfl (show 0 < 7 by omega) (single_op (D + 1)) rfl (xs := []) (base := w7.heap.size) (B := B) HO_42.out rfl (ys := ea) ((HLka.out.keep HU_42.out HCn.out).src) rfl HCn.out hby1 (by omega) HU_42.out.size ?_
                        intro v_43 u_43 hown hb hg hf
                        have HU_43 : Hid (Below w7.heap.size w7 u_43) := Lib.hid (HU_42.out.trans hb)
                        have hs_43 := HU_43.out.size
                        have HK12_43 : Hid (KeepB u_43 v_43 (u_1.heap.size) #[.slice none 0 0] 24) := Lib.hid (HK12_42.out.app hg hf)
                        have HO_43 := Lib.hid hown
                        clear hown hb hg hf
                        refine hK.out _ _ (HSL.out HU_43.out) ?_
                        clear hK
                        refine upto_ready (rs := [6, 9]) (by kernel_rfl) rfl (by kernel_rfl) ?_
                        refine AllUpto.cons rfl (fun K hK => ?_) (AllUpto.cons rfl (fun K hK => ?_) AllUpto.nil)
                        ·
                         refine step_append_FB (R := OpR (D + 1)) (e := 35) rfl (.tmp 68) (.tmp 70) 22 rfl (bytes := 80) Tryz.underlying22 hi0 hz0 hz1 hz2 rfl (show 0 < 7 by omega) (single_op (D + 1)) rfl (xs := [] ++ ea) (base := w7.heap.size) (B := B) HO_43.out rfl (ys := ec) ((HLkc.out.keep HU_43.out HCn.out).src) rfl HCn.out hby2 (by omega) HU_43.out.size ?_
                         intro v_44 u_44 hown hb hg hf
                         have HU_44 : Hid (Below w7.heap.size w7 u_44) := Lib.hid (HU_43.out.trans hb)
                         have hs_44 := HU_44.out.size
                         have HK12_44 : Hid (KeepB u_44 v_44 (u_1.heap.size) #[.slice none 0 0] 24) := Lib.hid (HK12_43.out.app hg hf)
                         have HO_44 := Lib.hid hown
                         clear hown hb hg hf
                         refine hK.out _ _ (HSL.out HU_44.out) ?_
                         clear hK
                         refine upto_ready (rs := [9]) (by kernel_rfl) rfl (by kernel_rfl) ?_
                         refine AllUpto.cons rfl (fun K hK => ?_) AllUpto.nil
                         ·
                          go_simp
                          generalize hW : World.alloc _ _ = u_45
                          obtain ⟨hb, hz⟩ := al1 hW
                          have hl_45 : u_44.heap.size < u_45.heap.size := by rw [hz]; exact Nat.lt_succ_self _
                          have HU_45 : Hid (Below w7.heap.size w7 u_45) := Lib.hid (HU_44.out.trans (hb.mono HU_44.out.size))
                          have hs_45 := HU_45.out.size
                          have hp_45 : Hid (u_45.heap[u_44.heap.size]? = some (.cells #[.int .i64 3, .int .i64 0, .int .i64 0, .string ⟨#[]⟩, .slice none 0 0, .int .i64 code, .int .i64 0] 35 (0, 0))) := Lib.hid (hW ▸ heap_alloc_new _ _)
                          have HK12_45 : Hid (KeepB u_45 _ (u_1.heap.size) #[.slice none 0 0] 24) := Lib.hid (HK12_44.out.below hb)
                          have HK9_45 : Hid (KeepB u_45 _ (u_44.heap.size) #[.int .i64 3, .int .i64 0, .int .i64 0, .string ⟨#[]⟩, .slice none 0 0, .int .i64 code, .int .i64 0] 35) := Lib.hid (KeepB.mk' hp_45.out (HO_44.out.own_lt (Nat.le_refl _)))
                          have HO_45 := Lib.hid (HO_44.out.later hb (Nat.le_trans HCn.out HU_44.out.size))
                          clear hW hb hz
                          refine hK.out _ _ (HSL.out HU_45.out) ?_
                          clear hK
                          refine upto_ready (rs := [10]) (by kernel_rfl) rfl (by kernel_rfl) ?_
                          refine AllUpto.cons rfl (fun K hK => ?_) AllUpto.nil
                          ·
                           refine step_append_FB (R := OpR (D + 1)) (e := 35) rfl (.tmp 71) (.tmp 74) 22 rfl (bytes := 80) Tryz.underlying22 hi0 hz0 hz1 hz2 rfl (show 0 < 7 by omega) (single_op (D + 1)) rfl (xs := [] ++ ea ++ ec) (base := w7.heap.size) (B := B) HO_45.out rfl (ys := [opC code]) (src_keep HK9_45.out (Below.refl _ _) (opC_flat hcode1 hcode2)) rfl HCn.out hby3 (by omega) HU_45.out.size ?_
                           intro v_46 u_46 hown hb hg hf
                           have HU_46 : Hid (Below w7.heap.size w7 u_46) := Lib.hid (HU_45.out.trans hb)
                           have hs_46 := HU_46.out.size
                           have HK12_46 : Hid (KeepB u_46 v_46 (u_1.heap.size) #[.slice none 0 0] 24) := Lib.hid (HK12_45.out.app hg hf)
                           have HK9_46 : Hid (KeepB u_46 v_46 (u_44.heap.size) #[.int .i64 3, .int .i64 0, .int .i64 0, .string ⟨#[]⟩, .slice none 0 0, .int .i64 code, .int .i64 0] 35) := Lib.hid (HK9_45.out.app hg hf)
                           obtain ⟨A2, c2, rfl⟩ := hown.form
                           simp only [List.nil_append, List.length_append, List.length_cons, List.length_nil, Nat.zero_add, Nat.reduceAdd] at hown
                           have HO_46 := Lib.hid hown
                           clear hown hb hg hf
                           refine hK.out _ _ (HSL.out HU_46.out) ?_
                           clear hK
                           refine upto_take (i := 11) (v := ?v19_) rfl (by kernel_rfl) (by kernel_rfl) (by kernel_rfl) (by kernel_rfl) ?hq19_ ?hw19_ ?hy19_ ?rest19_
                           case hq19_ => exact fun _ _ _ h => h
                           case hw19_ => rfl
                           case hy19_ => (intro w' hS'; (try dsimp only at hS'); go_simp; (try with_reducible rfl))
                           have k_o := HK12_46.out.blk.cell
                           have f_o := HK12_46.out.blk.free
                           refine upto_last (by kernel_rfl) (by kernel_rfl) rfl (fun K hK => ?_)
                           go_simp
                           refine hK.out _ _ ?_
                           go_wp2_with fail
                           go_meet
                           exact joins_end HK12_46.out HO_46.out ex_ne HCn.out HU_46.out (by omega)
                        ·
                         go_simp
                         generalize hW : World.alloc _ _ = u_47
                         obtain ⟨hb, hz⟩ := al1 hW
                         have hl_47 : u_43.heap.size < u_47.heap.size := by rw [hz]; exact Nat.lt_succ_self _
                         have HU_47 : Hid (Below w7.heap.size w7 u_47) := Lib.hid (HU_43.out.trans (hb.mono HU_43.out.size))
                         have hs_47 := HU_47.out.size
                         have hp_47 : Hid (u_47.heap[u_43.heap.size]? = some (.cells #[.int .i64 3, .int .i64 0, .int .i64 0, .string ⟨#[]⟩, .slice none 0 0, .int .i64 code, .int .i64 0] 35 (0, 0))) := Lib.hid (hW ▸ heap_alloc_new _ _)
                         have HK12_47 : Hid (KeepB u_47 _ (u_1.heap.size) #[.slice none 0 0] 24) := Lib.hid (HK12_43.out.below hb)
                         have HK9_47 : Hid (KeepB u_47 _ (u_43.heap.size) #[.int .i64 3, .int .i64 0, .int .i64 0, .string ⟨#[]⟩, .slice none 0 0, .int .i64 code, .int .i64 0] 35) := Lib.hid (KeepB.mk' hp_47.out (HO_43.out.own_lt (Nat.le_refl _)))
                         have HO_47 := Lib.hid (HO_43.out.later hb (Nat.le_trans HCn.out HU_43.out.size))
                         clear hW hb hz
                         refine hK.out _ _ (HSL.out HU_47.out) ?_
                         clear hK
                         refine upto_ready (rs := [6]) (by kernel_rfl) rfl (by kernel_rfl) ?_
                         refine AllUpto.cons rfl (fun K hK => ?_) AllUpto.nil
                         ·
                          refine step_append_FB (R := OpR (D + 1)) (e := 35) rfl (.tmp 68) (.tmp 70) 22 rfl (bytes := 80) Tryz.underlying22 hi0 hz0 hz1 hz2 rfl (show 0 < 7 by omega) (single_op (D + 1)) rfl (xs := [] ++ ea) (base := w7.heap.size) (B := B) HO_47.out rfl (ys := ec) ((HLkc.out.keep HU_47.out HCn.out).src) rfl HCn.out hby2 (by omega) HU_47.out.size ?_
                          intro v_48 u_48 hown hb hg hf
                          have HU_48 : Hid (Below w7.heap.size w7 u_48) := Lib.hid (HU_47.out.trans hb)
                          have hs_48 := HU_48.out.size
                          have HK12_48 : Hid (KeepB u_48 v_48 (u_1.heap.size) #[.slice none 0 0] 24) := Lib.hid (HK12_47.out.app hg hf)
                          have HK9_48 : Hid (KeepB u_48 v_48 (u_43.heap.size) #[.int .i64 3, .int .i64 0, .int .i64 0, .string ⟨#[]⟩, .slice none 0 0, .int .i64 code, .int .i64 0] 35) := Lib.hid (HK9_47.out.app hg hf)
                          have HO_48 := Lib.hid hown
                          clear hown hb hg hf
                          refine hK.out _ _ (HSL.out HU_48.out) ?_
                          clear hK
                          refine upto_ready (rs := [10]) (by kernel_rfl) rfl (by kernel_rfl) ?_
                          refine AllUpto.cons rfl (fun K hK => ?_) AllUpto.nil
                          ·
                           refine step_append_FB (R := OpR (D + 1)) (e := 35) rfl (.tmp 71) (.tmp 74) 22 rfl (bytes := 80) Tryz.underlying22 hi0 hz0 hz1 hz2 rfl (show 0 < 7 by omega) (single_op (D + 1)) rfl (xs := [] ++ ea ++ ec) (base := w7.heap.size) (B := B) HO_48.out rfl (ys := [opC code]) (src_keep HK9_48.out (Below.refl _ _) (opC_flat hcode1 hcode2)) rfl HCn.out hby3 (by omega) HU_48.out.size ?_
                           intro v_49 u_49 hown hb hg hf
                           have HU_49 : Hid (Below w7.heap.size w7 u_49) := Lib.hid (HU_48.out.trans hb)
                           have hs_49 := HU_49.out.size
                           have HK12_49 : Hid (KeepB u_49 v_49 (u_1.heap.size) #[.slice none 0 0] 24) := Lib.hid (HK12_48.out.app hg hf)
                           have HK9_49 : Hid (KeepB u_49 v_49 (u_43.heap.size) #[.int .i64 3, .int .i64 0, .int .i64 0, .string ⟨#[]⟩, .slice none 0 0, .int .i64 code, .int .i64 0] 35) := Lib.hid (HK9_48.out.app hg hf)
                           obtain ⟨A2, c2, rfl⟩ := hown.form
                           simp only [List.nil_append, List.length_append, List.length_cons, List.length_nil, Nat.zero_add, Nat.reduceAdd] at hown
                           have HO_49 := Lib.hid hown
                           clear hown hb hg hf
                           refine hK.out _ _ (HSL.out HU_49.out) ?_
                           clear hK
                           refine upto_take (i := 11) (v := ?v20_) rfl (by kernel_rfl) (by kernel_rfl) (by kernel_rfl) (by kernel_rfl) ?hq20_ ?hw20_ ?hy20_ ?rest20_
                           case hq20_ => exact fun _ _ _ h => h
                           case hw20_ => rfl
                           case hy20_ => (intro w' hS'; (try dsimp only at hS'); go_simp; (try with_reducible rfl))
                           have k_o := HK12_49.out.blk.cell
                           have f_o := HK12_49.out.blk.free
                           refine upto_last (by kernel_rfl) (by kernel_rfl) rfl (fun K hK => ?_)
                           go_simp
                           refine hK.out _ _ ?_
                           go_wp2_with fail
                           go_meet
                           exact joins_end HK12_49.out HO_49.out ex_ne HCn.out HU_49.out (by omega)
                       ·
                        go_simp
                        generalize hW : World.alloc _ _ = u_50
                        obtain ⟨hb, hz⟩ := al1 hW
                        have hl_50 : u_42.heap.size < u_50.heap.size := by rw [hz]; exact Nat.lt_succ_self _
                        have HU_50 : Hid (Below w7.heap.size w7 u_50) := Lib.hid (HU_42.out.trans (hb.mono HU_42.out.size))
                        have hs_50 := HU_50.out.size
                        have hp_50 : Hid (u_50.heap[u_42.heap.size]? = some (.cells #[.int .i64 3, .int .i64 0, .int .i64 0, .string ⟨#[]⟩, .slice none 0 0, .int .i64 code, .int .i64 0] 35 (0, 0))) := Lib.hid (hW ▸ heap_alloc_new _ _)
                        have HK12_50 : Hid (KeepB u_50 _ (u_1.heap.size) #[.slice none 0 0] 24) := Lib.hid (HK12_42.out.below hb)
                        have HK9_50 : Hid (KeepB u_50 _ (u_42.heap.size) #[.int .i64 3, .int .i64 0, .int .i64 0, .string ⟨#[]⟩, .slice none 0 0, .int .i64 code, .int .i64 0] 35) := Lib.hid (KeepB.mk' hp_50.out (HO_42.out.own_lt (Nat.le_refl _)))
                        have HO_50 := Lib.hid (HO_42.out.later hb (Nat.le_trans HCn.out HU_42.out.size))
                        clear hW hb hz
                        refine hK.out _ _ (HSL.out HU_50.out) ?_
                        clear hK
                        refine upto_ready (rs := [3]) (by kernel_rfl) rfl (by kernel_rfl) ?_
                        refine AllUpto.cons rfl (fun K hK => ?_) AllUpto.nil
                        ·
                         refine step_append_FB (R := OpR (D + 1)) (e := 35) rfl (.tmp 65) (.tmp 67) 22 rfl (bytes := 80) Tryz.underlying22 hi0 hz0 hz1 hz2 rfl (show 0 < 7 by omega) (single_op (D + 1)) rfl (xs := []) (base := w7.heap.size) (B := B) HO_50.out rfl (ys := ea) ((HLka.out.keep HU_50.out HCn.out).src) rfl HCn.out hby1 (by omega) HU_50.out.size ?_
                         intro v_51 u_51 hown hb hg hf
                         have HU_51 : Hid (Below w7.heap.size w7 u_51) := Lib.hid (HU_50.out.trans hb)
                         have hs_51 := HU_51.out.size
                         have HK12_51 : Hid (KeepB u_51 v_51 (u_1.heap.size) #[.slice none 0 0] 24) := Lib.hid (HK12_50.out.app hg hf)
                         have HK9_51 : Hid (KeepB u_51 v_51 (u_42.heap.size) #[.int .i64 3, .int .i64 0, .int .i64 0, .string ⟨#[]⟩, .slice none 0 0, .int .i64 code, .int .i64 0] 35) := Lib.hid (HK9_50.out.app hg hf)
                         have HO_51 := Lib.hid hown
                         clear hown hb hg hf
                         refine hK.out _ _ (HSL.out HU_51.out) ?_
                         clear hK
                         refine upto_ready (rs := [6]) (by kernel_rfl) rfl (by kernel_rfl) ?_
                         refine AllUpto.cons rfl (fun K hK => ?_) AllUpto.nil
                         ·
                          refine step_append_FB (R := OpR (D + 1)) (e := 35) rfl (.tmp 68) (.tmp 70) 22 rfl (bytes := 80) Tryz.underlying22 hi0 hz0 hz1 hz2 rfl (show 0 < 7 by omega) (single_op (D + 1)) rfl (xs := [] ++ ea) (base := w7.heap.size) (B := B) HO_51.out rfl (ys := ec) ((HLkc.out.keep HU_51.out HCn.out).src) rfl HCn.out hby2 (by omega) HU_51.out.size ?_
                          intro v_52 u_52 hown hb hg hf
                          have HU_52 : Hid (Below w7.heap.size w7 u_52) := Lib.hid (HU_51.out.trans hb)
                          have hs_52 := HU_52.out.size
                          have HK12_52 : Hid (KeepB u_52 v_52 (u_1.heap.size) #[.slice none 0 0] 24) := Lib.hid (HK12_51.out.app hg hf)
                          have HK9_52 : Hid (KeepB u_52 v_52 (u_42.heap.size) #[.int .i64 3, .int .i64 0, .int .i64 0, .string ⟨#[]⟩, .slice none 0 0, .int .i64 code, .int .i64 0] 35) := Lib.hid (HK9_51.out.app hg hf)
                          have HO_52 := Lib.hid hown
                          clear hown hb hg hf
                          refine hK.out _ _ (HSL.out HU_52.out) ?_
                          clear hK
                          refine upto_ready (rs := [10]) (by kernel_rfl) rfl (by kernel_rfl) ?_
                          refine AllUpto.cons rfl (fun K hK => ?_) AllUpto.nil
                          ·
                           refine step_append_FB (R := OpR (D + 1)) (e := 35) rfl (.tmp 71) (.tmp 74) 22 rfl (bytes := 80) Tryz.underlying22 hi0 hz0 hz1 hz2 rfl (show 0 < 7 by omega) (single_op (D + 1)) rfl (xs := [] ++ ea ++ ec) (base := w7.heap.size) (B := B) HO_52.out rfl (ys := [opC code]) (src_keep HK9_52.out (Below.refl _ _) (opC_flat hcode1 hcode2)) rfl HCn.out hby3 (by omega) HU_52.out.size ?_
                           intro v_53 u_53 hown hb hg hf
                           have HU_53 : Hid (Below w7.heap.size w7 u_53) := Lib.hid (HU_52.out.trans hb)
                           have hs_53 := HU_53.out.size
                           have HK12_53 : Hid (KeepB u_53 v_53 (u_1.heap.size) #[.slice none 0 0] 24) := Lib.hid (HK12_52.out.app hg hf)
                           have HK9_53 : Hid (KeepB u_53 v_53 (u_42.heap.size) #[.int .i64 3, .int .i64 0, .int .i64 0, .string ⟨#[]⟩, .slice none 0 0, .int .i64 code, .int .i64 0] 35) := Lib.hid (HK9_52.out.app hg hf)
                           obtain ⟨A2, c2, rfl⟩ := hown.form
                           simp only [List.nil_append, List.length_append, List.length_cons, List.length_nil, Nat.zero_add, Nat.reduceAdd] at hown
                           have HO_53 := Lib.hid hown
                           clear hown hb hg hf
                           refine hK.out _ _ (HSL.out HU_53.out) ?_
                           clear hK
                           refine upto_take (i := 11) (v := ?v21_) rfl (by kernel_rfl) (by kernel_rfl) (by kernel_rfl) (by kernel_rfl) ?hq21_ ?hw21_ ?hy21_ ?rest21_
                           case hq21_ => exact fun _ _ _ h => h
                           case hw21_ => rfl
                           case hy21_ => (intro w' hS'; (try dsimp only at hS'); go_simp; (try with_reducible rfl))
                           have k_o := HK12_53.out.blk.cell
                           have f_o := HK12_53.out.blk.free
                           refine upto_last (by kernel_rfl) (by kernel_rfl) rfl (fun K hK => ?_)
                           go_simp
                           refine hK.out _ _ ?_
                           go_wp2_with fail
                           go_meet
                           exact joins_end HK12_53.out HO_53.out ex_ne HCn.out HU_53.out (by omega)
                     ·
                      go_simp
                      generalize hW : World.alloc _ _ = u_54
                      obtain ⟨hb, hz⟩ := al1 hW
                      have hl_54 : u_0.heap.size < u_54.heap.size := by rw [hz]; exact Nat.lt_succ_self _
                      have HU_54 : Hid (Below w7.heap.size w7 u_54) := Lib.hid (HU_0.out.trans (hb.mono HU_0.out.size))
                      have hs_54 := HU_54.out.size
                      have hp_54 : Hid (u_54.heap[u_0.heap.size]? = some (.cells #[.int .i64 3, .int .i64 0, .int .i64 0, .string ⟨#[]⟩, .slice none 0 0, .int .i64 code, .int .i64 0] 35 (0, 0))) := Lib.hid (hW ▸ heap_alloc_new _ _)
                      have HK9_54 := hp_54
                      clear hW hb hz
                      refine hK.out _ _ (HSL.out HU_54.out) ?_
                      clear hK
                      refine upto_ready (rs := [0, 12]) (by kernel_rfl) rfl (by kernel_rfl) ?_
                      refine AllUpto.cons rfl (fun K hK => ?_) (AllUpto.cons rfl (fun K hK => ?_) AllUpto.nil)
                      ·
                       go_simp
                       generalize hW : World.alloc _ _ = u_55
                       obtain ⟨hb, hz⟩ := al1 hW
                       have hl_55 : u_54.heap.size < u_55.heap.size := by rw [hz]; exact Nat.lt_succ_self _
                       have HU_55 : Hid (Below w7.heap.size w7 u_55) := Lib.hid (HU_54.out.trans (hb.mono HU_54.out.size))
                       have hs_55 := HU_55.out.size
                       have hp_55 : Hid (u_55.heap[u_54.heap.size]? = some (.cells #[] 35 (0, 0))) := Lib.hid (hW ▸ heap_alloc_new _ _)
                       have HK9_55 : Hid (KeepB u_55 (.slice (some ⟨u_54.heap.size, 0, none⟩) 0 0) (u_0.heap.size) #[.int .i64 3, .int .i64 0, .int .i64 0, .string ⟨#[]⟩, .slice none 0 0, .int .i64 code, .int .i64 0] 35) := Lib.hid (KeepB.mk' ((hb.block _ (by omega)).trans HK9_54.out) (ne_own (by omega)).symm)
                       have HO_55 : Hid (OwnR (OpR (D + 1)) 35 u_55 w7.heap.size B (.slice (some ⟨u_54.heap.size, 0, none⟩) 0 0) []) := Lib.hid (OwnR.empty (OpR (D + 1)) 35 hp_55.out (by omega) B)
                       clear hW hb hz
                       refine hK.out _ _ (HSL.out HU_55.out) ?_
                       clear hK
                       refine upto_ready (rs := [3, 12]) (by kernel_rfl) rfl (by kernel_rfl) ?_
                       refine AllUpto.cons rfl (fun K hK => ?_) (AllUpto.cons rfl (fun K hK => ?_) AllUpto.nil)
                       ·
                        refine step_append_FB (R := OpR (D + 1)) (e := 35) rfl (.tmp 65) (.tmp 67) 22 rfl (bytes := 80) Tryz.underlying22 hi0 hz0 hz1 hz2 rfl (show 0 < 7 by omega) (single_op (D + 1)) rfl (xs := []) (base := w7.heap.size) (B := B) HO_55.out rfl (ys := ea) ((HLka.out.keep HU_55.out HCn.out).src) rfl HCn.out hby1 (by omega) HU_55.out.size ?_
                        intro v_56 u_56 hown hb hg hf
                        have HU_56 : Hid (Below w7.heap.size w7 u_56) := Lib.hid (HU_55.out.trans hb)
                        have hs_56 := HU_56.out.size
                        have HK9_56 : Hid (KeepB u_56 v_56 (u_0.heap.size) #[.int .i64 3, .int .i64 0, .int .i64 0, .string ⟨#[]⟩, .slice none 0 0, .int .i64 code, .int .i64 0] 35) := Lib.hid (HK9_55.out.app hg hf)
                        have HO_56 := Lib.hid hown
                        clear hown hb hg hf
                        refine hK.out _ _ (HSL.out HU_56.out) ?_
                        clear hK
                        refine upto_ready (rs := [6, 12]) (by kernel_rfl) rfl (by kernel_rfl) ?_
                        refine AllUpto.cons rfl (fun K hK => ?_) (AllUpto.cons rfl (fun K hK => ?_) AllUpto.nil)
                        ·
                         refine step_append_FB (R := OpR (D + 1)) (e := 35) rfl (.tmp 68) (.tmp 70) 22 rfl (bytes := 80) Tryz.underlying22 hi0 hz0 hz1 hz2 rfl (show 0 < 7 by omega) (single_op (D + 1)) rfl (xs := [] ++ ea) (base := w7.heap.size) (B := B) HO_56.out rfl (ys := ec) ((HLkc.out.keep HU_56.out HCn.out).src) rfl HCn.out hby2 (by omega) HU_56.out.size ?_
                         intro v_57 u_57 hown hb hg hf
                         have HU_57 : Hid (Below w7.heap.size w7 u_57) := Lib.hid (HU_56.out.trans hb)
                         have hs_57 := HU_57.out.size
                         have HK9_57 : Hid (KeepB u_57 v_57 (u_0.heap.size) #[.int .i64 3, .int .i64 0, .int .i64 0, .string ⟨#[]⟩, .slice none 0 0, .int .i64 code, .int .i64 0] 35) := Lib.hid (HK9_56.out.app hg hf)
                         have HO_57 := Lib.hid hown
                         clear hown hb hg hf
                         refine hK.out _ _ (HSL.out HU_57.out) ?_
                         clear hK
                         refine upto_ready (rs := [10, 12]) (by kernel_rfl) rfl (by kernel_rfl) ?_
                         refine AllUpto.cons rfl (fun K hK => ?_) (AllUpto.cons rfl (fun K hK => ?_) AllUpto.nil)
                         ·
                          refine step_append_FB (R := OpR (D + 1)) (e := 35) rfl (.tmp 71) (.tmp 74) 22 rfl (bytes := 80) Tryz.underlying22 hi0 hz0 hz1 hz2 rfl (show 0 < 7 by omega) (single_op (D + 1)) rfl (xs := [] ++ ea ++ ec) (base := w7.heap.size) (B := B) HO_57.out rfl (ys := [opC code]) (src_keep HK9_57.out (Below.refl _ _) (opC_flat hcode1 hcode2)) rfl HCn.out hby3 (by omega) HU_57.out.size ?_
                          intro v_58 u_58 hown hb hg hf
                          have HU_58 : Hid (Below w7.heap.size w7 u_58) := Lib.hid (HU_57.out.trans hb)
                          have hs_58 := HU_58.out.size
                          have HK9_58 : Hid (KeepB u_58 v_58 (u_0.heap.size) #[.int .i64 3, .int .i64 0, .int .i64 0, .string ⟨#[]⟩, .slice none 0 0, .int .i64 code, .int .i64 0] 35) := Lib.hid (HK9_57.out.app hg hf)
                          obtain ⟨A2, c2, rfl⟩ := hown.form
                          simp only [List.nil_append, List.length_append, List.length_cons, List.length_nil, Nat.zero_add, Nat.reduceAdd] at hown
                          have HO_58 := Lib.hid hown
                          clear hown hb hg hf
                          refine hK.out _ _ (HSL.out HU_58.out) ?_
                          clear hK
                          refine upto_take (i := 11) (v := ?v22_) rfl (by kernel_rfl) (by kernel_rfl) (by kernel_rfl) (by kernel_rfl) ?hq22_ ?hw22_ ?hy22_ ?rest22_
                          case hq22_ => exact fun _ _ _ h => h
                          case hw22_ => rfl
                          case hy22_ => (intro w' hS'; (try dsimp only at hS'); go_simp; (try with_reducible rfl))
                          refine upto_ready (rs := [12]) (by kernel_rfl) rfl (by kernel_rfl) ?_
                          refine AllUpto.cons rfl (fun K hK => ?_) AllUpto.nil
                          ·
                           go_simp
                           generalize hW : World.alloc _ _ = u_59
                           obtain ⟨hb, hz⟩ := al1 hW
                           have hl_59 : u_58.heap.size < u_59.heap.size := by rw [hz]; exact Nat.lt_succ_self _
                           have HU_59 : Hid (Below w7.heap.size w7 u_59) := Lib.hid (HU_58.out.trans (hb.mono HU_58.out.size))
                           have hs_59 := HU_59.out.size
                           have hp_59 : Hid (u_59.heap[u_58.heap.size]? = some (.cells #[.slice none 0 0] 24 (0, 0))) := Lib.hid (hW ▸ heap_alloc_new _ _)
                           have HK12_59 : Hid (KeepB u_59 _ (u_58.heap.size) #[.slice none 0 0] 24) := Lib.hid (KeepB.mk' hp_59.out (HO_58.out.own_lt (Nat.le_refl _)))
                           have HO_59 := Lib.hid (HO_58.out.later hb (Nat.le_trans HCn.out HU_58.out.size))
                           clear hW hb hz
                           refine hK.out _ _ (HSL.out HU_59.out) ?_
                           clear hK
                           have k_o := HK12_59.out.blk.cell
                           have f_o := HK12_59.out.blk.free
                           refine upto_last (by kernel_rfl) (by kernel_rfl) rfl (fun K hK => ?_)
                           go_simp
                           refine hK.out _ _ ?_
                           go_wp2_with fail
                           go_meet
                           exact joins_end HK12_59.out HO_59.out ex_ne HCn.out HU_59.out (by omega)
                         ·
                          go_simp
                          generalize hW : World.alloc _ _ = u_60
                          obtain ⟨hb, hz⟩ := al1 hW
                          have hl_60 : u_57.heap.size < u_60.heap.size := by rw [hz]; exact Nat.lt_succ_self _
                          have HU_60 : Hid (Below w7.heap.size w7 u_60) := Lib.hid (HU_57.out.trans (hb.mono HU_57.out.size))
                          have hs_60 := HU_60.out.size
                          have hp_60 : Hid (u_60.heap[u_57.heap.size]? = some (.cells #[.slice none 0 0] 24 (0, 0))) := Lib.hid (hW ▸ heap_alloc_new _ _)
                          have HK9_60 : Hid (KeepB u_60 _ (u_0.heap.size) #[.int .i64 3, .int .i64 0, .int .i64 0, .string ⟨#[]⟩, .slice none 0 0, .int .i64 code, .int .i64 0] 35) := Lib.hid (HK9_57.out.below hb)
                          have HK12_60 : Hid (KeepB u_60 _ (u_57.heap.size) #[.slice none 0 0] 24) := Lib.hid (KeepB.mk' hp_60.out (HO_57.out.own_lt (Nat.le_refl _)))
                          have HO_60 := Lib.hid (HO_57.out.later hb (Nat.le_trans HCn.out HU_57.out.size))
                          clear hW hb hz
                          refine hK.out _ _ (HSL.out HU_60.out) ?_
                          clear hK
                          refine upto_ready (rs := [10]) (by kernel_rfl) rfl (by kernel_rfl) ?_
                          refine AllUpto.cons rfl (fun K hK => ?_) AllUpto.nil
                          ·
                           refine step_append_FB (R := OpR (D + 1)) (e := 35) rfl (.tmp 71) (.tmp 74) 22 rfl (bytes := 80) Tryz.underlying22 hi0 hz0 hz1 hz2 rfl (show 0 < 7 by omega) (single_op (D + 1)) rfl (xs := [] ++ ea ++ ec) (base := w7.heap.size) (B := B) HO_60.out rfl (ys := [opC code]) (src_keep HK9_60.out (Below.refl _ _) (opC_flat hcode1 hcode2)) rfl HCn.out hby3 (by omega) HU_60.out.size ?_
                           intro v_61 u_61 hown hb hg hf
                           have HU_61 : Hid (Below w7.heap.size w7 u_61) := Lib.hid (HU_60.out.trans hb)
                           have hs_61 := HU_61.out.size
                           have HK9_61 : Hid (KeepB u_61 v_61 (u_0.heap.size) #[.int .i64 3, .int .i64 0, .int .i64 0, .string ⟨#[]⟩, .slice none 0 0, .int .i64 code, .int .i64 0] 35) := Lib.hid (HK9_60.out.app hg hf)
                           have HK12_61 : Hid (KeepB u_61 v_61 (u_57.heap.size) #[.slice none 0 0] 24) := Lib.hid (HK12_60.out.app hg hf)
                           obtain ⟨A2, c2, rfl⟩ := hown.form
                           simp only [List.nil_append, List.length_append, List.length_cons, List.length_nil, Nat.zero_add, Nat.reduceAdd] at hown
                           have HO_61 := Lib.hid hown
                           clear hown hb hg hf
                           refine hK.out _ _ (HSL.out HU_61.out) ?_
                           clear hK
                           refine upto_take (i := 11) (v := ?v23_) rfl (by kernel_rfl) (by kernel_rfl) (by kernel_rfl) (by kernel_rfl) ?hq23_ ?hw23_ ?hy23_ ?rest23_
                           case hq23_ => exact fun _ _ _ h => h
                           case hw23_ => rfl
                           case hy23_ => (intro w' hS'; (try dsimp only at hS'); go_simp; (try with_reducible rfl))
                           have k_o := HK12_61.out.blk.cell
                           have f_o := HK12_61.out.blk.free
                           refine upto_last (by kernel_rfl) (by kernel_rfl) rfl (fun K hK => ?_)
                           go_simp
                           refine hK.out _ _ ?_
                           go_wp2_with fail
                           go_meet
                           exact joins_end HK12_61.out HO_61.out ex_ne HCn.out HU_61.out (by omega)
                        ·
                         go_simp
                         generalize hW : World.alloc _ _ = u_62
                         obtain ⟨hb, hz⟩ := al1 hW
                         have hl_62 : u_56.heap.size < u_62.heap.size := by rw [hz]; exact Nat.lt_succ_self _
                         have HU_62 : Hid (Below w7.heap.size w7 u_62) := Lib.hid (HU_56.out.trans (hb.mono HU_56.out.size))
                         have hs_62 := HU_62.out.size
                         have hp_62 : Hid (u_62.heap[u_56.heap.size]? = some (.cells #[.slice none 0 0] 24 (0, 0))) := Lib.hid (hW ▸ heap_alloc_new _ _)
                         have HK9_62 : Hid (KeepB u_62 _ (u_0.heap.size) #[.int .i64 3, .int .i64 0, .int .i64 0, .string ⟨#[]⟩, .slice none 0 0, .int .i64 code, .int .i64 0] 35) := Lib.hid (HK9_56.out.below hb)
                         have HK12_62 : Hid (KeepB u_62 _ (u_56.heap.size) #[.slice none 0 0] 24) := Lib.hid (KeepB.mk' hp_62.out (HO_56.out.own_lt (Nat.le_refl _)))
                         have HO_62 := Lib.hid (HO_56.out.later hb (Nat.le_trans HCn.out HU_56.out.size))
                         clear hW hb hz
                         refine hK.out _ _ (HSL.out HU_62.out) ?_
                         clear hK
                         refine upto_ready (rs := [6]) (by kernel_rfl) rfl (by kernel_rfl) ?_
                         refine AllUpto.cons rfl (fun K hK => ?_) AllUpto.nil
                         ·
                          refine step_append_FB (R := OpR (D + 1)) (e := 35) rfl (.tmp 68) (.tmp 70) 22 rfl (bytes := 80) Tryz.underlying22 hi0 hz0 hz1 hz2 rfl (show 0 < 7 by omega) (single_op (D + 1)) rfl (xs := [] ++ ea) (base := w7.heap.size) (B := B) HO_62.out rfl (ys := ec) ((HLkc.out.keep HU_62.out HCn.out).src) rfl HCn.out hby2 (by omega) HU_62.out.size ?_
                          intro v_63 u_63 hown hb hg hf
                          have HU_63 : Hid (Below w7.heap.size w7 u_63) := Lib.hid (HU_62.out.trans hb)
                          have hs_63 := HU_63.out.size
                          have HK9_63 : Hid (KeepB u_63 v_63 (u_0.heap.size) #[.int .i64 3, .int .i64 0, .int .i64 0, .string ⟨#[]⟩, .slice none 0 0, .int .i64 code, .int .i64 0] 35) := Lib.hid (HK9_62.out.app hg hf)
                          have HK12_63 : Hid (KeepB u_63 v_63 (u_56.heap.size) #[.slice none 0 0] 24) := Lib.hid (HK12_62.out.app hg hf)
                          have HO_63 := Lib.hid hown
                          clear hown hb hg hf
                          refine hK.out _ _ (HSL.out HU_63.out) ?_
                          clear hK
                          refine upto_ready (rs := [10]) (by kernel_rfl) rfl (by kernel_rfl) ?_
                          refine AllUpto.cons rfl (fun K hK => ?_) AllUpto.nil
                          ·
                           refine step_append_FB (R := OpR (D + 1)) (e := 35) rfl (.tmp 71) (.tmp 74) 22 rfl (bytes := 80) Tryz.underlying22 hi0 hz0 hz1 hz2 rfl (show 0 < 7 by omega) (single_op (D + 1)) rfl (xs := [] ++ ea ++ ec) (base := w7.heap.size) (B := B) HO_63.out rfl (ys := [opC code]) (src_keep HK9_63.out (Below.refl _ _) (opC_flat hcode1 hcode2)) rfl HCn.out hby3 (by omega) HU_63.out.size ?_
                           intro v_64 u_64 hown hb hg hf
                           have HU_64 : Hid (Below w7.heap.size w7 u_64) := Lib.hid (HU_63.out.trans hb)
                           have hs_64 := HU_64.out.size
                           have HK9_64 : Hid (KeepB u_64 v_64 (u_0.heap.size) #[.int .i64 3, .int .i64 0, .int .i64 0, .string ⟨#[]⟩, .slice none 0 0, .int .i64 code, .int .i64 0] 35) := Lib.hid (HK9_63.out.app hg hf)
                           have HK12_64 : Hid (KeepB u_64 v_64 (u_56.heap.size) #[.slice none 0 0] 24) := Lib.hid (HK12_63.out.app hg hf)
                           obtain ⟨A2, c2, rfl⟩ := hown.form
                           simp only [List.nil_append, List.length_append, List.length_cons, List.length_nil, Nat.zero_add, Nat.reduceAdd] at hown
                           have HO_64 := Lib.hid hown
                           clear hown hb hg hf
                           refine hK.out _ _ (HSL.out HU_64.out) ?_
                           clear hK
                           refine upto_take (i := 11) (v := ?v24_) rfl (by kernel_rfl) (by kernel_rfl) (by kernel_rfl) (by kernel_rfl) ?hq24_ ?hw24_ ?hy24_ ?rest24_
                           case hq24_ => exact fun _ _ _ h => h
                           case hw24_ => rfl
                           case hy24_ => (intro w' hS'; (try dsimp only at hS'); go_simp; (try with_reducible rfl))
                           have k_o := HK12_64.out.blk.cell
                           have f_o := HK12_64.out.blk.free
                           refine upto_last (by kernel_rfl) (by kernel_rfl) rfl (fun K hK => ?_)
                           go_simp
                           refine hK.out _ _ ?_
                           go_wp2_with fail
                           go_meet
                           exact joins_end HK12_64.out HO_64.out ex_ne HCn.out HU_64.out (by omega)
                       ·
                        go_simp
                        generalize hW : World.alloc _ _ = u_65
                        obtain ⟨hb, hz⟩ := al1 hW
                        have hl_65 : u_55.heap.size < u_65.heap.size := by rw [hz]; exact Nat.lt_succ_self _
                        have HU_65 : Hid (Below w7.heap.size w7 u_65) := Lib.hid (HU_55.out.trans (hb.mono HU_55.out.size))
                        have hs_65 := HU_65.out.size
                        have hp_65 : Hid (u_65.heap[u_55.heap.size]? = some (.cells #[.slice none 0 0] 24 (0, 0))) := Lib.hid (hW ▸ heap_alloc_new _ _)
                        have HK9_65 : Hid (KeepB u_65 _ (u_0.heap.size) #[.int .i64 3, .int .i64 0, .int .i64 0, .string ⟨#[]⟩, .slice none 0 0, .int .i64 code, .int .i64 0] 35) := Lib.hid (HK9_55.out.below hb)
                        have HK12_65 : Hid (KeepB u_65 _ (u_55.heap.size) #[.slice none 0 0] 24) := Lib.hid (KeepB.mk' hp_65.out (HO_55.out.own_lt (Nat.le_refl _)))
                        have HO_65 := Lib.hid (HO_55.out.later hb (Nat.le_trans HCn.out HU_55.out.size))
                        clear hW hb hz
                        refine hK.out _ _ (HSL.out HU_65.out) ?_
                        clear hK
                        refine upto_ready (rs := [3]) (by kernel_rfl) rfl (by kernel_rfl) ?_
                        refine AllUpto.cons rfl (fun K hK => ?_) AllUpto.nil
                        ·
                         refine step_append_FB (R := OpR (D + 1)) (e := 35) rfl (.tmp 65) (.tmp 67) 22 rfl (bytes := 80) Tryz.underlying22 hi0 hz0 hz1 hz2 rfl (show 0 < 7 by omega) (single_op (D + 1)) rfl (xs := []) (base := w7.heap.size) (B := B) HO_65.out rfl (ys := ea) ((HLka.out.keep HU_65.out HCn.out).src) rfl HCn.out hby1 (by omega) HU_65.out.size ?_
                         intro v_66 u_66 hown hb hg hf
                         have HU_66 : Hid (Below w7.heap.size w7 u_66) := Lib.hid (HU_65.out.trans hb)
                         have hs_66 := HU_66.out.size
                         have HK9_66 : Hid (KeepB u_66 v_66 (u_0.heap.size) #[.int .i64 3, .int .i64 0, .int .i64 0, .string ⟨#[]⟩, .slice none 0 0, .int .i64 code, .int .i64 0] 35) := Lib.hid (HK9_65.out.app hg hf)
                         have HK12_66 : Hid (KeepB u_66 v_66 (u_55.heap.size) #[.slice none 0 0] 24) := Lib.hid (HK12_65.out.app hg hf)
                         have HO_66 := Lib.hid hown
                         clear hown hb hg hf
                         refine hK.out _ _ (HSL.out HU_66.out) ?_
                         clear hK
                         refine upto_ready (rs := [6]) (by kernel_rfl) rfl (by kernel_rfl) ?_
                         refine AllUpto.cons rfl (fun K hK => ?_) AllUpto.nil
                         ·
                          refine step_append_FB (R := OpR (D + 1)) (e := 35) rfl (.tmp 68) (.tmp 70) 22 rfl (bytes := 80) Tryz.underlying22 hi0 hz0 hz1 hz2 rfl (show 0 < 7 by omega) (single_op (D + 1)) rfl (xs := [] ++ ea) (base := w7.heap.size) (B := B) HO_66.out rfl (ys := ec) ((HLkc.out.keep HU_66.out HCn.out).src) rfl HCn.out hby2 (by omega) HU_66.out.size ?_
                          intro v_67 u_67 hown hb hg hf
                          have HU_67 : Hid (Below w7.heap.size w7 u_67) := Lib.hid (HU_66.out.trans hb)
                          have hs_67 := HU_67.out.size
                          have HK9_67 : Hid (KeepB u_67 v_67 (u_0.heap.size) #[.int .i64 3, .int .i64 0, .int .i64 0, .string ⟨#[]⟩, .slice none 0 0, .int .i64 code, .int .i64 0] 35) := Lib.hid (HK9_66.out.app hg hf)
                          have HK12_67 : Hid (KeepB u_67 v_67 (u_55.heap.size) #[.slice none 0 0] 24) := Lib.hid (HK12_66.out.app hg hf)
                          have HO_67 := Lib.hid hown
                          clear hown hb hg hf
                          refine hK.out _ _ (HSL.out HU_67.out) ?_
                          clear hK
                          refine upto_ready (rs := [10]) (by kernel_rfl) rfl (by kernel_rfl) ?_
                          refine AllUpto.cons rfl (fun K hK => ?_) AllUpto.nil
                          ·
                           refine step_append_FB (R := OpR (D + 1)) (e := 35) rfl (.tmp 71) (.tmp 74) 22 rfl (bytes := 80) Tryz.underlying22 hi0 hz0 hz1 hz2 rfl (show 0 < 7 by omega) (single_op (D + 1)) rfl (xs := [] ++ ea ++ ec) (base := w7.heap.size) (B := B) HO_67.out rfl (ys := [opC code]) (src_keep HK9_67.out (Below.refl _ _) (opC_flat hcode1 hcode2)) rfl HCn.out hby3 (by omega) HU_67.out.size ?_
                           intro v_68 u_68 hown hb hg hf
                           have HU_68 : Hid (Below w7.heap.size w7 u_68) := Lib.hid (HU_67.out.trans hb)
                           have hs_68 := HU_68.out.size
                           have HK9_68 : Hid (KeepB u_68 v_68 (u_0.heap.size) #[.int .i64 3, .int .i64 0, .int .i64 0, .string ⟨#[]⟩, .slice none 0 0, .int .i64 code, .int .i64 0] 35) := Lib.hid (HK9_67.out.app hg hf)
                           have HK12_68 : Hid (KeepB u_68 v_68 (u_55.heap.size) #[.slice none 0 0] 24) := Lib.hid (HK12_67.out.app hg hf)
                           obtain ⟨A2, c2, rfl⟩ := hown.form
                           simp only [List.nil_append, List.length_append, List.length_cons, List.length_nil, Nat.zero_add, Nat.reduceAdd] at hown
                           have HO_68 := Lib.hid hown
                           clear hown hb hg hf
                           refine hK.out _ _ (HSL.out HU_68.out) ?_
                           clear hK
                           refine upto_take (i := 11) (v := ?v25_) rfl (by kernel_rfl) (by kernel_rfl) (by kernel_rfl) (by kernel_rfl) ?hq25_ ?hw25_ ?hy25_ ?rest25_
                           case hq25_ => exact fun _ _ _ h => h
                           case hw25_ => rfl
                           case hy25_ => (intro w' hS'; (try dsimp only at hS'); go_simp; (try with_reducible rfl))
                           have k_o := HK12_68.out.blk.cell
                           have f_o := HK12_68.out.blk.free
                           refine upto_last (by kernel_rfl) (by kernel_rfl) rfl (fun K hK => ?_)
                           go_simp
                           refine hK.out _ _ ?_
                           go_wp2_with fail
                           go_meet
                           exact joins_end HK12_68.out HO_68.out ex_ne HCn.out HU_68.out (by omega)
                      ·
                       go_simp
                       generalize hW : World.alloc _ _ = u_69
                       obtain ⟨hb, hz⟩ := al1 hW
                       have hl_69 : u_54.heap.size < u_69.heap.size := by rw [hz]; exact Nat.lt_succ_self _
                       have HU_69 : Hid (Below w7.heap.size w7 u_69) := Lib.hid (HU_54.out.trans (hb.mono HU_54.out.size))
                       have hs_69 := HU_69.out.size
                       have hp_69 : Hid (u_69.heap[u_54.heap.size]? = some (.cells #[.slice none 0 0] 24 (0, 0))) := Lib.hid (hW ▸ heap_alloc_new _ _)
                       have HK9_69 : Hid (u_69.heap[u_0.heap.size]? = some (.cells #[.int .i64 3, .int .i64 0, .int .i64 0, .string ⟨#[]⟩, .slice none 0 0, .int .i64 code, .int .i64 0] 35 (0, 0))) := Lib.hid ((hb.block _ (by omega)).trans HK9_54.out)
                       have HK12_69 := hp_69
                       clear hW hb hz
                       refine hK.out _ _ (HSL.out HU_69.out) ?_
                       clear hK
                       refine upto_ready (rs := [0]) (by kernel_rfl) rfl (by kernel_rfl) ?_
                       refine AllUpto.cons rfl (fun K hK => ?_) AllUpto.nil
                       ·
                        go_simp
                        generalize hW : World.alloc _ _ = u_70
                        obtain ⟨hb, hz⟩ := al1 hW
                        have hl_70 : u_69.heap.size < u_70.heap.size := by rw [hz]; exact Nat.lt_succ_self _
                        have HU_70 : Hid (Below w7.heap.size w7 u_70) := Lib.hid (HU_69.out.trans (hb.mono HU_69.out.size))
                        have hs_70 := HU_70.out.size
                        have hp_70 : Hid (u_70.heap[u_69.heap.size]? = some (.cells #[] 35 (0, 0))) := Lib.hid (hW ▸ heap_alloc_new _ _)
                        have HK9_70 : Hid (KeepB u_70 (.slice (some ⟨u_69.heap.size, 0, none⟩) 0 0) (u_0.heap.size) #[.int .i64 3, .int .i64 0, .int .i64 0, .string ⟨#[]⟩, .slice none 0 0, .int .i64 code, .int .i64 0] 35) := Lib.hid (KeepB.mk' ((hb.block _ (by omega)).trans HK9_69.out) (ne_own (by omega)).symm)
                        have HK12_70 : Hid (KeepB u_70 (.slice (some ⟨u_69.heap.size, 0, none⟩) 0 0) (u_54.heap.size) #[.slice none 0 0] 24) := Lib.hid (KeepB.mk' ((hb.block _ (by omega)).trans HK12_69.out) (ne_own (by omega)).symm)
                        have HO_70 : Hid (OwnR (OpR (D + 1)) 35 u_70 w7.heap.size B (.slice (some ⟨u_69.heap.size, 0, none⟩) 0 0) []) := Lib.hid (OwnR.empty (OpR (D + 1)) 35 hp_70.out (by omega) B)
                        clear hW hb hz
                        refine hK.out _ _ (HSL.out HU_70.out) ?_
                        clear hK
                        refine upto_ready (rs := [3]) (by kernel_rfl) rfl (by kernel_rfl) ?_
                        refine AllUpto.cons rfl (fun K hK => ?_) AllUpto.nil
                        ·
                         refine step_append_FB (R := OpR (D + 1)) (e := 35) rfl (.tmp 65) (.tmp 67) 22 rfl (bytes := 80) Tryz.underlying22 hi0 hz0 hz1 hz2 rfl (show 0 < 7 by omega) (single_op (D + 1)) rfl (xs := []) (base := w7.heap.size) (B := B) HO_70.out rfl (ys := ea) ((HLka.out.keep HU_70.out HCn.out).src) rfl HCn.out hby1 (by omega) HU_70.out.size ?_
                         intro v_71 u_71 hown hb hg hf
                         have HU_71 : Hid (Below w7.heap.size w7 u_71) := Lib.hid (HU_70.out.trans hb)
                         have hs_71 := HU_71.out.size
                         have HK9_71 : Hid (KeepB u_71 v_71 (u_0.heap.size) #[.int .i64 3, .int .i64 0, .int .i64 0, .string ⟨#[]⟩, .slice none 0 0, .int .i64 code, .int .i64 0] 35) := Lib.hid (HK9_70.out.app hg hf)
                         have HK12_71 : Hid (KeepB u_71 v_71 (u_54.heap.size) #[.slice none 0 0] 24) := Lib.hid (HK12_70.out.app hg hf)
                         have HO_71 := Lib.hid hown
                         clear hown hb hg hf
                         refine hK.out _ _ (HSL.out HU_71.out) ?_
                         clear hK
                         refine upto_ready (rs := [6]) (by kernel_rfl) rfl (by kernel_rfl) ?_
                         refine AllUpto.cons rfl (fun K hK => ?_) AllUpto.nil
                         ·
                          refine step_append_FB (R := OpR (D + 1)) (e := 35) rfl (.tmp 68) (.tmp 70) 22 rfl (bytes := 80) Tryz.underlying22 hi0 hz0 hz1 hz2 rfl (show 0 < 7 by omega) (single_op (D + 1)) rfl (xs := [] ++ ea) (base := w7.heap.size) (B := B) HO_71.out rfl (ys := ec) ((HLkc.out.keep HU_71.out HCn.out).src) rfl HCn.out hby2 (by omega) HU_71.out.size ?_
                          intro v_72 u_72 hown hb hg hf
                          have HU_72 : Hid (Below w7.heap.size w7 u_72) := Lib.hid (HU_71.out.trans hb)
                          have hs_72 := HU_72.out.size
                          have HK9_72 : Hid (KeepB u_72 v_72 (u_0.heap.size) #[.int .i64 3, .int .i64 0, .int .i64 0, .string ⟨#[]⟩, .slice none 0 0, .int .i64 code, .int .i64 0] 35) := Lib.hid (HK9_71.out.app hg hf)
                          have HK12_72 : Hid (KeepB u_72 v_72 (u_54.heap.size) #[.slice none 0 0] 24) := Lib.hid (HK12_71.out.app hg hf)
                          have HO_72 := Lib.hid hown
                          clear hown hb hg hf
                          refine hK.out _ _ (HSL.out HU_72.out) ?_
                          clear hK
                          refine upto_ready (rs := [10]) (by kernel_rfl) rfl (by kernel_rfl) ?_
                          refine AllUpto.cons rfl (fun K hK => ?_) AllUpto.nil
                          ·
                           refine step_append_FB (R := OpR (D + 1)) (e := 35) rfl (.tmp 71) (.tmp 74) 22 rfl (bytes := 80) Tryz.underlying22 hi0 hz0 hz1 hz2 rfl (show 0 < 7 by omega) (single_op (D + 1)) rfl (xs := [] ++ ea ++ ec) (base := w7.heap.size) (B := B) HO_72.out rfl (ys := [opC code]) (src_keep HK9_72.out (Below.refl _ _) (opC_flat hcode1 hcode2)) rfl HCn.out hby3 (by omega) HU_72.out.size ?_
                           intro v_73 u_73 hown hb hg hf
                           have HU_73 : Hid (Below w7.heap.size w7 u_73) := Lib.hid (HU_72.out.trans hb)
                           have hs_73 := HU_73.out.size
                           have HK9_73 : Hid (KeepB u_73 v_73 (u_0.heap.size) #[.int .i64 3, .int .i64 0, .int .i64 0, .string ⟨#[]⟩, .slice none 0 0, .int .i64 code, .int .i64 0] 35) := Lib.hid (HK9_72.out.app hg hf)
                           have HK12_73 : Hid (KeepB u_73 v_73 (u_54.heap.size) #[.slice none 0 0] 24) := Lib.hid (HK12_72.out.app hg hf)
                           obtain ⟨A2, c2, rfl⟩ := hown.form
                           simp only [List.nil_append, List.length_append, List.length_cons, List.length_nil, Nat.zero_add, Nat.reduceAdd] at hown
                           have HO_73 := Lib.hid hown
                           clear hown hb hg hf
                           refine hK.out _ _ (HSL.out HU_73.out) ?_
                           clear hK
                           refine upto_take (i := 11) (v := ?v26_) rfl (by kernel_rfl) (by kernel_rfl) (by kernel_rfl) (by kernel_rfl) ?hq26_ ?hw26_ ?hy26_ ?rest26_
                           case hq26_ => exact fun _ _ _ h => h
                           case hw26_ => rfl
                           case hy26_ => (intro w' hS'; (try dsimp only at hS'); go_simp; (try with_reducible rfl))
                           have k_o := HK12_73.out.blk.cell
                           have f_o := HK12_73.out.blk.free
                           refine upto_last (by kernel_rfl) (by kernel_rfl) rfl (fun K hK => ?_)
                           go_simp
                           refine hK.out _ _ ?_
                           go_wp2_with fail
                           go_meet
                           exact joins_end HK12_73.out HO_73.out ex_ne HCn.out HU_73.out (by omega)
                     ·
                      go_simp
                      generalize hW : World.alloc _ _ = u_74
                      obtain ⟨hb, hz⟩ := al1 hW
                      have hl_74 : u_0.heap.size < u_74.heap.size := by rw [hz]; exact Nat.lt_succ_self _
                      have HU_74 : Hid (Below w7.heap.size w7 u_74) := Lib.hid (HU_0.out.trans (hb.mono HU_0.out.size))
                      have hs_74 := HU_74.out.size
                      have hp_74 : Hid (u_74.heap[u_0.heap.size]? = some (.cells #[.slice none 0 0] 24 (0, 0))) := Lib.hid (hW ▸ heap_alloc_new _ _)
                      have HK12_74 := hp_74
                      clear hW hb hz
                      refine hK.out _ _ (HSL.out HU_74.out) ?_
                      clear hK
                      refine upto_ready (rs := [0, 9]) (by kernel_rfl) rfl (by kernel_rfl) ?_
                      refine AllUpto.cons rfl (fun K hK => ?_) (AllUpto.cons rfl (fun K hK => ?_) AllUpto.nil)
                      ·
                       go_simp
                       generalize hW : World.alloc _ _ = u_75
                       obtain ⟨hb, hz⟩ := al1 hW
                       have hl_75 : u_74.heap.size < u_75.heap.size := by rw [hz]; exact Nat.lt_succ_self _
                       have HU_75 : Hid (Below w7.heap.size w7 u_75) := Lib.hid (HU_74.out.trans (hb.mono HU_74.out.size))
                       have hs_75 := HU_75.out.size
                       have hp_75 : Hid (u_75.heap[u_74.heap.size]? = some (.cells #[] 35 (0, 0))) := Lib.hid (hW ▸ heap_alloc_new _ _)
                       have HK12_75 : Hid (KeepB u_75 (.slice (some ⟨u_74.heap.size, 0, none⟩) 0 0) (u_0.heap.size) #[.slice none 0 0] 24) := Lib.hid (KeepB.mk' ((hb.block _ (by omega)).trans HK12_74.out) (ne_own (by omega)).symm)
                       have HO_75 : Hid (OwnR (OpR (D + 1)) 35 u_75 w7.heap.size B (.slice (some ⟨u_74.heap.size, 0, none⟩) 0 0) []) := Lib.hid (OwnR.empty (OpR (D + 1)) 35 hp_75.out (by omega) B)
                       clear hW hb hz
                       refine hK.out _ _ (HSL.out HU_75.out) ?_
                       clear hK
                       refine upto_ready (rs := [3, 9]) (by kernel_rfl) rfl (by kernel_rfl) ?_
                       refine AllUpto.cons rfl (fun K hK => ?_) (AllUpto.cons rfl (fun K hK => ?_) AllUpto.nil)
                       ·
                        refine step_append_FB (R := OpR (D + 1)) (e := 35) rfl (.tmp 65) (.tmp 67) 22 rfl (bytes := 80) Tryz.underlying22 hi0 hz0 hz1 hz2 rfl (show 0 < 7 by omega) (single_op (D + 1)) rfl (xs := []) (base := w7.heap.size) (B := B) HO_75.out rfl (ys := ea) ((HLka.out.keep HU_75.out HCn.out).src) rfl HCn.out hby1 (by omega) HU_75.out.size ?_
                        intro v_76 u_76 hown hb hg hf
                        have HU_76 : Hid (Below w7.heap.size w7 u_76) := Lib.hid (HU_75.out.trans hb)
                        have hs_76 := HU_76.out.size
                        have HK12_76 : Hid (KeepB u_76 v_76 (u_0.heap.size) #[.slice none 0 0] 24) := Lib.hid (HK12_75.out.app hg hf)
                        have HO_76 := Lib.hid hown
                        clear hown hb hg hf
                        refine hK.out _ _ (HSL.out HU_76.out) ?_
                        clear hK
                        refine upto_ready (rs := [6, 9]) (by kernel_rfl) rfl (by kernel_rfl) ?_
                        refine AllUpto.cons rfl (fun K hK => ?_) (AllUpto.cons rfl (fun K hK => ?_) AllUpto.nil)
                        ·
                         refine step_append_FB (R := OpR (D + 1)) (e := 35) rfl (.tmp 68) (.tmp 70) 22 rfl (bytes := 80) Tryz.underlying22 hi0 hz0 hz1 hz2 rfl (show 0 < 7 by omega) (single_op (D + 1)) rfl (xs := [] ++ ea) (base := w7.heap.size) (B := B) HO_76.out rfl (ys := ec) ((HLkc.out.keep HU_76.out HCn.out).src) rfl HCn.out hby2 (by omega) HU_76.out.size ?_
                         intro v_77 u_77 hown hb hg hf
                         have HU_77 : Hid (Below w7.heap.size w7 u_77) := Lib.hid (HU_76.out.trans hb)
                         have hs_77 := HU_77.out.size
                         have HK12_77 : Hid (KeepB u_77 v_77 (u_0.heap.size) #[.slice none 0 0] 24) := Lib.hid (HK12_76.out.app hg hf)
                         have HO_77 := Lib.hid hown
                         clear hown hb hg hf
                         refine hK.out _ _ (HSL.out HU_77.out) ?_
                         clear hK
                         refine upto_ready (rs := [9]) (by kernel_rfl) rfl (by kernel_rfl) ?_
                         refine AllUpto.cons rfl (fun K hK => ?_) AllUpto.nil
                         ·
                          go_simp
                          generalize hW : World.alloc _ _ = u_78
                          obtain ⟨hb, hz⟩ := al1 hW
                          have hl_78 : u_77.heap.size < u_78.heap.size := by rw [hz]; exact Nat.lt_succ_self _
                          have HU_78 : Hid (Below w7.heap.size w7 u_78) := Lib.hid (HU_77.out.trans (hb.mono HU_77.out.size))
                          have hs_78 := HU_78.out.size
                          have hp_78 : Hid (u_78.heap[u_77.heap.size]? = some (.cells #[.int .i64 3, .int .i64 0, .int .i64 0, .string ⟨#[]⟩, .slice none 0 0, .int .i64 code, .int .i64 0] 35 (0, 0))) := Lib.hid (hW ▸ heap_alloc_new _ _)
                          have HK12_78 : Hid (KeepB u_78 _ (u_0.heap.size) #[.slice none 0 0] 24) := Lib.hid (HK12_77.out.below hb)
                          have HK9_78 : Hid (KeepB u_78 _ (u_77.heap.size) #[.int .i64 3, .int .i64 0, .int .i64 0, .string ⟨#[]⟩, .slice none 0 0, .int .i64 code, .int .i64 0] 35) := Lib.hid (KeepB.mk' hp_78.out (HO_77.out.own_lt (Nat.le_refl _)))
                          have HO_78 := Lib.hid (HO_77.out.later hb (Nat.le_trans HCn.out HU_77.out.size))
                          clear hW hb hz
                          refine hK.out _ _ (HSL.out HU_78.out) ?_
                          clear hK
                          refine upto_ready (rs := [10]) (by kernel_rfl) rfl (by kernel_rfl) ?_
                          refine AllUpto.cons rfl (fun K hK => ?_) AllUpto.nil
                          ·
                           refine step_append_FB (R := OpR (D + 1)) (e := 35) rfl (.tmp 71) (.tmp 74) 22 rfl (bytes := 80) Tryz.underlying22 hi0 hz0 hz1 hz2 rfl (show 0 < 7 by omega) (single_op (D + 1)) rfl (xs := [] ++ ea ++ ec) (base := w7.heap.size) (B := B) HO_78.out rfl (ys := [opC code]) (src_keep HK9_78.out (Below.refl _ _) (opC_flat hcode1 hcode2)) rfl HCn.out hby3 (by omega) HU_78.out.size ?_
                           intro v_79 u_79 hown hb hg hf
                           have HU_79 : Hid (Below w7.heap.size w7 u_79) := Lib.hid (HU_78.out.trans hb)
                           have hs_79 := HU_79.out.size
                           have HK12_79 : Hid (KeepB u_79 v_79 (u_0.heap.size) #[.slice none 0 0] 24) := Lib.hid (HK12_78.out.app hg hf)
                           have HK9_79 : Hid (KeepB u_79 v_79 (u_77.heap.size) #[.int .i64 3, .int .i64 0, .int .i64 0, .string ⟨#[]⟩, .slice none 0 0, .int .i64 code, .int .i64 0] 35) := Lib.hid (HK9_78.out.app hg hf)
                           obtain ⟨A2, c2, rfl⟩ := hown.form
                           simp only [List.nil_append, List.length_append, List.length_cons, List.length_nil, Nat.zero_add, Nat.reduceAdd] at hown
                           have HO_79 := Lib.hid hown
                           clear hown hb hg hf
                           refine hK.out _ _ (HSL.out HU_79.out) ?_
                           clear hK
                           refine upto_take (i := 11) (v := ?v27_) rfl (by kernel_rfl) (by kernel_rfl) (by kernel_rfl) (by kernel_rfl) ?hq27_ ?hw27_ ?hy27_ ?rest27_
                           case hq27_ => exact fun _ _ _ h => h
                           case hw27_ => rfl
                           case hy27_ => (intro w' hS'; (try dsimp only at hS'); go_simp; (try with_reducible rfl))
                           have k_o := HK12_79.out.blk.cell
                           have f_o := HK12_79.out.blk.free
                           refine upto_last (by kernel_rfl) (by kernel_rfl) rfl (fun K hK => ?_)
                           go_simp
                           refine hK.out _ _ ?_
                           go_wp2_with fail
                           go_meet
                           exact joins_end HK12_79.out HO_79.out ex_ne HCn.out HU_79.out (by omega)
                        ·
                         go_simp
                         generalize hW : World.alloc _ _ = u_80
                         obtain ⟨hb, hz⟩ := al1 hW
                         have hl_80 : u_76.heap.size < u_80.heap.size := by rw [hz]; exact Nat.lt_succ_self _
                         have HU_80 : Hid (Below w7.heap.size w7 u_80) := Lib.hid (HU_76.out.trans (hb.mono HU_76.out.size))
                         have hs_80 := HU_80.out.size
                         have hp_80 : Hid (u_80.heap[u_76.heap.size]? = some (.cells #[.int .i64 3, .int .i64 0, .int .i64 0, .string ⟨#[]⟩, .slice none 0 0, .int .i64 code, .int .i64 0] 35 (0, 0))) := Lib.hid (hW ▸ heap_alloc_new _ _)
                         have HK12_80 : Hid (KeepB u_80 _ (u_0.heap.size) #[.slice none 0 0] 24) := Lib.hid (HK12_76.out.below hb)
                         have HK9_80 : Hid (KeepB u_80 _ (u_76.heap.size) #[.int .i64 3, .int .i64 0, .int .i64 0, .string ⟨#[]⟩, .slice none 0 0, .int .i64 code, .int .i64 0] 35) := Lib.hid (KeepB.mk' hp_80.out (HO_76.out.own_lt (Nat.le_refl _)))
                         have HO_80 := Lib.hid (HO_76.out.later hb (Nat.le_trans HCn.out HU_76.out.size))
                         clear hW hb hz
                         refine hK.out _ _ (HSL.out HU_80.out) ?_
                         clear hK
                         refine upto_ready (rs := [6]) (by kernel_rfl) rfl (by kernel_rfl) ?_
                         refine AllUpto.cons rfl (fun K hK => ?_) AllUpto.nil
                         ·
                          refine step_append_FB (R := OpR (D + 1)) (e := 35) rfl (.tmp 68) (.tmp 70) 22 rfl (bytes := 80) Tryz.underlying22 hi0 hz0 hz1 hz2 rfl (show 0 < 7 by omega) (single_op (D + 1)) rfl (xs := [] ++ ea) (base := w7.heap.size) (B := B) HO_80.out rfl (ys := ec) ((HLkc.out.keep HU_80.out HCn.out).src) rfl HCn.out hby2 (by omega) HU_80.out.size ?_
                          intro v_81 u_81 hown hb hg hf
                          have HU_81 : Hid (Below w7.heap.size w7 u_81) := Lib.hid (HU_80.out.trans hb)
                          have hs_81 := HU_81.out.size
                          have HK12_81 : Hid (KeepB u_81 v_81 (u_0.heap.size) #[.slice none 0 0] 24) := Lib.hid (HK12_80.out.app hg hf)
                          have HK9_81 : Hid (KeepB u_81 v_81 (u_76.heap.size) #[.int .i64 3, .int .i64 0, .int .i64 0, .string ⟨#[]⟩, .slice none 0 0, .int .i64 code, .int .i64 0] 35) := Lib.hid (HK9_80.out.app hg hf)
                          have HO_81 := Lib.hid hown
                          clear hown hb hg hf
                          refine hK.out _ _ (HSL.out HU_81.out) ?_
                          clear hK
                          refine upto_ready (rs := [10]) (by kernel_rfl) rfl (by kernel_rfl) ?_
                          refine AllUpto.cons rfl (fun K hK => ?_) AllUpto.nil
                          ·
                           refine step_append_FB (R := OpR (D + 1)) (e := 35) rfl (.tmp 71) (.tmp 74) 22 rfl (bytes := 80) Tryz.underlying22 hi0 hz0 hz1 hz2 rfl (show 0 < 7 by omega) (single_op (D + 1)) rfl (xs := [] ++ ea ++ ec) (base := w7.heap.size) (B := B) HO_81.out rfl (ys := [opC code]) (src_keep HK9_81.out (Below.refl _ _) (opC_flat hcode1 hcode2)) rfl HCn.out hby3 (by omega) HU_81.out.size ?_
                           intro v_82 u_82 hown hb hg hf
                           have HU_82 : Hid (Below w7.heap.size w7 u_82) := Lib.hid (HU_81.out.trans hb)
                           have hs_82 := HU_82.out.size
                           have HK12_82 : Hid (KeepB u_82 v_82 (u_0.heap.size) #[.slice none 0 0] 24) := Lib.hid (HK12_81.out.app hg hf)
                           have HK9_82 : Hid (KeepB u_82 v_82 (u_76.heap.size) #[.int .i64 3, .int .i64 0, .int .i64 0, .string ⟨#[]⟩, .slice none 0 0, .int .i64 code, .int .i64 0] 35) := Lib.hid (HK9_81.out.app hg hf)
                           obtain ⟨A2, c2, rfl⟩ := hown.form
                           simp only [List.nil_append, List.length_append, List.length_cons, List.length_nil, Nat.zero_add, Nat.reduceAdd] at hown
                           have HO_82 := Lib.hid hown
                           clear hown hb hg hf
                           refine hK.out _ _ (HSL.out HU_82.out) ?_
                           clear hK
                           refine upto_take (i := 11) (v := ?v28_) rfl (by kernel_rfl) (by kernel_rfl) (by kernel_rfl) (by kernel_rfl) ?hq28_ ?hw28_ ?hy28_ ?rest28_
                           case hq28_ => exact fun _ _ _ h => h
                           case hw28_ => rfl
                           case hy28_ => (intro w' hS'; (try dsimp only at hS'); go_simp; (try with_reducible rfl))
                           have k_o := HK12_82.out.blk.cell
                           have f_o := HK12_82.out.blk.free
                           refine upto_last (by kernel_rfl) (by kernel_rfl) rfl (fun K hK => ?_)
                           go_simp
                           refine hK.out _ _ ?_
                           go_wp2_with fail
                           go_meet
                           exact joins_end HK12_82.out HO_82.out ex_ne HCn.out HU_82.out (by omega)
                       ·
                        go_simp
                        generalize hW : World.alloc _ _ = u_83
                        obtain ⟨hb, hz⟩ := al1 hW
                        have hl_83 : u_75.heap.size < u_83.heap.size := by rw [hz]; exact Nat.lt_succ_self _
                        have HU_83 : Hid (Below w7.heap.size w7 u_83) := Lib.hid (HU_75.out.trans (hb.mono HU_75.out.size))
                        have hs_83 := HU_83.out.size
                        have hp_83 : Hid (u_83.heap[u_75.heap.size]? = some (.cells #[.int .i64 3, .int .i64 0, .int .i64 0, .string ⟨#[]⟩, .slice none 0 0, .int .i64 code, .int .i64 0] 35 (0, 0))) := Lib.hid (hW ▸ heap_alloc_new _ _)
                        have HK12_83 : Hid (KeepB u_83 _ (u_0.heap.size) #[.slice none 0 0] 24) := Lib.hid (HK12_75.out.below hb)
                        have HK9_83 : Hid (KeepB u_83 _ (u_75.heap.size) #[.int .i64 3, .int .i64 0, .int .i64 0, .string ⟨#[]⟩, .slice none 0 0, .int .i64 code, .int .i64 0] 35) := Lib.hid (KeepB.mk' hp_83.out (HO_75.out.own_lt (Nat.le_refl _)))
                        have HO_83 := Lib.hid (HO_75.out.later hb (Nat.le_trans HCn.out HU_75.out.size))
                        clear hW hb hz
                        refine hK.out _ _ (HSL.out HU_83.out) ?_
                        clear hK
                        refine upto_ready (rs := [3]) (by kernel_rfl) rfl (by kernel_rfl) ?_
                        refine AllUpto.cons rfl (fun K hK => ?_) AllUpto.nil
                        ·
                         refine step_append_FB (R := OpR (D + 1)) (e := 35) rfl (.tmp 65) (.tmp 67) 22 rfl (bytes := 80) Tryz.underlying22 hi0 hz0 hz1 hz2 rfl (show 0 < 7 by omega) (single_op (D + 1)) rfl (xs := []) (base := w7.heap.size) (B := B) HO_83.out rfl (ys := ea) ((HLka.out.keep HU_83.out HCn.out).src) rfl HCn.out hby1 (by omega) HU_83.out.size ?_
                         intro v_84 u_84 hown hb hg hf
                         have HU_84 : Hid (Below w7.heap.size w7 u_84) := Lib.hid (HU_83.out.trans hb)
                         have hs_84 := HU_84.out.size
                         have HK12_84 : Hid (KeepB u_84 v_84 (u_0.heap.size) #[.slice none 0 0] 24) := Lib.hid (HK12_83.out.app hg hf)
                         have HK9_84 : Hid (KeepB u_84 v_84 (u_75.heap.size) #[.int .i64 3, .int .i64 0, .int .i64 0, .string ⟨#[]⟩, .slice none 0 0, .int .i64 code, .int .i64 0] 35) := Lib.hid (HK9_83.out.app hg hf)
                         have HO_84 := Lib.hid hown
                         clear hown hb hg hf
                         refine hK.out _ _ (HSL.out HU_84.out) ?_
                         clear hK
                         refine upto_ready (rs := [6]) (by kernel_rfl) rfl (by kernel_rfl) ?_
                         refine AllUpto.cons rfl (fun K hK => ?_) AllUpto.nil
                         ·
                          refine step_append_FB (R := OpR (D + 1)) (e := 35) rfl (.tmp 68) (.tmp 70) 22 rfl (bytes := 80) Tryz.underlying22 hi0 hz0 hz1 hz2 rfl (show 0 < 7 by omega) (single_op (D + 1)) rfl (xs := [] ++ ea) (base := w7.heap.size) (B := B) HO_84.out rfl (ys := ec) ((HLkc.out.keep HU_84.out HCn.out).src) rfl HCn.out hby2 (by omega) HU_84.out.size ?_
                          intro v_85 u_85 hown hb hg hf
                          have HU_85 : Hid (Below w7.heap.size w7 u_85) := Lib.hid (HU_84.out.trans hb)
                          have hs_85 := HU_85.out.size
                          have HK12_85 : Hid (KeepB u_85 v_85 (u_0.heap.size) #[.slice none 0 0] 24) := Lib.hid (HK12_84.out.app hg hf)
                          have HK9_85 : Hid (KeepB u_85 v_85 (u_75.heap.size) #[.int .i64 3, .int .i64 0, .int .i64 0, .string ⟨#[]⟩, .slice none 0 0, .int .i64 code, .int .i64 0] 35) := Lib.hid (HK9_84.out.app hg hf)
                          have HO_85 := Lib.hid hown
                          clear hown hb hg hf
                          refine hK.out _ _ (HSL.out HU_85.out) ?_
                          clear hK
                          refine upto_ready (rs := [10]) (by kernel_rfl) rfl (by kernel_rfl) ?_
                          refine AllUpto.cons rfl (fun K hK => ?_) AllUpto.nil
                          ·
                           refine step_append_FB (R := OpR (D + 1)) (e := 35) rfl (.tmp 71) (.tmp 74) 22 rfl (bytes := 80) Tryz.underlying22 hi0 hz0 hz1 hz2 rfl (show 0 < 7 by omega) (single_op (D + 1)) rfl (xs := [] ++ ea ++ ec) (base := w7.heap.size) (B := B) HO_85.out rfl (ys := [opC code]) (src_keep HK9_85.out (Below.refl _ _) (opC_flat hcode1 hcode2)) rfl HCn.out hby3 (by omega) HU_85.out.size ?_
                           intro v_86 u_86 hown hb hg hf
                           have HU_86 : Hid (Below w7.heap.size w7 u_86) := Lib.hid (HU_85.out.trans hb)
                           have hs_86 := HU_86.out.size
                           have HK12_86 : Hid (KeepB u_86 v_86 (u_0.heap.size) #[.slice none 0 0] 24) := Lib.hid (HK12_85.out.app hg hf)
                           have HK9_86 : Hid (KeepB u_86 v_86 (u_75.heap.size) #[.int .i64 3, .int .i64 0, .int .i64 0, .string ⟨#[]⟩, .slice none 0 0, .int .i64 code, .int .i64 0] 35) := Lib.hid (HK9_85.out.app hg hf)
                           obtain ⟨A2, c2, rfl⟩ := hown.form
                           simp only [List.nil_append, List.length_append, List.length_cons, List.length_nil, Nat.zero_add, Nat.reduceAdd] at hown
                           have HO_86 := Lib.hid hown
                           clear hown hb hg hf
                           refine hK.out _ _ (HSL.out HU_86.out) ?_
                           clear hK
                           refine upto_take (i := 11) (v := ?v29_) rfl (by kernel_rfl) (by kernel_rfl) (by kernel_rfl) (by kernel_rfl) ?hq29_ ?hw29_ ?hy29_ ?rest29_
                           case hq29_ => exact fun _ _ _ h => h
                           case hw29_ => rfl
                           case hy29_ => (intro w' hS'; (try dsimp only at hS'); go_simp; (try with_reducible rfl))
                           have k_o := HK12_86.out.blk.cell
                           have f_o := HK12_86.out.blk.free
                           refine upto_last (by kernel_rfl) (by kernel_rfl) rfl (fun K hK => ?_)
                           go_simp
                           refine hK.out _ _ ?_
                           go_wp2_with fail
                           go_meet
                           exact joins_end HK12_86.out HO_86.out ex_ne HCn.out HU_86.out (by omega)
                      ·
                       go_simp
                       generalize hW : World.alloc _ _ = u_87
                       obtain ⟨hb, hz⟩ := al1 hW
                       have hl_87 : u_74.heap.size < u_87.heap.size := by rw [hz]; exact Nat.lt_succ_self _
                       have HU_87 : Hid (Below w7.heap.size w7 u_87) := Lib.hid (HU_74.out.trans (hb.mono HU_74.out.size))
                       have hs_87 := HU_87.out.size
                       have hp_87 : Hid (u_87.heap[u_74.heap.size]? = some (.cells #[.int .i64 3, .int .i64 0, .int .i64 0, .string ⟨#[]⟩, .slice none 0 0, .int .i64 code, .int .i64 0] 35 (0, 0))) := Lib.hid (hW ▸ heap_alloc_new _ _)
                       have HK12_87 : Hid (u_87.heap[u_0.heap.size]? = some (.cells #[.slice none 0 0] 24 (0, 0))) := Lib.hid ((hb.block _ (by omega)).trans HK12_74.out)
                       have HK9_87 := hp_87
                       clear hW hb hz
                       refine hK.out _ _ (HSL.out HU_87.out) ?_
                       clear hK
                       refine upto_ready (rs := [0]) (by kernel_rfl) rfl (by kernel_rfl) ?_
                       refine AllUpto.cons rfl (fun K hK => ?_) AllUpto.nil
                       ·
                        go_simp
                        generalize hW : World.alloc _ _ = u_88
                        obtain ⟨hb, hz⟩ := al1 hW
                        have hl_88 : u_87.heap.size < u_88.heap.size := by rw [hz]; exact Nat.lt_succ_self _
                        have HU_88 : Hid (Below w7.heap.size w7 u_88) := Lib.hid (HU_87.out.trans (hb.mono HU_87.out.size))
                        have hs_88 := HU_88.out.size
                        have hp_88 : Hid (u_88.heap[u_87.heap.size]? = some (.cells #[] 35 (0, 0))) := Lib.hid (hW ▸ heap_alloc_new _ _)
                        have HK12_88 : Hid (KeepB u_88 (.slice (some ⟨u_87.heap.size, 0, none⟩) 0 0) (u_0.heap.size) #[.slice none 0 0] 24) := Lib.hid (KeepB.mk' ((hb.block _ (by omega)).trans HK12_87.out) (ne_own (by omega)).symm)
                        have HK9_88 : Hid (KeepB u_88 (.slice (some ⟨u_87.heap.size, 0, none⟩) 0 0) (u_74.heap.size) #[.int .i64 3, .int .i64 0, .int .i64 0, .string ⟨#[]⟩, .slice none 0 0, .int .i64 code, .int .i64 0] 35) := Lib.hid (KeepB.mk' ((hb.block _ (by omega)).trans HK9_87.out) (ne_own (by omega)).symm)
                        have HO_88 : Hid (OwnR (OpR (D + 1)) 35 u_88 w7.heap.size B (.slice (some ⟨u_87.heap.size, 0, none⟩) 0 0) []) := Lib.hid (OwnR.empty (OpR (D + 1)) 35 hp_88.out (by omega) B)
                        clear hW hb hz
                        refine hK.out _ _ (HSL.out HU_88.out) ?_
                        clear hK
                        refine upto_ready (rs := [3]) (by kernel_rfl) rfl (by kernel_rfl) ?_
                        refine AllUpto.cons rfl (fun K hK => ?_) AllUpto.nil
                        ·
                         refine step_append_FB (R := OpR (D + 1)) (e := 35) rfl (.tmp 65) (.tmp 67) 22 rfl (bytes := 80) Tryz.underlying22 hi0 hz0 hz1 hz2 rfl (show 0 < 7 by omega) (single_op (D + 1)) rfl (xs := []) (base := w7.heap.size) (B := B) HO_88.out rfl (ys := ea) ((HLka.out.keep HU_88.out HCn.out).src) rfl HCn.out hby1 (by omega) HU_88.out.size ?_
                         intro v_89 u_89 hown hb hg hf
                         have HU_89 : Hid (Below w7.heap.size w7 u_89) := Lib.hid (HU_88.out.trans hb)
                         have hs_89 := HU_89.out.size
                         have HK12_89 : Hid (KeepB u_89 v_89 (u_0.heap.size) #[.slice none 0 0] 24) := Lib.hid (HK12_88.out.app hg hf)
                         have HK9_89 : Hid (KeepB u_89 v_89 (u_74.heap.size) #[.int .i64 3, .int .i64 0, .int .i64 0, .string ⟨#[]⟩, .slice none 0 0, .int .i64 code, .int .i64 0] 35) := Lib.hid (HK9_88.out.app hg hf)
                         have HO_89 := Lib.hid hown
                         clear hown hb hg hf
                         refine hK.out _ _ (HSL.out HU_89.out) ?_
                         clear hK
                         refine upto_ready (rs := [6]) (by kernel_rfl) rfl (by kernel_rfl) ?_
                         refine AllUpto.cons rfl (fun K hK => ?_) AllUpto.nil
                         ·
                          refine step_append_FB (R := OpR (D + 1)) (e := 35) rfl (.tmp 68) (.tmp 70) 22 rfl (bytes := 80) Tryz.underlying22 hi0 hz0 hz1 hz2 rfl (show 0 < 7 by omega) (single_op (D + 1)) rfl (xs := [] ++ ea) (base := w7.heap.size) (B := B) HO_89.out rfl (ys := ec) ((HLkc.out.keep HU_89.out HCn.out).src) rfl HCn.out hby2 (by omega) HU_89.out.size ?_
                          intro v_90 u_90 hown hb hg hf
                          have HU_90 : Hid (Below w7.heap.size w7 u_90) := Lib.hid (HU_89.out.trans hb)
                          have hs_90 := HU_90.out.size
                          have HK12_90 : Hid (KeepB u_90 v_90 (u_0.heap.size) #[.slice none 0 0] 24) := Lib.hid (HK12_89.out.app hg hf)
                          have HK9_90 : Hid (KeepB u_90 v_90 (u_74.heap.size) #[.int .i64 3, .int .i64 0, .int .i64 0, .string ⟨#[]⟩, .slice none 0 0, .int .i64 code, .int .i64 0] 35) := Lib.hid (HK9_89.out.app hg hf)
                          have HO_90 := Lib.hid hown
                          clear hown hb hg hf
                          refine hK.out _ _ (HSL.out HU_90.out) ?_
                          clear hK
                          refine upto_ready (rs := [10]) (by kernel_rfl) rfl (by kernel_rfl) ?_
                          refine AllUpto.cons rfl (fun K hK => ?_) AllUpto.nil
                          ·
                           refine step_append_FB (R := OpR (D + 1)) (e := 35) rfl (.tmp 71) (.tmp 74) 22 rfl (bytes := 80) Tryz.underlying22 hi0 hz0 hz1 hz2 rfl (show 0 < 7 by omega) (single_op (D + 1)) rfl (xs := [] ++ ea ++ ec) (base := w7.heap.size) (B := B) HO_90.out rfl (ys := [opC code]) (src_keep HK9_90.out (Below.refl _ _) (opC_flat hcode1 hcode2)) rfl HCn.out hby3 (by omega) HU_90.out.size ?_
                           intro v_91 u_91 hown hb hg hf
                           have HU_91 : Hid (Below w7.heap.size w7 u_91) := Lib.hid (HU_90.out.trans hb)
                           have hs_91 := HU_91.out.size
                           have HK12_91 : Hid (KeepB u_91 v_91 (u_0.heap.size) #[.slice none 0 0] 24) := Lib.hid (HK12_90.out.app hg hf)
                           have HK9_91 : Hid (KeepB u_91 v_91 (u_74.heap.size) #[.int .i64 3, .int .i64 0, .int .i64 0, .string ⟨#[]⟩, .slice none 0 0, .int .i64 code, .int .i64 0] 35) := Lib.hid (HK9_90.out.app hg hf)
                           obtain ⟨A2, c2, rfl⟩ := hown.form
                           simp only [List.nil_append, List.length_append, List.length_cons, List.length_nil, Nat.zero_add, Nat.reduceAdd] at hown
                           have HO_91 := Lib.hid hown
                           clear hown hb hg hf
                           refine hK.out _ _ (HSL.out HU_91.out) ?_
                           clear hK
                           refine upto_take (i := 11) (v := ?v30_) rfl (by kernel_rfl) (by kernel_rfl) (by kernel_rfl) (by kernel_rfl) ?hq30_ ?hw30_ ?hy30_ ?rest30_
                           case hq30_ => exact fun _ _ _ h => h
                           case hw30_ => rfl
                           case hy30_ => (intro w' hS'; (try dsimp only at hS'); go_simp; (try with_reducible rfl))
                           have k_o := HK12_91.out.blk.cell
                           have f_o := HK12_91.out.blk.free
                           refine upto_last (by kernel_rfl) (by kernel_rfl) rfl (fun K hK => ?_)
                           go_simp
                           refine hK.out _ _ ?_
                           go_wp2_with fail
                           go_meet
                           exact joins_end HK12_91.out HO_91.out ex_ne HCn.out HU_91.out (by omega)
                   case rest =>
                     obtain ⟨g_, v', rfl, hgb, how, hbc, hgs⟩ := hcut
                     obtain ⟨A2, c2, rfl⟩ := how.form
                     have hL2 : (ea ++ ec ++ [opC code]).length = ea.length + ec.length + 1 := by simp only [List.length_append, List.length_singleton]
                     generalize ea ++ ec ++ [opC code] = e3 at how hgb hL2 LAW
                     rw [hL2] at how hgb
                     generalize wc = w8 at *
                     have HEX := Lib.hid (show (ExR (D + 1)).rd w8 w8.heap.size e3 [.slice A2 (ea.length + ec.length + 1) c2] from ⟨_, rfl, how.reads (Nat.le_trans HCn.out hbc.size) (by rw [hL2]; show (ea.length + ec.length + 1) * (8 * 7) ≤ _; omega)⟩)
                     have hB7 := Nat.le_trans HCn.out hbc.size
                     have b_a_8 := b_a_7.later hbc
                     have b_c_8 := b_c_7.later hbc
                     have b_b_8 := b_b_7.later hbc
                     have HB8 := Lib.hid (bthen HB7.out hbc)
                     have b_g_8 := hgb
                     clear k_a k_c hgb how hbc hgs HLka HLkc be_a be_c hb_a hb_c b_a_7 b_c_7 b_b_7
                     have k_a := b_a_8.cell
                     have l_a := b_a_8.lt
                     have k_c := b_c_8.cell
                     have l_c := b_c_8.lt
                     have k_b := b_b_8.cell
                     have l_b := b_b_8.lt
                     have k_g := b_g_8.cell
                     have l_g := b_g_8.lt
                     go_wp2_with fail
                     clear k_a l_a k_c l_c k_b l_b k_g l_g
                     refine (eval_any (evs := [_]) (D := D) (cn := cn) (ct := ct) ((ExR (D + 1)).keep HB8.out hB HEa.out) (HN.out.keep HB8.out hB) (HT.out.keep HB8.out hB) (Nat.le_trans hB HB8.out.size) ((HB8.out.cell (p := ⟨0, 0, none⟩) h0).trans HM.out) (Nat.lt_of_lt_of_le h0 HB8.out.size)).mono ?_
                     intro z w9 hz
                     have hz : ReadE D w8 w9 (evalE b ea) z := hz
                     obtain ⟨⟨A9a, c9a, rfl, hrd⟩, hb⟩ := hz
                     have b_a_9 := b_a_8.later hb
                     have b_c_9 := b_c_8.later hb
                     have b_b_9 := b_b_8.later hb
                     have b_g_9 := b_g_8.later hb
                     have HB9 := Lib.hid (bthen HB8.out hb)
                     have HZ9 := Lib.hid hb
                     clear b_a_8 b_c_8 b_b_8 b_g_8
                     have HRDa := Lib.hid hrd
                     clear hrd hb
                     have HQ9 := Lib.hid (Below.refl w9.heap.size w9)
                     have k_a := b_a_9.cell
                     have l_a := b_a_9.lt
                     have k_c := b_c_9.cell
                     have l_c := b_c_9.lt
                     have k_b := b_b_9.cell
                     have l_b := b_b_9.lt
                     have k_g := b_g_9.cell
                     have l_g := b_g_9.lt
                     go_upto_region 5 with fail
                     clear k_a l_a k_c l_c k_b l_b k_g l_g
                     generalize hW : World.alloc _ _ = w10
                     obtain ⟨hb, hz⟩ := al1 hW
                     have b_x_10 := n11 hW
                     have b_a_10 := b_a_9.later hb
                     have b_c_10 := b_c_9.later hb
                     have b_b_10 := b_b_9.later hb
                     have b_g_10 := b_g_9.later hb
                     have HB10 := Lib.hid (bthen HB9.out hb)
                     have HZ10 := Lib.hid (bthen HZ9.out hb)
                     have HQ10 := Lib.hid hb
                     clear b_a_9 b_c_9 b_b_9 b_g_9
                     clear hW hz hb
                     have k_a := b_a_10.cell
                     have l_a := b_a_10.lt
                     have k_c := b_c_10.cell
                     have l_c := b_c_10.lt
                     have k_b := b_b_10.cell
                     have l_b := b_b_10.lt
                     have k_g := b_g_10.cell
                     have l_g := b_g_10.lt
                     have k_x := b_x_10.cell
                     have l_x := b_x_10.lt
                     go_wp2_with fail
                     clear k_a l_a k_c l_c k_b l_b k_g l_g k_x l_x
                     refine (eval_any (evs := [_]) (D := D) (cn := cn) (ct := ct) ((ExR (D + 1)).keep HB10.out hB HEc.out) (HN.out.keep HB10.out hB) (HT.out.keep HB10.out hB) (Nat.le_trans hB HB10.out.size) ((HB10.out.cell (p := ⟨0, 0, none⟩) h0).trans HM.out) (Nat.lt_of_lt_of_le h0 HB10.out.size)).mono ?_
                     intro z w11 hz
                     have hz : ReadE D w10 w11 (evalE b ec) z := hz
                     obtain ⟨⟨A9c, c9c, rfl, hrd⟩, hb⟩ := hz
                     have b_a_11 := b_a_10.later hb
                     have b_c_11 := b_c_10.later hb
                     have b_b_11 := b_b_10.later hb
                     have b_g_11 := b_g_10.later hb
                     have b_x_11 := b_x_10.later hb
                     have HB11 := Lib.hid (bthen HB10.out hb)
                     have HZ11 := Lib.hid (bthen HZ10.out hb)
                     have HQ11 := Lib.hid (bthen HQ10.out hb)
                     clear b_a_10 b_c_10 b_b_10 b_g_10 b_x_10
                     have HRDc := Lib.hid hrd
                     clear hrd hb
                     have HP11 := Lib.hid (Below.refl w11.heap.size w11)
                     have k_a := b_a_11.cell
                     have l_a := b_a_11.lt
                     have k_c := b_c_11.cell
                     have l_c := b_c_11.lt
                     have k_b := b_b_11.cell
                     have l_b := b_b_11.lt
                     have k_g := b_g_11.cell
                     have l_g := b_g_11.lt
                     have k_x := b_x_11.cell
                     have l_x := b_x_11.lt
                     go_upto_region 6 with fail
                     clear k_a l_a k_c l_c k_b l_b k_g l_g k_x l_x
                     generalize hW : World.alloc _ _ = w12
                     obtain ⟨hb, hz⟩ := al1 hW
                     have b_y_12 := n11 hW
                     have b_a_12 := b_a_11.later hb
                     have b_c_12 := b_c_11.later hb
                     have b_b_12 := b_b_11.later hb
                     have b_g_12 := b_g_11.later hb
                     have b_x_12 := b_x_11.later hb
                     have HB12 := Lib.hid (bthen HB11.out hb)
                     have HZ12 := Lib.hid (bthen HZ11.out hb)
                     have HQ12 := Lib.hid (bthen HQ11.out hb)
                     have HP12 := Lib.hid hb
                     clear b_a_11 b_c_11 b_b_11 b_g_11 b_x_11
                     clear hW hz hb
                     have k_a := b_a_12.cell
                     have l_a := b_a_12.lt
                     have k_c := b_c_12.cell
                     have l_c := b_c_12.lt
                     have k_b := b_b_12.cell
                     have l_b := b_b_12.lt
                     have k_g := b_g_12.cell
                     have l_g := b_g_12.lt
                     have k_x := b_x_12.cell
                     have l_x := b_x_12.lt
                     have k_y := b_y_12.cell
                     have l_y := b_y_12.lt
                     go_wp2_with fail
                     clear k_a l_a k_c l_c k_b l_b k_g l_g k_x l_x k_y l_y
                     refine (eval_any (evs := [_]) (D := D) (cn := cn) (ct := ct) ((ExR (D + 1)).keep HZ12.out (Nat.le_refl _) HEX.out) ((HN.out.keep HB12.out hB).wide hB7) ((HT.out.keep HB12.out hB).wide hB7) HZ12.out.size ((HB12.out.cell (p := ⟨0, 0, none⟩) h0).trans HM.out) (Nat.lt_of_lt_of_le h0 HB12.out.size)).mono ?_
                     intro z w13 hz
                     have hz : ReadE D w12 w13 (evalE b e3) z := hz
                     obtain ⟨⟨A9e, c9e, rfl, hrd⟩, hb⟩ := hz
                     have b_a_13 := b_a_12.later hb
                     have b_c_13 := b_c_12.later hb
                     have b_b_13 := b_b_12.later hb
                     have b_g_13 := b_g_12.later hb
                     have b_x_13 := b_x_12.later hb
                     have b_y_13 := b_y_12.later hb
                     have HB13 := Lib.hid (bthen HB12.out hb)
                     have HZ13 := Lib.hid (bthen HZ12.out hb)
                     have HQ13 := Lib.hid (bthen HQ12.out hb)
                     have HP13 := Lib.hid (bthen HP12.out hb)
                     clear b_a_12 b_c_12 b_b_12 b_g_12 b_x_12 b_y_12
                     have HRDe := Lib.hid hrd
                     clear hrd hb
                     have HR13 := Lib.hid (Below.refl w13.heap.size w13)
                     have k_a := b_a_13.cell
                     have l_a := b_a_13.lt
                     have k_c := b_c_13.cell
                     have l_c := b_c_13.lt
                     have k_b := b_b_13.cell
                     have l_b := b_b_13.lt
                     have k_g := b_g_13.cell
                     have l_g := b_g_13.lt
                     have k_x := b_x_13.cell
                     have l_x := b_x_13.lt
                     have k_y := b_y_13.cell
                     have l_y := b_y_13.lt
                     go_upto_region 7 with fail
                     clear k_a l_a k_c l_c k_b l_b k_g l_g k_x l_x k_y l_y
                     generalize hW : World.alloc _ _ = w14
                     obtain ⟨hb, hz⟩ := al1 hW
                     have b_z_14 := n11 hW
                     have b_a_14 := b_a_13.later hb
                     have b_c_14 := b_c_13.later hb
                     have b_b_14 := b_b_13.later hb
                     have b_g_14 := b_g_13.later hb
                     have b_x_14 := b_x_13.later hb
                     have b_y_14 := b_y_13.later hb
                     have HB14 := Lib.hid (bthen HB13.out hb)
                     have HZ14 := Lib.hid (bthen HZ13.out hb)
                     have HQ14 := Lib.hid (bthen HQ13.out hb)
                     have HP14 := Lib.hid (bthen HP13.out hb)
                     have HR14 := Lib.hid hb
                     clear b_a_13 b_c_13 b_b_13 b_g_13 b_x_13 b_y_13
                     clear hW hz hb
                     have k_a := b_a_14.cell
                     have l_a := b_a_14.lt
                     have k_c := b_c_14.cell
                     have l_c := b_c_14.lt
                     have k_b := b_b_14.cell
                     have l_b := b_b_14.lt
                     have k_g := b_g_14.cell
                     have l_g := b_g_14.lt
                     have k_x := b_x_14.cell
                     have l_x := b_x_14.lt
                     have k_y := b_y_14.cell
                     have l_y := b_y_14.lt
                     have k_z := b_z_14.cell
                     have l_z := b_z_14.lt
                     go_wp2_with fail
                     clear k_a l_a k_c l_c k_b l_b k_g l_g k_x l_x k_y l_y k_z l_z
                     refine (mayExpr_any (vs := [_]) ((ExR (D + 1)).keep HZ14.out (Nat.le_refl _) HEX.out) HZ14.out.size).mono ?_
                     rintro x w15 ⟨rfl, hb⟩
                     have b_a_15 := b_a_14.later hb
                     have b_c_15 := b_c_14.later hb
                     have b_b_15 := b_b_14.later hb
                     have b_g_15 := b_g_14.later hb
                     have b_x_15 := b_x_14.later hb
                     have b_y_15 := b_y_14.later hb
                     have b_z_15 := b_z_14.later hb
                     have HB15 := Lib.hid (bthen HB14.out hb)
                     have HZ15 := Lib.hid (bthen HZ14.out hb)
                     have HQ15 := Lib.hid (bthen HQ14.out hb)
                     have HP15 := Lib.hid (bthen HP14.out hb)
                     have HR15 := Lib.hid (bthen HR14.out hb)
                     clear b_a_14 b_c_14 b_b_14 b_g_14 b_x_14 b_y_14 b_z_14
                     clear hb
                     rw [LAW.out.1]
                     have HLW := Lib.hid LAW.out.2
                     clear LAW
                     generalize evalE b e3 = re at *
                     generalize evalE b ea = ra at *
                     generalize evalE b ec = rc at *
                     by_cases hfa : ra.2 = 0
                     · have gfa : (ra.2 != 0) = false := by simpa using hfa
                       by_cases hfc : rc.2 = 0
                       · have gfc : (rc.2 != 0) = false := by simpa using hfc
                         have HE_ : Hid (re = binR code ra.1 rc.1) := Lib.hid (by rw [HLW.out, if_neg (by simpa using hfa), if_neg (by simpa using hfc)])
                         clear HLW
                         have k_a := b_a_15.cell
                         have l_a := b_a_15.lt
                         have k_c := b_c_15.cell
                         have l_c := b_c_15.lt
                         have k_b := b_b_15.cell
                         have l_b := b_b_15.lt
                         have k_g := b_g_15.cell
                         have l_g := b_g_15.lt
                         have k_x := b_x_15.cell
                         have l_x := b_x_15.lt
                         have k_y := b_y_15.cell
                         have l_y := b_y_15.lt
                         have k_z := b_z_15.cell
                         have l_z := b_z_15.lt
                         go_wp2_with fail
                         clear k_a l_a k_c l_c k_b l_b k_g l_g k_x l_x k_y l_y k_z l_z
                         refine (binaryq_any (d := D) (B := w15.heap.size) (code := code) (a := ra.1) (b := rc.1) (vs := [_, _, _, _]) (ws := [_, _, _, _]) ((HRDa.out.below HQ15.out (Nat.le_refl _)).more HQ15.out.size) ((HRDc.out.below HP15.out (Nat.le_refl _)).more HP15.out.size) (Nat.le_refl _) ((HB15.out.cell (p := ⟨0, 0, none⟩) h0).trans HM.out) (Nat.lt_of_lt_of_le h0 HB15.out.size)).mono ?_
                         intro z w16 hz
                         obtain ⟨⟨A9w, c9w, rfl, hrd⟩, hb⟩ := hz
                         rw [← HE_.out] at hrd
                         rw [← HE_.out]
                         have b_a_16 := b_a_15.later hb
                         have b_c_16 := b_c_15.later hb
                         have b_b_16 := b_b_15.later hb
                         have b_g_16 := b_g_15.later hb
                         have b_x_16 := b_x_15.later hb
                         have b_y_16 := b_y_15.later hb
                         have b_z_16 := b_z_15.later hb
                         have HB16 := Lib.hid (bthen HB15.out hb)
                         have HZ16 := Lib.hid (bthen HZ15.out hb)
                         have HQ16 := Lib.hid (bthen HQ15.out hb)
                         have HP16 := Lib.hid (bthen HP15.out hb)
                         have HR16 := Lib.hid (bthen HR15.out hb)
                         clear b_a_15 b_c_15 b_b_15 b_g_15 b_x_15 b_y_15 b_z_15
                         have HRDw := Lib.hid hrd.rtm
                         clear hrd hb
                         have HS16 := Lib.hid (Below.refl w16.heap.size w16)
                         have k_a := b_a_16.cell
                         have l_a := b_a_16.lt
                         have k_c := b_c_16.cell
                         have l_c := b_c_16.lt
                         have k_b := b_b_16.cell
                         have l_b := b_b_16.lt
                         have k_g := b_g_16.cell
                         have l_g := b_g_16.lt
                         have k_x := b_x_16.cell
                         have l_x := b_x_16.lt
                         have k_y := b_y_16.cell
                         have l_y := b_y_16.lt
                         have k_z := b_z_16.cell
                         have l_z := b_z_16.lt
                         go_upto_region 14 with fail
                         clear k_a l_a k_c l_c k_b l_b k_g l_g k_x l_x k_y l_y k_z l_z
                         generalize hW : World.alloc _ _ = w17
                         obtain ⟨hb, hz⟩ := al1 hW
                         have b_w_17 := n11 hW
                         have b_a_17 := b_a_16.later hb
                         have b_c_17 := b_c_16.later hb
                         have b_b_17 := b_b_16.later hb
                         have b_g_17 := b_g_16.later hb
                         have b_x_17 := b_x_16.later hb
                         have b_y_17 := b_y_16.later hb
                         have b_z_17 := b_z_16.later hb
                         have HB17 := Lib.hid (bthen HB16.out hb)
                         have HZ17 := Lib.hid (bthen HZ16.out hb)
                         have HQ17 := Lib.hid (bthen HQ16.out hb)
                         have HP17 := Lib.hid (bthen HP16.out hb)
                         have HR17 := Lib.hid (bthen HR16.out hb)
                         have HS17 := Lib.hid hb
                         clear b_a_16 b_c_16 b_b_16 b_g_16 b_x_16 b_y_16 b_z_16
                         clear hW hz hb
                         have k_a := b_a_17.cell
                         have l_a := b_a_17.lt
                         have k_c := b_c_17.cell
                         have l_c := b_c_17.lt
                         have k_b := b_b_17.cell
                         have l_b := b_b_17.lt
                         have k_g := b_g_17.cell
                         have l_g := b_g_17.lt
                         have k_x := b_x_17.cell
                         have l_x := b_x_17.lt
                         have k_y := b_y_17.cell
                         have l_y := b_y_17.lt
                         have k_z := b_z_17.cell
                         have l_z := b_z_17.lt
                         have k_w := b_w_17.cell
                         have l_w := b_w_17.lt
                         go_wp2_with fail
                         clear k_a l_a k_c l_c k_b l_b k_g l_g k_x l_x k_y l_y k_z l_z k_w l_w
                         refine (refSame_any (d := D + 1) (d' := D + 1) (B := w17.heap.size) (a := re.1) (b := re.1) (vs := [_, _, _, _]) (ws := [_, _, _, _]) ((HRDe.out.below HR17.out (Nat.le_refl _)).more HR17.out.size) ((HRDw.out.below HS17.out (Nat.le_refl _)).more HS17.out.size) (Nat.le_refl _)).mono ?_
                         rintro x w18 ⟨rfl, hb⟩
                         have b_a_18 := b_a_17.later hb
                         have b_c_18 := b_c_17.later hb
                         have b_b_18 := b_b_17.later hb
                         have b_g_18 := b_g_17.later hb
                         have b_x_18 := b_x_17.later hb
                         have b_y_18 := b_y_17.later hb
                         have b_z_18 := b_z_17.later hb
                         have b_w_18 := b_w_17.later hb
                         have HB18 := Lib.hid (bthen HB17.out hb)
                         have HZ18 := Lib.hid (bthen HZ17.out hb)
                         have HQ18 := Lib.hid (bthen HQ17.out hb)
                         have HP18 := Lib.hid (bthen HP17.out hb)
                         have HR18 := Lib.hid (bthen HR17.out hb)
                         have HS18 := Lib.hid (bthen HS17.out hb)
                         clear b_a_17 b_c_17 b_b_17 b_g_17 b_x_17 b_y_17 b_z_17 b_w_17
                         clear hb
                         rw [same_self]
                         have gq : (re.2 == re.2) = true := by simp
                         have k_a := b_a_18.cell
                         have l_a := b_a_18.lt
                         have k_c := b_c_18.cell
                         have l_c := b_c_18.lt
                         have k_b := b_b_18.cell
                         have l_b := b_b_18.lt
                         have k_g := b_g_18.cell
                         have l_g := b_g_18.lt
                         have k_x := b_x_18.cell
                         have l_x := b_x_18.lt
                         have k_y := b_y_18.cell
                         have l_y := b_y_18.lt
                         have k_z := b_z_18.cell
                         have l_z := b_z_18.lt
                         have k_w := b_w_18.cell
                         have l_w := b_w_18.lt
                         go_wp2_with fail
                         clear k_a l_a k_c l_c k_b l_b k_g l_g k_x l_x k_y l_y k_z l_z k_w l_w
                         refine (awake12_any ((HB18.out.cell (p := ⟨0, 0, none⟩) h0).trans HM.out) (Nat.lt_of_lt_of_le h0 HB18.out.size)).mono ?_
                         rintro x w19 ⟨rfl, hb⟩
                         have b_a_19 := b_a_18.later hb
                         have b_c_19 := b_c_18.later hb
                         have b_b_19 := b_b_18.later hb
                         have b_g_19 := b_g_18.later hb
                         have b_x_19 := b_x_18.later hb
                         have b_y_19 := b_y_18.later hb
                         have b_z_19 := b_z_18.later hb
                         have b_w_19 := b_w_18.later hb
                         have HB19 := Lib.hid (bthen HB18.out hb)
                         have HZ19 := Lib.hid (bthen HZ18.out hb)
                         have HQ19 := Lib.hid (bthen HQ18.out hb)
                         have HP19 := Lib.hid (bthen HP18.out hb)
                         have HR19 := Lib.hid (bthen HR18.out hb)
                         have HS19 := Lib.hid (bthen HS18.out hb)
                         clear b_a_18 b_c_18 b_b_18 b_g_18 b_x_18 b_y_18 b_z_18 b_w_18
                         clear hb
                         have k_a := b_a_19.cell
                         have l_a := b_a_19.lt
                         have k_c := b_c_19.cell
                         have l_c := b_c_19.lt
                         have k_b := b_b_19.cell
                         have l_b := b_b_19.lt
                         have k_g := b_g_19.cell
                         have l_g := b_g_19.lt
                         have k_x := b_x_19.cell
                         have l_x := b_x_19.lt
                         have k_y := b_y_19.cell
                         have l_y := b_y_19.lt
                         have k_z := b_z_19.cell
                         have l_z := b_z_19.lt
                         have k_w := b_w_19.cell
                         have l_w := b_w_19.lt
                         go_wp2_with fail
                         clear k_a l_a k_c l_c k_b l_b k_g l_g k_x l_x k_y l_y k_z l_z k_w l_w
                         go_ret
                         exact ⟨rfl, HB19.out⟩
                       · have gfc : (rc.2 != 0) = true := by simpa using hfc
                         have HE_ : Hid ((re.2 == rc.2) = true) := Lib.hid (by rw [HLW.out, if_neg (by simpa using hfa), if_pos hfc]; simp)
                         have ge := HE_.out
                         clear HLW hfc hfa
                         have k_a := b_a_15.cell
                         have l_a := b_a_15.lt
                         have k_c := b_c_15.cell
                         have l_c := b_c_15.lt
                         have k_b := b_b_15.cell
                         have l_b := b_b_15.lt
                         have k_g := b_g_15.cell
                         have l_g := b_g_15.lt
                         have k_x := b_x_15.cell
                         have l_x := b_x_15.lt
                         have k_y := b_y_15.cell
                         have l_y := b_y_15.lt
                         have k_z := b_z_15.cell
                         have l_z := b_z_15.lt
                         go_wp2_with fail
                         clear k_a l_a k_c l_c k_b l_b k_g l_g k_x l_x k_y l_y k_z l_z
                         refine (awake12_any ((HB15.out.cell (p := ⟨0, 0, none⟩) h0).trans HM.out) (Nat.lt_of_lt_of_le h0 HB15.out.size)).mono ?_
                         rintro x w16 ⟨rfl, hb⟩
                         have b_a_16 := b_a_15.later hb
                         have b_c_16 := b_c_15.later hb
                         have b_b_16 := b_b_15.later hb
                         have b_g_16 := b_g_15.later hb
                         have b_x_16 := b_x_15.later hb
                         have b_y_16 := b_y_15.later hb
                         have b_z_16 := b_z_15.later hb
                         have HB16 := Lib.hid (bthen HB15.out hb)
                         have HZ16 := Lib.hid (bthen HZ15.out hb)
                         have HQ16 := Lib.hid (bthen HQ15.out hb)
                         have HP16 := Lib.hid (bthen HP15.out hb)
                         have HR16 := Lib.hid (bthen HR15.out hb)
                         clear b_a_15 b_c_15 b_b_15 b_g_15 b_x_15 b_y_15 b_z_15
                         clear hb
                         have k_a := b_a_16.cell
                         have l_a := b_a_16.lt
                         have k_c := b_c_16.cell
                         have l_c := b_c_16.lt
                         have k_b := b_b_16.cell
                         have l_b := b_b_16.lt
                         have k_g := b_g_16.cell
                         have l_g := b_g_16.lt
                         have k_x := b_x_16.cell
                         have l_x := b_x_16.lt
                         have k_y := b_y_16.cell
                         have l_y := b_y_16.lt
                         have k_z := b_z_16.cell
                         have l_z := b_z_16.lt
                         go_wp2_with fail
                         clear k_a l_a k_c l_c k_b l_b k_g l_g k_x l_x k_y l_y k_z l_z
                         go_ret
                         exact ⟨rfl, HB16.out⟩
                     · have gfa : (ra.2 != 0) = true := by simpa using hfa
                       have HE_ : Hid ((re.2 == ra.2) = true) := Lib.hid (by rw [HLW.out, if_pos hfa]; simp)
                       have ge := HE_.out
                       clear HLW hfa
                       have k_a := b_a_15.cell
                       have l_a := b_a_15.lt
                       have k_c := b_c_15.cell
                       have l_c := b_c_15.lt
                       have k_b := b_b_15.cell
                       have l_b := b_b_15.lt
                       have k_g := b_g_15.cell
                       have l_g := b_g_15.lt
                       have k_x := b_x_15.cell
                       have l_x := b_x_15.lt
                       have k_y := b_y_15.cell
                       have l_y := b_y_15.lt
                       have k_z := b_z_15.cell
                       have l_z := b_z_15.lt
                       go_wp2_with fail
                       clear k_a l_a k_c l_c k_b l_b k_g l_g k_x l_x k_y l_y k_z l_z
                       refine (awake12_any ((HB15.out.cell (p := ⟨0, 0, none⟩) h0).trans HM.out) (Nat.lt_of_lt_of_le h0 HB15.out.size)).mono ?_
                       rintro x w16 ⟨rfl, hb⟩
                       have b_a_16 := b_a_15.later hb
                       have b_c_16 := b_c_15.later hb
                       have b_b_16 := b_b_15.later hb
                       have b_g_16 := b_g_15.later hb
                       have b_x_16 := b_x_15.later hb
                       have b_y_16 := b_y_15.later hb
                       have b_z_16 := b_z_15.later hb
                       have HB16 := Lib.hid (bthen HB15.out hb)
                       have HZ16 := Lib.hid (bthen HZ15.out hb)
                       have HQ16 := Lib.hid (bthen HQ15.out hb)
                       have HP16 := Lib.hid (bthen HP15.out hb)
                       have HR16 := Lib.hid (bthen HR15.out hb)
                       clear b_a_15 b_c_15 b_b_15 b_g_15 b_x_15 b_y_15 b_z_15
                       clear hb
                       have k_a := b_a_16.cell
                       have l_a := b_a_16.lt
                       have k_c := b_c_16.cell
                       have l_c := b_c_16.lt
                       have k_b := b_b_16.cell
                       have l_b := b_b_16.lt
                       have k_g := b_g_16.cell
                       have l_g := b_g_16.lt
                       have k_x := b_x_16.cell
                       have l_x := b_x_16.lt
                       have k_y := b_y_16.cell
                       have l_y := b_y_16.lt
                       have k_z := b_z_16.cell
                       have l_z := b_z_16.lt
                       go_wp2_with fail
                       clear k_a l_a k_c l_c k_b l_b k_g l_g k_x l_x k_y l_y k_z l_z
                       go_ret
                       exact ⟨rfl, HB16.out⟩
                 · simp only [Bool.not_eq_true] at hb1
                   rw [hb1]
                   have k_a := b_a_7.cell
                   have l_a := b_a_7.lt
                   have k_c := b_c_7.cell
                   have l_c := b_c_7.lt
                   have k_b := b_b_7.cell
                   have l_b := b_b_7.lt
                   go_wp2_with fail
                   clear k_a l_a k_c l_c k_b l_b
                   refine (awake12_any ((HB7.out.cell (p := ⟨0, 0, none⟩) h0).trans HM.out) (Nat.lt_of_lt_of_le h0 HB7.out.size)).mono ?_
                   rintro x w8 ⟨rfl, hb⟩
                   have b_a_8 := b_a_7.later hb
                   have b_c_8 := b_c_7.later hb
                   have b_b_8 := b_b_7.later hb
                   have HB8 := Lib.hid (bthen HB7.out hb)
                   clear b_a_7 b_c_7 b_b_7
                   clear hb
                   have k_a := b_a_8.cell
                   have l_a := b_a_8.lt
                   have k_c := b_c_8.cell
                   have l_c := b_c_8.lt
                   have k_b := b_b_8.cell
                   have l_b := b_b_8.lt
                   go_wp2_with fail
                   clear k_a l_a k_c l_c k_b l_b
                   go_ret
                   exact ⟨rfl, HB8.out⟩
         · simp only [Bool.not_eq_true] at hm_c
           rw [hm_c]
           have k_a := b_a_6.cell
           have l_a := b_a_6.lt
           have k_c := b_c_6.cell
           have l_c := b_c_6.lt
           have k_b := b_b_6.cell
           have l_b := b_b_6.lt
           go_wp2_with fail
           clear k_a l_a k_c l_c k_b l_b
           refine (awake12_any ((HB6.out.cell (p := ⟨0, 0, none⟩) h0).trans HM.out) (Nat.lt_of_lt_of_le h0 HB6.out.size)).mono ?_
           rintro x w7 ⟨rfl, hb⟩
           have b_a_7 := b_a_6.later hb
           have b_c_7 := b_c_6.later hb
           have b_b_7 := b_b_6.later hb
           have HB7 := Lib.hid (bthen HB6.out hb)
           clear b_a_6 b_c_6 b_b_6
           clear hb
           have k_a := b_a_7.cell
           have l_a := b_a_7.lt
           have k_c := b_c_7.cell
           have l_c := b_c_7.lt
           have k_b := b_b_7.cell
           have l_b := b_b_7.lt
           go_wp2_with fail
           clear k_a l_a k_c l_c k_b l_b
           go_ret
           exact ⟨rfl, HB7.out⟩
       · simp only [Bool.not_eq_true] at hm_a
         rw [hm_a]
         have k_a := b_a_5.cell
         have l_a := b_a_5.lt
         have k_c := b_c_5.cell
         have l_c := b_c_5.lt
         have k_b := b_b_5.cell
         have l_b := b_b_5.lt
         go_wp2_with fail
         clear k_a l_a k_c l_c k_b l_b
         refine (awake12_any ((HB5.out.cell (p := ⟨0, 0, none⟩) h0).trans HM.out) (Nat.lt_of_lt_of_le h0 HB5.out.size)).mono ?_
         rintro x w6 ⟨rfl, hb⟩
         have b_a_6 := b_a_5.later hb
         have b_c_6 := b_c_5.later hb
         have b_b_6 := b_b_5.later hb
         have HB6 := Lib.hid (bthen HB5.out hb)
         clear b_a_5 b_c_5 b_b_5
         clear hb
         have k_a := b_a_6.cell
         have l_a := b_a_6.lt
         have k_c := b_c_6.cell
         have l_c := b_c_6.lt
         have k_b := b_b_6.cell
         have l_b := b_b_6.lt
         go_wp2_with fail
         clear k_a l_a k_c l_c k_b l_b
         go_ret
         exact ⟨rfl, HB6.out⟩
end Go.Proofs.YtiplipdigabidaaGreat
