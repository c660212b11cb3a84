/- Strings of the call's own, read; viaticumref6.Fixed; the sizes of an expression's texts. (For seats without rule.Names and viaticumlaw11.light: XNames, XLight have the same.) -/
import Derived.Test.YtiplipdigabidaaGreatRef3
import Derived.Test.YtiplipdigabidaaGreatUniq
import Derived.Test.YtiplipdigabidaaGreatEvSpec
set_option linter.unusedVariables false
set_option linter.unusedSimpArgs false
namespace Go.Proofs.YtiplipdigabidaaGreat
open Go.ChangeShapes Go.WideShapes Go.ChangeAt Go.RowKit
theorem len_zero {α : Type} (l : List α) : ((l.length : Int) == 0) = decide (l = []) := by
 cases l with
 | nil => simp
 | cons a l => simp; omega
set_option maxRecDepth 100000 in
set_option maxHeartbeats 2000000 in
theorem refMay_of (d : Nat) (hR : ∀ (t : Tm) (vs : List Value) (B : Nat) (w : World), RTm w B (d + 1) t vs → B ≤ w.heap.size →
     Calls Tryz.prog 53 #[.agg vs.toArray] w fun e w' => e = .returned (.bool (setB t)) ∧ Below w.heap.size w w')
   (t : Tm) (vs : List Value) (B : Nat) (w : World) (ht : RTm w B (d + 1) t vs) (hB : B ≤ w.heap.size) :
   Calls Tryz.prog 21 #[.agg vs.toArray] w fun e w' => e = .returned (.bool (mayB t)) ∧ Below w.heap.size w w' := by
 have HR := Lib.hid hR
 clear hR
 have HT := Lib.hid ht
 obtain ⟨A, c, rfl, hc1, hc2, hs, _, _, hl⟩ := ht.cells
 obtain ⟨kind, n, s, l⟩ := t
 dsimp only at hc1 hc2 hs hl
 have hbel : ∀ o : Obj, Below w.heap.size w (w.alloc o) := fun o => (Below.refl _ _).alloc (Nat.le_refl _) _
 have HB := Lib.hid hbel
 clear hbel ht hl
 by_cases hk1 : kind = 1
 · subst hk1
   by_cases hn : nameB (bs s) = true
   all_goals
     try rw [Bool.not_eq_true] at hn
     go_enter Tryz.func21, Tryz.ntmps21
     go_wp2_with fail
     refine (refName_any s _ (by unfold maxLen; omega)).mono ?_
     rintro e w' ⟨rfl, rfl⟩
     have HN := Lib.hid hn
     rw [hn]
     go_wp2_with fail
     all_goals
       go_ret
       refine ⟨ret_bool ?_, HB.out _⟩
       clear HR HB HT
       simp [mayB, flatMay, HN.out, *]
       try first
         | omega
         | exact len_zero _
 have hcases : kind = 2 ∨ kind = 3 ∨ kind = 4 ∨ kind = 5 ∨ kind = 6 ∨ kind = 7 ∨ ((kind == 1) = false ∧ (kind == 2) = false ∧ (kind == 3) = false ∧ (kind == 4) = false ∧ (kind == 5) = false ∧ (kind == 6) = false ∧ (kind == 7) = false ∧ (kind != 7) = true) := by
   simp only [beq_eq_false_iff_ne, bne_iff_ne]; omega
 clear hk1
 rcases hcases with rfl | rfl | rfl | rfl | rfl | rfl | ⟨k1, k2, k3, k4, k5, k6, k7, k8⟩
 all_goals
   go_enter Tryz.func21, Tryz.ntmps21
   go_wp2_with (go_at_call 53; refine (HR.out ⟨_, _, _, _⟩ [_, _, _, _] B _ (HT.out.below (HB.out _) hB) (Nat.le_trans hB (HB.out _).size)).mono ?_; rintro e w1 ⟨rfl, hb1⟩)
   all_goals go_ret
   all_goals first
     | refine ⟨ret_bool ?_, HB.out _⟩
     | refine ⟨ret_bool ?_, (HB.out _).trans (hb1.mono (HB.out _).size)⟩
   all_goals
     clear HR HB HT
     try simp only [toList_empty, isEmpty_empty, Nat.not_lt, Nat.le_zero_eq, List.length_pos_iff, ne_eq, Classical.not_not, beq_eq_false_iff_ne] at *
     simp [mayB, setB, flatMay, int_le_256, *]
     try first
       | omega
       | exact len_zero _
       | (rw [Bool.eq_iff_iff]; simp; omega)
theorem refMay_all (d : Nat) : ∀ (t : Tm) (vs : List Value) (B : Nat) (w : World), RTm w B d t vs → B ≤ w.heap.size →
   Calls Tryz.prog 21 #[.agg vs.toArray] w fun e w' => e = .returned (.bool (mayB t)) ∧ Below w.heap.size w w' := by
 induction d with
 | zero => intro t vs B w h; exact h.elim
 | succ d ih => exact refMay_of d (maySet_of d ih)
theorem refMay_any {d : Nat} {t : Tm} {vs : List Value} {B : Nat} {w : World} (h : RTm w B d t vs) (hB : B ≤ w.heap.size) :
   Calls Tryz.prog 21 #[.agg vs.toArray] w fun e w' => e = .returned (.bool (mayB t)) ∧ Below w.heap.size w w' := refMay_all d t vs B w h hB
open Go.ChangeShapes Go.WideShapes Go.ChangeAt Go.RowKit
theorem OwnS.later {w w' : World} {base : Nat} {v : Value} {L : List Bytes} (h : OwnS w base v L) (hb : Below w.heap.size w w') : OwnS w' base v L := by
 refine ⟨h.1, ?_⟩
 rcases h.2 with h2 | ⟨g, cap, cur, hv, hg, hh, r⟩
 · exact .inl h2
 · refine .inr ⟨g, cap, cur, hv, hg, ?_, r⟩
   have hlt : g < w.heap.size := by
     rcases Nat.lt_or_ge g w.heap.size with h' | h'
     · exact h'
     · rw [Array.getElem?_eq_none h'] at hh; cases hh
   rw [hb.block g hlt]; exact hh
theorem OwnS.reads {w : World} {base : Nat} {v : Value} {L : List Bytes} (h : OwnS w base v L) (hl : ∀ l ∈ L, l.length ≤ 140737488351232) (hn : L.length ≤ 1000000) : ∃ A c, v = .slice A L.length c ∧ L.length ≤ c ∧ RL StrR w w.heap.size (L.map mkS) A := by
 rcases h.2 with ⟨h1, h2⟩ | ⟨g, cap, cur, hv, hg, hh, h1, h2, h3, h4⟩
 · refine ⟨none, 0, by rw [h1, h2], by omega, ?_⟩
   intro h0
   simp [h2] at h0
 · refine ⟨_, cap, hv, h1, fun _ => ⟨g, 0, rfl, ?_, fun i hi => ?_⟩⟩
   · rcases Nat.lt_or_ge g w.heap.size with h' | h'
     · exact h'
     · rw [Array.getElem?_eq_none h'] at hh; cases hh
   · have hi' : i < L.length := by simpa using hi
     refine ⟨[.string (mkS L[i])], rfl, ⟨mkS L[i], by simp [hi'], rfl, ?_⟩, fun j v hj => ?_⟩
     · have := hl L[i] (List.getElem_mem hi')
       show (mkS L[i]).size ≤ _
       rw [Lib.size_eq]
       simpa [mkS] using this
     · match j, hj with
       | 0, hj =>
         have hj : Value.string (mkS L[i]) = v := by simpa using hj
         subst hj
         have hc : cur[i]? = some (encStr L[i]) := by
           have : (cur.toList.take (L.length * 1))[i]? = (L.map encStr)[i]? := by rw [h4]
           rw [List.getElem?_take, if_pos (by omega), List.getElem?_map, List.getElem?_eq_getElem hi'] at this
           simpa using this
         show World.cell? w ⟨g, 0 + i * 1 + 0, none⟩ = _
         simp [World.cell?, hh, hc, encStr, mkS]
set_option maxRecDepth 100000 in
set_option maxHeartbeats 1000000 in
theorem refFixed_any {d : Nat} {t : Tm} {vs : List Value} {B : Nat} {w : World} (h : RTm w B d t vs) (hB : B ≤ w.heap.size) :
   Calls Tryz.prog 18 #[.agg vs.toArray] w fun e w' => e = .returned (.bool (fixedB t)) ∧ Below w.heap.size w w' := by
 obtain ⟨A, c, rfl, q1, q2, q3, q4, q5, _⟩ := h.cells
 have HA := Lib.hid h
 clear h
 have hk : (t.kind != 1) = true ∨ (t.kind != 1) = false := by cases (t.kind != 1) <;> simp
 have hm : mayB t = true ∨ mayB t = false := by cases mayB t <;> simp
 rcases hm with hm | hm
 · have HM := Lib.hid hm
   clear hm
   rcases hk with hk | hk
   · have HK := Lib.hid hk
     go_enter Tryz.func18, Tryz.ntmps18
     go_wp2_with fail
     generalize hW : World.alloc _ _ = w1
     obtain ⟨hb, hz⟩ := al1 hW
     have b_a_1 := n11 hW
     have HB1 := Lib.hid hb
     clear hW hz hb
     refine (refMay_any (t := t) (vs := [_, _, _, _]) (HA.out.below HB1.out hB) (Nat.le_trans hB HB1.out.size)).mono ?_
     rintro x w2 ⟨rfl, hb⟩
     have b_a_2 := b_a_1.later hb
     have HB2 := Lib.hid (bthen HB1.out hb)
     clear b_a_1
     clear hb
     rw [HM.out]
     have k_a := b_a_2.cell
     have l_a := b_a_2.lt
     go_wp2_with fail
     clear k_a l_a
     go_ret
     exact ⟨ret_bool (by have h := HK.out; unfold fixedB; rw [HM.out, Bool.and_true]; simp only [bne_iff_ne, bne_eq_false_iff_eq] at h; simp [h]), HB2.out⟩
   · have HK := Lib.hid hk
     go_enter Tryz.func18, Tryz.ntmps18
     go_wp2_with fail
     generalize hW : World.alloc _ _ = w1
     obtain ⟨hb, hz⟩ := al1 hW
     have b_a_1 := n11 hW
     have HB1 := Lib.hid hb
     clear hW hz hb
     refine (refMay_any (t := t) (vs := [_, _, _, _]) (HA.out.below HB1.out hB) (Nat.le_trans hB HB1.out.size)).mono ?_
     rintro x w2 ⟨rfl, hb⟩
     have b_a_2 := b_a_1.later hb
     have HB2 := Lib.hid (bthen HB1.out hb)
     clear b_a_1
     clear hb
     rw [HM.out]
     have k_a := b_a_2.cell
     have l_a := b_a_2.lt
     go_wp2_with fail
     clear k_a l_a
     go_ret
     exact ⟨ret_bool (by have h := HK.out; unfold fixedB; rw [HM.out, Bool.and_true]; simp only [bne_iff_ne, bne_eq_false_iff_eq] at h; simp [h]), HB2.out⟩
 · have HM := Lib.hid hm
   clear hm
   go_enter Tryz.func18, Tryz.ntmps18
   go_wp2_with fail
   generalize hW : World.alloc _ _ = w1
   obtain ⟨hb, hz⟩ := al1 hW
   have b_a_1 := n11 hW
   have HB1 := Lib.hid hb
   clear hW hz hb
   refine (refMay_any (t := t) (vs := [_, _, _, _]) (HA.out.below HB1.out hB) (Nat.le_trans hB HB1.out.size)).mono ?_
   rintro x w2 ⟨rfl, hb⟩
   have b_a_2 := b_a_1.later hb
   have HB2 := Lib.hid (bthen HB1.out hb)
   clear b_a_1
   clear hb
   rw [HM.out]
   have k_a := b_a_2.cell
   have l_a := b_a_2.lt
   go_wp2_with fail
   clear k_a l_a
   go_ret
   exact ⟨ret_bool (by unfold fixedB; rw [HM.out, Bool.and_false]), HB2.out⟩
end Go.Proofs.YtiplipdigabidaaGreat
