/- rule: body, MayQuery, May. -/
import Derived.Test.YtkdonhhbpacgmaaGreatRule2
set_option linter.unusedVariables false
set_option linter.unusedSimpArgs false
namespace Go.Proofs.YtkdonhhbpacgmaaGreat
open Go.ChangeShapes Go.WideShapes Go.ChangeAt Go.RowKit
theorem tells_mayPred {d B : Nat} {w : World} (hB : B ≤ w.heap.size) : Tells Tryz.prog (PrR d) aggOf B w 21 #[] mayPredB := fun x vs w1 hb hr => by
 obtain ⟨v, rfl, _⟩ := id hr
 exact mayPred_any (d := d) (B := B) (vs := [_, _]) hr (by have := hb.size; omega)
theorem tells_mayExpr {d B : Nat} {w : World} (hB : B ≤ w.heap.size) : Tells Tryz.prog (ExR d) aggOf B w 102 #[] mayExprB := fun x vs w1 hb hr => by
 obtain ⟨v, rfl, _⟩ := id hr
 exact mayExpr_any (d := d) (B := B) (vs := [_]) hr (by have := hb.size; omega)
theorem tells_mayScope {B : Nat} {w : World} : Tells Tryz.prog ScR aggOf B w 104 #[] mayScopeB := fun x vs w1 hb hr => by
 obtain ⟨rfl, _⟩ := id hr
 exact mayScope_any (B := B) (vs := [_, _]) hr
def namesP (ps : List Pr) : List Bytes := uniqL (varsAll ps)
def bodyB (r : Ru) : Bool := (decide (r.body.length ≤ 4) && r.body.all mayPredB) && (decide (r.exprs.length ≤ 4) && r.exprs.all mayExprB) && (decide (r.scopes.length ≤ 4) && r.scopes.all mayScopeB) && r.exprs.all (fun e => knownB (namesE e) (namesP r.body))
theorem bodyB_of {r : Ru} (t1 : (decide ((r.body.length : Int) ≤ 4) && r.body.all mayPredB) = true) (t2 : (decide ((r.exprs.length : Int) ≤ 4) && r.exprs.all mayExprB) = true)
   (t3 : (decide ((r.scopes.length : Int) ≤ 4) && r.scopes.all mayScopeB) = true) : bodyB r = !r.exprs.any (fun e => !knownB (namesE e) (uniqL (varsAll r.body))) := by
 unfold bodyB namesP
 simp only [int_le_4] at t1 t2 t3
 rw [t1, t2, t3, Bool.true_and, Bool.true_and, Bool.true_and, List.not_any_eq_all_not]
 simp only [Bool.not_not]
theorem bodyB_not1 {r : Ru} (t1 : (decide ((r.body.length : Int) ≤ 4) && r.body.all mayPredB) = false) : bodyB r = false := by
 unfold bodyB; simp only [int_le_4] at t1; rw [t1]; simp only [Bool.false_and]
theorem bodyB_not2 {r : Ru} (t2 : (decide ((r.exprs.length : Int) ≤ 4) && r.exprs.all mayExprB) = false) : bodyB r = false := by
 unfold bodyB; simp only [int_le_4] at t2; rw [t2]; simp only [Bool.false_and, Bool.and_false]
theorem bodyB_not3 {r : Ru} (t3 : (decide ((r.scopes.length : Int) ≤ 4) && r.scopes.all mayScopeB) = false) : bodyB r = false := by
 unfold bodyB; simp only [int_le_4] at t3; rw [t3]; simp only [Bool.false_and, Bool.and_false]
theorem varsAll_len : ∀ (ps : List Pr), (∀ p ∈ ps, p.terms.length ≤ 8) → (varsAll ps).length ≤ 8 * ps.length
 | [], _ => by simp [varsAll]
 | p :: ps, h => by
   have h1 := varsAll_len ps (fun q hq => h q (by simp [hq]))
   have h2 := h p (by simp)
   have h3 : (varsOf p.terms).length ≤ p.terms.length := by unfold varsOf; rw [List.length_map]; exact List.length_filter_le _ _
   have : varsAll (p :: ps) = varsOf p.terms ++ varsAll ps := by simp [varsAll]
   rw [this, List.length_append, List.length_cons]
   omega
theorem mayPredB_len {p : Pr} (h : mayPredB p = true) : p.terms.length ≤ 8 := by
 unfold mayPredB at h
 simp only [Bool.and_eq_true, decide_eq_true_eq] at h
 exact h.2.1
def smallP (ps : List Pr) : Prop := ∀ p ∈ ps, ∀ t ∈ p.terms, t.s.size ≤ 140737488351232
theorem RSl.smallT {d B : Nat} {ts : List Tm} {v : Value} {w : World} (h : RSl (TmR d) w B ts v) : ∀ t ∈ ts, t.s.size ≤ 140737488351232 := by
 obtain ⟨A, c, _, _, _, hl⟩ := h
 intro t ht
 obtain ⟨i, hi, rfl⟩ := List.getElem_of_mem ht
 obtain ⟨b, off, rfl, hb, hc⟩ := hl (by omega)
 obtain ⟨vs, _, ⟨x, hx, hr⟩, _⟩ := hc i hi
 obtain ⟨_, _, _, _, _, hs, _⟩ := RTm.cells hr
 rw [List.getElem?_eq_getElem hi] at hx
 simp only [Option.some.injEq] at hx
 rw [hx]; exact hs
theorem RL.smallP {d B : Nat} {ps : List Pr} {A : Option Addr} {w : World} (h : RL (PrR d) w B ps A) : smallP ps := by
 intro p hp
 obtain ⟨i, hi, rfl⟩ := List.getElem_of_mem hp
 obtain ⟨b, off, rfl, hb, hc⟩ := h (by omega)
 obtain ⟨vs, _, ⟨x, hx, hr⟩, _⟩ := hc i hi
 obtain ⟨_, _, _, ht⟩ := hr
 rw [List.getElem?_eq_getElem hi] at hx
 simp only [Option.some.injEq] at hx
 rw [hx]; exact RSl.smallT ht
theorem namesP_small {ps : List Pr} (h : smallP ps) : ∀ l ∈ namesP ps, l.length ≤ 140737488351232 := by
 intro l hl
 unfold namesP at hl
 rw [mem_uniqL] at hl
 unfold varsAll varsOf at hl
 simp only [List.mem_flatMap, List.mem_map, List.mem_filter] at hl
 obtain ⟨p, hp, t, ⟨ht, _⟩, rfl⟩ := hl
 rw [bs_length]
 exact h p hp t ht
set_option maxRecDepth 100000 in
set_option maxHeartbeats 2000000 in
theorem body_any {d B : Nat} {r : Ru} {vs : List Value} {w : World} (hr : (RuR d).rd w B r vs) (hB : B ≤ w.heap.size) :
   Calls Tryz.prog 69 #[.agg vs.toArray] w fun x w' => x = .returned (.bool (bodyB r)) ∧ Below w.heap.size w w' := by
 obtain ⟨_, _, _, _, rfl, hs, ⟨A0, c0, rfl, h01, h02, hl0⟩, ⟨A1, c1, rfl, h11, h12, hl1⟩, ⟨A2, c2, rfl, h21, h22, hl2⟩, ⟨A3, c3, rfl, h31, h32, hl3⟩⟩ := hr
 simp only [PrR, ExR, ScR] at h12 h22 h32
 have HB := Lib.hid (fun o : Obj => (Below.refl w.heap.size w).alloc (Nat.le_refl _) o)
 have HL1 := Lib.hid hl1
 have HL2 := Lib.hid hl2
 have HL3 := Lib.hid hl3
 have HSM := Lib.hid (namesP_small (RL.smallP hl1))
 clear hl0 hl1 hl2 hl3
 by_cases t1 : (decide ((r.body.length : Int) ≤ 4) && r.body.all mayPredB) = true
 · go_enter Tryz.func69, Tryz.ntmps69
   go_wp2_with fail
   refine (fewPred_any d 21 mayPredB 4 r.body A1 c1 B _ (ent Tryz.func21 (by kernel_rfl) rfl) (HL1.out.keep (HB.out _) hB) (Nat.le_trans hB (HB.out _).size) (by omega) (tells_mayPred (Nat.le_trans hB (HB.out _).size))).mono ?_
   rintro x w1 ⟨rfl, hb1⟩
   have hc1 := bcell hb1
   have hz1 : w.heap.size < w1.heap.size := (by have := hb1.size; simp at this; omega)
   have HB1 := Lib.hid ((HB.out _).trans (hb1.mono (HB.out _).size))
   clear hb1
   by_cases t2 : (decide ((r.exprs.length : Int) ≤ 4) && r.exprs.all mayExprB) = true
   · go_wp2_with fail
     refine (fewExpr_any d 102 mayExprB 4 r.exprs A2 c2 B _ (ent Tryz.func102 (by kernel_rfl) rfl) (HL2.out.keep HB1.out hB) (Nat.le_trans hB HB1.out.size) (by omega) (tells_mayExpr (Nat.le_trans hB HB1.out.size))).mono ?_
     rintro x w2 ⟨rfl, hb2⟩
     have hc2 := bcell hb2
     have hz2 : w.heap.size < w2.heap.size := (by have := hb2.size; omega)
     have HB2 := Lib.hid (HB1.out.trans (hb2.mono HB1.out.size))
     clear hb2
     by_cases t3 : (decide ((r.scopes.length : Int) ≤ 4) && r.scopes.all mayScopeB) = true
     · go_wp2_with fail
       refine (fewScope_any 104 mayScopeB 4 r.scopes A3 c3 B _ (ent Tryz.func104 (by kernel_rfl) rfl) (HL3.out.keep HB2.out hB) (Nat.le_trans hB HB2.out.size) (by omega) tells_mayScope).mono ?_
       rintro x w3 ⟨rfl, hb3⟩
       have hc3 := bcell hb3
       have hz3 : w.heap.size < w3.heap.size := (by have := hb3.size; omega)
       have HB3 := Lib.hid (HB2.out.trans (hb3.mono HB2.out.size))
       clear hb3
       have hcount : (varsAll r.body).length ≤ 32 := by
         simp only [Bool.and_eq_true, decide_eq_true_eq, List.all_eq_true] at t1
         have := varsAll_len r.body (fun p hp => mayPredB_len (t1.2 p hp))
         omega
       have hlen : (namesP r.body).length ≤ 32 := Nat.le_trans (uniqL_length _) hcount
       go_wp2_with fail
       refine (names_any d r.body A1 c1 B _ (HL1.out.keep HB3.out hB) (Nat.le_trans hB HB3.out.size) (by omega) (by omega)).mono ?_
       rintro x w4 ⟨v4, rfl, hown, hb4⟩
       obtain ⟨A4, c4, rfl, hc4, hrl⟩ := hown.reads HSM.out (by exact Nat.le_trans hlen (by omega))
       have hc4' := bcell hb4
       have hz4 : w.heap.size < w4.heap.size := (by have := hb4.size; omega)
       have HB4 := Lib.hid (HB3.out.trans (hb4.mono HB3.out.size))
       have HRL := Lib.hid hrl
       clear hown hb4 hrl
       go_wp2_with fail
       have HW := Lib.hid (HB4.out.trans ((Below.refl w4.heap.size w4).alloc (Nat.le_refl _) (.cells #[.slice A4 (uniqL (varsAll r.body)).length c4] 25) |>.mono HB4.out.size))
       have x0 : (w4.alloc (.cells #[.slice A4 (uniqL (varsAll r.body)).length c4] 25)).cell? ⟨w4.heap.size, 0, none⟩ = some (.slice A4 (uniqL (varsAll r.body)).length c4) := by go_simp
       have hsz := ((Below.refl w4.heap.size w4).alloc (Nat.le_refl _) (.cells #[.slice A4 (uniqL (varsAll r.body)).length c4] 25)).size
       have HRL' := Lib.hid (((HRL.out.keep ((Below.refl w4.heap.size w4).alloc (Nat.le_refl _) (.cells #[.slice A4 (uniqL (varsAll r.body)).length c4] 25)) (Nat.le_refl _))))
       refine (containsFuncExpr_any d 106 #[.pointer (some ⟨w4.heap.size, 0, none⟩)] (fun e => !knownB (namesE e) (uniqL (varsAll r.body))) r.exprs A2 c2 _ _ (ent Tryz.func106 (by kernel_rfl) rfl) ((HL2.out.keep HW.out hB).wide (Nat.le_trans hB HW.out.size)) (Nat.le_refl _) (by omega) (bodyLit_any d (uniqL (varsAll r.body)) A4 c4 _ _ _ (HRL'.out.wide hsz) (Nat.le_refl _) (by exact Nat.le_trans hlen (by omega)) (uniqL_rising _) x0)).mono ?_
       rintro x w5 ⟨rfl, hb5⟩
       have HB5 := Lib.hid (HW.out.trans (hb5.mono HW.out.size))
       clear hb5
       go_wp2_with fail
       go_ret
       refine ⟨?_, HB5.out⟩
       rw [bodyB_of t1 t2 t3]
       rfl
     · simp only [Bool.not_eq_true] at t3
       go_wp2_with fail
       refine (fewScope_any 104 mayScopeB 4 r.scopes A3 c3 B _ (ent Tryz.func104 (by kernel_rfl) rfl) (HL3.out.keep HB2.out hB) (Nat.le_trans hB HB2.out.size) (by omega) tells_mayScope).mono ?_
       rintro x w3 ⟨rfl, hb3⟩
       have HB3 := Lib.hid (HB2.out.trans (hb3.mono HB2.out.size))
       clear hb3
       go_wp2_with fail
       go_ret
       refine ⟨?_, HB3.out⟩
       rw [bodyB_not3 t3]
       rfl
   · simp only [Bool.not_eq_true] at t2
     go_wp2_with fail
     refine (fewExpr_any d 102 mayExprB 4 r.exprs A2 c2 B _ (ent Tryz.func102 (by kernel_rfl) rfl) (HL2.out.keep HB1.out hB) (Nat.le_trans hB HB1.out.size) (by omega) (tells_mayExpr (Nat.le_trans hB HB1.out.size))).mono ?_
     rintro x w2 ⟨rfl, hb2⟩
     have HB2 := Lib.hid (HB1.out.trans (hb2.mono HB1.out.size))
     clear hb2
     go_wp2_with fail
     go_ret
     refine ⟨?_, HB2.out⟩
     rw [bodyB_not2 t2]
     rfl
 · simp only [Bool.not_eq_true] at t1
   go_enter Tryz.func69, Tryz.ntmps69
   go_wp2_with fail
   refine (fewPred_any d 21 mayPredB 4 r.body A1 c1 B _ (ent Tryz.func21 (by kernel_rfl) rfl) (HL1.out.keep (HB.out _) hB) (Nat.le_trans hB (HB.out _).size) (by omega) (tells_mayPred (Nat.le_trans hB (HB.out _).size))).mono ?_
   rintro x w1 ⟨rfl, hb1⟩
   have HB1 := Lib.hid ((HB.out _).trans (hb1.mono (HB.out _).size))
   clear hb1
   go_wp2_with fail
   go_ret
   refine ⟨?_, HB1.out⟩
   rw [bodyB_not1 t1]
   rfl
end Go.Proofs.YtkdonhhbpacgmaaGreat
