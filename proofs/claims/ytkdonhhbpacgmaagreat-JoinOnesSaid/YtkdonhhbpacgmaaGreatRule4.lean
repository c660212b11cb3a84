/- rule: MayQuery, May. -/
import Derived.Test.YtkdonhhbpacgmaaGreatRule3
set_option linter.unusedVariables false
set_option linter.unusedSimpArgs false
namespace Go.Proofs.YtkdonhhbpacgmaaGreat
open Go.ChangeShapes Go.WideShapes Go.ChangeAt Go.RowKit
def mayQueryB (r : Ru) : Bool := r.head.name.toList.isEmpty && decide (r.head.terms.length = 0) && decide (1 ≤ r.body.length + r.exprs.length) && bodyB r
def mayRuleB (r : Ru) : Bool := mayPredB r.head && decide (1 ≤ r.body.length) && bodyB r && knownB (uniqL (varsAll [r.head])) (uniqL (varsAll r.body))
theorem mix_skip' {P : Program} {ops : Array Oper} {C : World → Prop} {Qf : Act → World → Prop} {o : Oper} {rest : List Oper} {a a' : Act} {w : World} (hw : Region.wanted o (yielded ops a.tmps) = false) (ha : a.put o.dst undef = a') (h : wpMix P ops C Qf rest a' w) : wpMix P ops C Qf (o :: rest) a w :=
 mix_skip hw (ha ▸ h)
theorem RL.one {α : Type} {R : Reader α} {w : World} {B b : Nat} {x : α} {vs : List Value} (hb : b < B) (h : R.rd w B x vs) (hc : ∀ j v, vs[j]? = some v → w.cell? ⟨b, j, none⟩ = some v) : RL R w B [x] (some ⟨b, 0, none⟩) := by
 intro _
 refine ⟨b, 0, rfl, hb, fun i hi => ?_⟩
 have hi0 : i = 0 := by simp at hi; omega
 subst hi0
 refine ⟨vs, R.len h, ⟨x, rfl, h⟩, fun j v hv => ?_⟩
 have e : 0 + 0 * R.k + j = j := by omega
 rw [e]
 exact hc j v hv
theorem bodyB_count {r : Ru} (h : bodyB r = true) : (varsAll r.body).length ≤ 32 := by
 unfold bodyB at h
 simp only [Bool.and_eq_true, decide_eq_true_eq, List.all_eq_true] at h
 obtain ⟨⟨⟨⟨h1, h2⟩, _⟩, _⟩, _⟩ := h
 have := varsAll_len r.body (fun p hp => mayPredB_len (h2 p hp))
 omega
set_option maxRecDepth 100000 in
set_option maxHeartbeats 2000000 in
theorem mayQuery_any {d B : Nat} {r : Ru} {vs : List Value} {w : World} (hr : (RuR d).rd w B r vs) (hB : B ≤ w.heap.size) :
   Calls Tryz.prog 40 #[.agg vs.toArray] w fun x w' => x = .returned (.bool (mayQueryB r)) ∧ Below w.heap.size w w' := by
 have HR := Lib.hid hr
 obtain ⟨_, _, _, _, rfl, hs, ⟨A0, c0, rfl, h01, h02, hl0⟩, ⟨A1, c1, rfl, h11, h12, hl1⟩, ⟨A2, c2, rfl, h21, h22, hl2⟩, ⟨A3, c3, rfl, h31, h32, hl3⟩⟩ := hr
 simp only [PrR, ExR, ScR, TmR] at h02 h12 h22 h32
 have HB := Lib.hid (fun o : Obj => (Below.refl w.heap.size w).alloc (Nat.le_refl _) o)
 clear hl0 hl1 hl2 hl3
 by_cases t1 : r.head.name.toList.isEmpty = true
 · by_cases t2 : r.head.terms.length = 0
   · by_cases t3 : 1 ≤ r.body.length + r.exprs.length
     · have u2 : ((r.head.terms.length : Int) == 0) = true := by simp [t2]
       have T2 := Lib.hid t2
       clear t2
       have u3 : ((r.body.length : Int) + (r.exprs.length : Int) ≥ 1) := by omega
       go_enter Tryz.func40, Tryz.ntmps40
       go_wp2_with fail
       refine (body_any (d := d) (B := B) (r := r) (vs := [_, _, _, _, _]) ((RuR d).keep (HB.out _) hB HR.out) (Nat.le_trans hB (HB.out _).size)).mono ?_
       rintro x w1 ⟨rfl, hb1⟩
       have HB1 := Lib.hid ((HB.out _).trans (hb1.mono (HB.out _).size))
       clear hb1
       go_wp2_with fail
       go_ret
       exact ⟨ret_bool (by simp [mayQueryB, t1, T2.out, t3]), HB1.out⟩
     · have u2 : ((r.head.terms.length : Int) == 0) = true := by simp [t2]
       have T2 := Lib.hid t2
       clear t2
       have u3 : ¬ ((r.body.length : Int) + (r.exprs.length : Int) ≥ 1) := by omega
       go_enter Tryz.func40, Tryz.ntmps40
       go_wp2_with fail
       go_ret
       exact ⟨ret_bool (by simp [mayQueryB, t3]), HB.out _⟩
   · have u2 : ((r.head.terms.length : Int) == 0) = false := by simp [t2]
     go_enter Tryz.func40, Tryz.ntmps40
     go_wp2_with fail
     go_ret
     exact ⟨ret_bool (by simp [mayQueryB, t2]), HB.out _⟩
 · simp only [Bool.not_eq_true] at t1
   go_enter Tryz.func40, Tryz.ntmps40
   go_wp2_with fail
   go_ret
   exact ⟨ret_bool (by simp [mayQueryB, t1]), HB.out _⟩
set_option maxRecDepth 100000 in
set_option maxHeartbeats 2000000 in
theorem mayRule_any {d B : Nat} {r : Ru} {vs : List Value} {w : World} (hr : (RuR d).rd w B r vs) (hB : B ≤ w.heap.size) :
   Calls Tryz.prog 39 #[.agg vs.toArray] w fun x w' => x = .returned (.bool (mayRuleB r)) ∧ Below w.heap.size w w' := by
 have HR := Lib.hid hr
 obtain ⟨_, _, _, _, rfl, hs, ⟨A0, c0, rfl, h01, h02, hl0⟩, ⟨A1, c1, rfl, h11, h12, hl1⟩, ⟨A2, c2, rfl, h21, h22, hl2⟩, ⟨A3, c3, rfl, h31, h32, hl3⟩⟩ := hr
 simp only [PrR, ExR, ScR, TmR] at h02 h12 h22 h32
 have HB := Lib.hid (fun o : Obj => (Below.refl w.heap.size w).alloc (Nat.le_refl _) o)
 have HP := Lib.hid (show (PrR d).rd w B r.head [.string r.head.name, .slice A0 r.head.terms.length c0] from ⟨_, rfl, hs, _, _, rfl, h01, h02, hl0⟩)
 have HL1 := Lib.hid hl1
 clear hl0 hl1 hl2 hl3
 have e1 : ((r.body.length : Int) ≥ 1) ↔ (1 ≤ r.body.length) := by omega
 by_cases t1 : mayPredB r.head = true
 · by_cases t2 : 1 ≤ r.body.length
   · by_cases t3 : bodyB r = true
     · have u2 : ((r.body.length : Int) ≥ 1) := by omega
       go_enter Tryz.func39, Tryz.ntmps39
       go_wp2_with fail
       have HW := Lib.hid (HB.out (.cells #[.string r.head.name, .slice A0 r.head.terms.length c0, .slice A1 r.body.length c1, .slice A2 r.exprs.length c2, .slice A3 r.scopes.length c3] 33))
       have x0 : (w.alloc (.cells #[.string r.head.name, .slice A0 r.head.terms.length c0, .slice A1 r.body.length c1, .slice A2 r.exprs.length c2, .slice A3 r.scopes.length c3] 33)).cell? ⟨w.heap.size, 0, none⟩ = some (.string r.head.name) := by go_simp
       have x1 : (w.alloc (.cells #[.string r.head.name, .slice A0 r.head.terms.length c0, .slice A1 r.body.length c1, .slice A2 r.exprs.length c2, .slice A3 r.scopes.length c3] 33)).cell? ⟨w.heap.size, 1, none⟩ = some (.slice A0 r.head.terms.length c0) := by go_simp
       have x2 : (w.alloc (.cells #[.string r.head.name, .slice A0 r.head.terms.length c0, .slice A1 r.body.length c1, .slice A2 r.exprs.length c2, .slice A3 r.scopes.length c3] 33)).cell? ⟨w.heap.size, 2, none⟩ = some (.slice A1 r.body.length c1) := by go_simp
       have x3 : (w.alloc (.cells #[.string r.head.name, .slice A0 r.head.terms.length c0, .slice A1 r.body.length c1, .slice A2 r.exprs.length c2, .slice A3 r.scopes.length c3] 33)).cell? ⟨w.heap.size, 3, none⟩ = some (.slice A2 r.exprs.length c2) := by go_simp
       have x4 : (w.alloc (.cells #[.string r.head.name, .slice A0 r.head.terms.length c0, .slice A1 r.body.length c1, .slice A2 r.exprs.length c2, .slice A3 r.scopes.length c3] 33)).cell? ⟨w.heap.size, 4, none⟩ = some (.slice A3 r.scopes.length c3) := by go_simp
       generalize (w.alloc (.cells #[.string r.head.name, .slice A0 r.head.terms.length c0, .slice A1 r.body.length c1, .slice A2 r.exprs.length c2, .slice A3 r.scopes.length c3] 33)) = W at *
       have q0 := cell_regrown x0
       have q1 := cell_regrown x1
       have q2 := cell_regrown x2
       have q3 := cell_regrown x3
       have q4 := cell_regrown x4
       refine wp_region_mix (Grew W) (by kernel_rfl) (by kernel_rfl) (Grew.drew W) ?_
       repeat (refine mix_quiet rfl rfl (fun K hK => ?_); unfold Grew; go_big_quiet_op; refine hK _ ?_; clear hK K)
       refine mix_loud rfl rfl (fun K hK => ?_)
       go_wp2_with fail
       refine (mayPred_any (d := d) (B := B) (vs := [_, _]) ((PrR d).keep HW.out.drew hB HP.out) (Nat.le_trans hB HW.out.size)).mono ?_
       rintro x w1 ⟨rfl, hb1⟩
       have HB1 := Lib.hid (HW.out.trans ((Below.refl _ W).drew.trans (hb1.mono (Nat.le_refl _)) |>.mono HW.out.size))
       have HC := Lib.hid (Grew.of ((Below.refl W.heap.size W).drew.trans (hb1.mono (Nat.le_refl _))))
       clear hb1
       rw [t1]
       go_wp2_with fail
       refine ⟨HC.out, ?_⟩
       repeat (refine mix_quiet rfl rfl (fun K hK => ?_); unfold Grew; go_big_quiet_op; refine hK _ ?_; clear hK K)
       refine mix_loud rfl rfl (fun K hK => ?_)
       go_wp2_with fail
       refine (body_any (d := d) (B := B) (r := r) (vs := [_, _, _, _, _]) ((RuR d).keep HB1.out hB HR.out) (Nat.le_trans hB HB1.out.size)).mono ?_
       rintro x w2 ⟨rfl, hb2⟩
       have HB2 := Lib.hid (HB1.out.trans (hb2.mono HB1.out.size))
       have HC2 := Lib.hid (Grew.of (HC.out.below.trans (hb2.mono HC.out.below.size)))
       clear hb2
       rw [t3]
       go_wp2_with fail
       refine ⟨HC2.out, ?_⟩
       repeat (refine mix_quiet rfl rfl (fun K hK => ?_); unfold Grew; go_big_quiet_op; refine hK _ ?_; clear hK K)
       refine mix_loud rfl rfl (fun K hK => ?_)
       go_wp2_with fail
       have HW3 := Lib.hid (HB2.out.trans ((Below.refl w2.heap.size w2).alloc (Nat.le_refl _) (.cells #[.string r.head.name, .slice A0 r.head.terms.length c0] 24) |>.mono HB2.out.size))
       have HC3 := Lib.hid (Grew.of (HC2.out.below.trans ((Below.refl w2.heap.size w2).alloc (Nat.le_refl _) (.cells #[.string r.head.name, .slice A0 r.head.terms.length c0] 24) |>.mono HC2.out.below.size)))
       have y0 : (w2.alloc (.cells #[.string r.head.name, .slice A0 r.head.terms.length c0] 24)).cell? ⟨w2.heap.size, 0, none⟩ = some (.string r.head.name) := by go_simp
       have y1 : (w2.alloc (.cells #[.string r.head.name, .slice A0 r.head.terms.length c0] 24)).cell? ⟨w2.heap.size, 1, none⟩ = some (.slice A0 r.head.terms.length c0) := by go_simp
       have ysz : w2.heap.size < (w2.alloc (.cells #[.string r.head.name, .slice A0 r.head.terms.length c0] 24)).heap.size := by go_simp
       refine ⟨HC3.out, ?_⟩
       generalize (w2.alloc (.cells #[.string r.head.name, .slice A0 r.head.terms.length c0] 24)) = w3 at *
       have HO := Lib.hid (RL.one (x := r.head) (b := w2.heap.size) ysz ((PrR d).wide (Nat.le_trans hB HW3.out.size) ((PrR d).keep HW3.out hB HP.out)) (fun j v hv => by
         rcases j with _ | _ | j
         · simp only [List.getElem?_cons_zero, Option.some.injEq] at hv; rw [← hv]; exact y0
         · simp only [List.getElem?_cons_succ, List.getElem?_cons_zero, Option.some.injEq] at hv; rw [← hv]; exact y1
         · simp at hv))
       have hcount1 : (varsAll [r.head]).length ≤ 8 := by
         have := varsAll_len [r.head] (fun p hp => by simp at hp; rw [hp]; exact mayPredB_len t1)
         simpa using this
       have hcount2 := bodyB_count t3
       have hlen1 : (uniqL (varsAll [r.head])).length ≤ 8 := Nat.le_trans (uniqL_length _) hcount1
       have hlen2 : (uniqL (varsAll r.body)).length ≤ 32 := Nat.le_trans (uniqL_length _) hcount2
       have HSM1 := Lib.hid (namesP_small (RL.smallP HO.out))
       have HSM2 := Lib.hid (namesP_small (RL.smallP HL1.out))
       clear y0 y1
       refine mix_loud rfl rfl (fun K hK => ?_)
       go_wp2_with fail
       refine (names_any d [r.head] (some ⟨w2.heap.size, 0, none⟩) 1 _ _ HO.out (Nat.le_refl _) (by simp) (by omega)).mono ?_
       rintro x w4 ⟨v4, rfl, hown, hb4⟩
       obtain ⟨A4, c4, rfl, hc4, hrl⟩ := hown.reads HSM1.out (by omega)
       have HB4 := Lib.hid (HW3.out.trans (hb4.mono HW3.out.size))
       have HC4 := Lib.hid (Grew.of (HC3.out.below.trans (hb4.mono HC3.out.below.size)))
       have HRL := Lib.hid hrl
       clear hown hb4 hrl
       go_wp2_with fail
       refine ⟨HC4.out, ?_⟩
       repeat (refine mix_quiet rfl rfl (fun K hK => ?_); unfold Grew; go_big_quiet_op; refine hK _ ?_; clear hK K)
       refine mix_loud rfl rfl (fun K hK => ?_)
       go_wp2_with fail
       refine (names_any d r.body A1 c1 B _ (HL1.out.keep HB4.out hB) (Nat.le_trans hB HB4.out.size) (by omega) (by omega)).mono ?_
       rintro x w5 ⟨v5, rfl, hown, hb5⟩
       obtain ⟨A5, c5, rfl, hc5, hrl⟩ := hown.reads HSM2.out (by exact Nat.le_trans hlen2 (by omega))
       have HB5 := Lib.hid (HB4.out.trans (hb5.mono HB4.out.size))
       have HC5 := Lib.hid (Grew.of (HC4.out.below.trans (hb5.mono HC4.out.below.size)))
       have HRL4 := Lib.hid ((HRL.out.keep hb5 (Nat.le_refl _)).wide hb5.size)
       have HRL5 := Lib.hid hrl
       clear hown hb5 hrl
       go_wp2_with fail
       refine ⟨HC5.out, ?_⟩
       repeat (refine mix_quiet rfl rfl (fun K hK => ?_); unfold Grew; go_big_quiet_op; refine hK _ ?_; clear hK K)
       refine mix_loud rfl rfl (fun K hK => ?_)
       go_wp2_with fail
       refine (known_any (uniqL (varsAll [r.head])) (uniqL (varsAll r.body)) A4 A5 c4 c5 _ _ HRL4.out HRL5.out (Nat.le_refl _) (by omega) (by exact Nat.le_trans hlen2 (by omega)) (uniqL_rising _)).mono ?_
       rintro x w6 ⟨rfl, hb6⟩
       have HB6 := Lib.hid (HB5.out.trans (hb6.mono HB5.out.size))
       have HC6 := Lib.hid (Grew.of (HC5.out.below.trans (hb6.mono HC5.out.below.size)))
       clear hb6
       go_wp2_with fail
       refine ⟨HC6.out, ?_⟩
       repeat (refine mix_quiet rfl rfl (fun K hK => ?_); unfold Grew; go_big_quiet_op; refine hK _ ?_; clear hK K)
       refine mix_nil (fun _ => ?_)
       go_wp2_with fail
       go_ret
       exact ⟨ret_bool (by simp [mayRuleB, t1, t2, t3]), HB6.out⟩
     · simp only [Bool.not_eq_true] at t3
       have u2 : ((r.body.length : Int) ≥ 1) := by omega
       go_enter Tryz.func39, Tryz.ntmps39
       go_wp2_with fail
       have HW := Lib.hid (HB.out (.cells #[.string r.head.name, .slice A0 r.head.terms.length c0, .slice A1 r.body.length c1, .slice A2 r.exprs.length c2, .slice A3 r.scopes.length c3] 33))
       have x0 : (w.alloc (.cells #[.string r.head.name, .slice A0 r.head.terms.length c0, .slice A1 r.body.length c1, .slice A2 r.exprs.length c2, .slice A3 r.scopes.length c3] 33)).cell? ⟨w.heap.size, 0, none⟩ = some (.string r.head.name) := by go_simp
       have x1 : (w.alloc (.cells #[.string r.head.name, .slice A0 r.head.terms.length c0, .slice A1 r.body.length c1, .slice A2 r.exprs.length c2, .slice A3 r.scopes.length c3] 33)).cell? ⟨w.heap.size, 1, none⟩ = some (.slice A0 r.head.terms.length c0) := by go_simp
       have x2 : (w.alloc (.cells #[.string r.head.name, .slice A0 r.head.terms.length c0, .slice A1 r.body.length c1, .slice A2 r.exprs.length c2, .slice A3 r.scopes.length c3] 33)).cell? ⟨w.heap.size, 2, none⟩ = some (.slice A1 r.body.length c1) := by go_simp
       have x3 : (w.alloc (.cells #[.string r.head.name, .slice A0 r.head.terms.length c0, .slice A1 r.body.length c1, .slice A2 r.exprs.length c2, .slice A3 r.scopes.length c3] 33)).cell? ⟨w.heap.size, 3, none⟩ = some (.slice A2 r.exprs.length c2) := by go_simp
       have x4 : (w.alloc (.cells #[.string r.head.name, .slice A0 r.head.terms.length c0, .slice A1 r.body.length c1, .slice A2 r.exprs.length c2, .slice A3 r.scopes.length c3] 33)).cell? ⟨w.heap.size, 4, none⟩ = some (.slice A3 r.scopes.length c3) := by go_simp
       generalize (w.alloc (.cells #[.string r.head.name, .slice A0 r.head.terms.length c0, .slice A1 r.body.length c1, .slice A2 r.exprs.length c2, .slice A3 r.scopes.length c3] 33)) = W at *
       have q0 := cell_regrown x0
       have q1 := cell_regrown x1
       have q2 := cell_regrown x2
       have q3 := cell_regrown x3
       have q4 := cell_regrown x4
       refine wp_region_mix (Grew W) (by kernel_rfl) (by kernel_rfl) (Grew.drew W) ?_
       repeat (refine mix_quiet rfl rfl (fun K hK => ?_); unfold Grew; go_big_quiet_op; refine hK _ ?_; clear hK K)
       refine mix_loud rfl rfl (fun K hK => ?_)
       go_wp2_with fail
       refine (mayPred_any (d := d) (B := B) (vs := [_, _]) ((PrR d).keep HW.out.drew hB HP.out) (Nat.le_trans hB HW.out.size)).mono ?_
       rintro x w1 ⟨rfl, hb1⟩
       have HB1 := Lib.hid (HW.out.trans ((Below.refl _ W).drew.trans (hb1.mono (Nat.le_refl _)) |>.mono HW.out.size))
       have HC := Lib.hid (Grew.of ((Below.refl W.heap.size W).drew.trans (hb1.mono (Nat.le_refl _))))
       clear hb1
       rw [t1]
       go_wp2_with fail
       refine ⟨HC.out, ?_⟩
       repeat (refine mix_quiet rfl rfl (fun K hK => ?_); unfold Grew; go_big_quiet_op; refine hK _ ?_; clear hK K)
       refine mix_loud rfl rfl (fun K hK => ?_)
       go_wp2_with fail
       refine (body_any (d := d) (B := B) (r := r) (vs := [_, _, _, _, _]) ((RuR d).keep HB1.out hB HR.out) (Nat.le_trans hB HB1.out.size)).mono ?_
       rintro x w2 ⟨rfl, hb2⟩
       have HB2 := Lib.hid (HB1.out.trans (hb2.mono HB1.out.size))
       have HC2 := Lib.hid (Grew.of (HC.out.below.trans (hb2.mono HC.out.below.size)))
       clear hb2
       rw [t3]
       go_wp2_with fail
       refine ⟨HC2.out, ?_⟩
       repeat first | (refine mix_quiet rfl rfl (fun K hK => ?_); unfold Grew; go_big_quiet_op; refine hK _ ?_; clear hK K) | (refine mix_skip' (a' := ?_) rfl ?_ ?_; rotate_left; focus (dsimp only [Act.put]; simp only [List.setIfInBounds_toArray, List.set_cons_succ, List.set_cons_zero]; rfl))
       refine mix_nil (fun _ => ?_)
       go_wp2_with fail
       go_ret
       exact ⟨ret_bool (by simp [mayRuleB, t3]), HB2.out⟩
   · have u2 : ¬ ((r.body.length : Int) ≥ 1) := by omega
     go_enter Tryz.func39, Tryz.ntmps39
     go_wp2_with fail
     have HW := Lib.hid (HB.out (.cells #[.string r.head.name, .slice A0 r.head.terms.length c0, .slice A1 r.body.length c1, .slice A2 r.exprs.length c2, .slice A3 r.scopes.length c3] 33))
     have x0 : (w.alloc (.cells #[.string r.head.name, .slice A0 r.head.terms.length c0, .slice A1 r.body.length c1, .slice A2 r.exprs.length c2, .slice A3 r.scopes.length c3] 33)).cell? ⟨w.heap.size, 0, none⟩ = some (.string r.head.name) := by go_simp
     have x1 : (w.alloc (.cells #[.string r.head.name, .slice A0 r.head.terms.length c0, .slice A1 r.body.length c1, .slice A2 r.exprs.length c2, .slice A3 r.scopes.length c3] 33)).cell? ⟨w.heap.size, 1, none⟩ = some (.slice A0 r.head.terms.length c0) := by go_simp
     have x2 : (w.alloc (.cells #[.string r.head.name, .slice A0 r.head.terms.length c0, .slice A1 r.body.length c1, .slice A2 r.exprs.length c2, .slice A3 r.scopes.length c3] 33)).cell? ⟨w.heap.size, 2, none⟩ = some (.slice A1 r.body.length c1) := by go_simp
     have x3 : (w.alloc (.cells #[.string r.head.name, .slice A0 r.head.terms.length c0, .slice A1 r.body.length c1, .slice A2 r.exprs.length c2, .slice A3 r.scopes.length c3] 33)).cell? ⟨w.heap.size, 3, none⟩ = some (.slice A2 r.exprs.length c2) := by go_simp
     have x4 : (w.alloc (.cells #[.string r.head.name, .slice A0 r.head.terms.length c0, .slice A1 r.body.length c1, .slice A2 r.exprs.length c2, .slice A3 r.scopes.length c3] 33)).cell? ⟨w.heap.size, 4, none⟩ = some (.slice A3 r.scopes.length c3) := by go_simp
     generalize (w.alloc (.cells #[.string r.head.name, .slice A0 r.head.terms.length c0, .slice A1 r.body.length c1, .slice A2 r.exprs.length c2, .slice A3 r.scopes.length c3] 33)) = W at *
     have q0 := cell_regrown x0
     have q1 := cell_regrown x1
     have q2 := cell_regrown x2
     have q3 := cell_regrown x3
     have q4 := cell_regrown x4
     refine wp_region_mix (Grew W) (by kernel_rfl) (by kernel_rfl) (Grew.drew W) ?_
     repeat (refine mix_quiet rfl rfl (fun K hK => ?_); unfold Grew; go_big_quiet_op; refine hK _ ?_; clear hK K)
     refine mix_loud rfl rfl (fun K hK => ?_)
     go_wp2_with fail
     refine (mayPred_any (d := d) (B := B) (vs := [_, _]) ((PrR d).keep HW.out.drew hB HP.out) (Nat.le_trans hB HW.out.size)).mono ?_
     rintro x w1 ⟨rfl, hb1⟩
     have HB1 := Lib.hid (HW.out.trans ((Below.refl _ W).drew.trans (hb1.mono (Nat.le_refl _)) |>.mono HW.out.size))
     have HC := Lib.hid (Grew.of ((Below.refl W.heap.size W).drew.trans (hb1.mono (Nat.le_refl _))))
     clear hb1
     rw [t1]
     go_wp2_with fail
     refine ⟨HC.out, ?_⟩
     repeat first | (refine mix_quiet rfl rfl (fun K hK => ?_); unfold Grew; go_big_quiet_op; refine hK _ ?_; clear hK K) | (refine mix_skip' (a' := ?_) rfl ?_ ?_; rotate_left; focus (dsimp only [Act.put]; simp only [List.setIfInBounds_toArray, List.set_cons_succ, List.set_cons_zero]; rfl))
     refine mix_nil (fun _ => ?_)
     go_wp2_with fail
     go_ret
     exact ⟨ret_bool (by simp [mayRuleB, t2]), HB1.out⟩
 · simp only [Bool.not_eq_true] at t1
   go_enter Tryz.func39, Tryz.ntmps39
   go_wp2_with fail
   have HW := Lib.hid (HB.out (.cells #[.string r.head.name, .slice A0 r.head.terms.length c0, .slice A1 r.body.length c1, .slice A2 r.exprs.length c2, .slice A3 r.scopes.length c3] 33))
   have x0 : (w.alloc (.cells #[.string r.head.name, .slice A0 r.head.terms.length c0, .slice A1 r.body.length c1, .slice A2 r.exprs.length c2, .slice A3 r.scopes.length c3] 33)).cell? ⟨w.heap.size, 0, none⟩ = some (.string r.head.name) := by go_simp
   have x1 : (w.alloc (.cells #[.string r.head.name, .slice A0 r.head.terms.length c0, .slice A1 r.body.length c1, .slice A2 r.exprs.length c2, .slice A3 r.scopes.length c3] 33)).cell? ⟨w.heap.size, 1, none⟩ = some (.slice A0 r.head.terms.length c0) := by go_simp
   have x2 : (w.alloc (.cells #[.string r.head.name, .slice A0 r.head.terms.length c0, .slice A1 r.body.length c1, .slice A2 r.exprs.length c2, .slice A3 r.scopes.length c3] 33)).cell? ⟨w.heap.size, 2, none⟩ = some (.slice A1 r.body.length c1) := by go_simp
   have x3 : (w.alloc (.cells #[.string r.head.name, .slice A0 r.head.terms.length c0, .slice A1 r.body.length c1, .slice A2 r.exprs.length c2, .slice A3 r.scopes.length c3] 33)).cell? ⟨w.heap.size, 3, none⟩ = some (.slice A2 r.exprs.length c2) := by go_simp
   have x4 : (w.alloc (.cells #[.string r.head.name, .slice A0 r.head.terms.length c0, .slice A1 r.body.length c1, .slice A2 r.exprs.length c2, .slice A3 r.scopes.length c3] 33)).cell? ⟨w.heap.size, 4, none⟩ = some (.slice A3 r.scopes.length c3) := by go_simp
   generalize (w.alloc (.cells #[.string r.head.name, .slice A0 r.head.terms.length c0, .slice A1 r.body.length c1, .slice A2 r.exprs.length c2, .slice A3 r.scopes.length c3] 33)) = W at *
   have q0 := cell_regrown x0
   have q1 := cell_regrown x1
   have q2 := cell_regrown x2
   have q3 := cell_regrown x3
   have q4 := cell_regrown x4
   refine wp_region_mix (Grew W) (by kernel_rfl) (by kernel_rfl) (Grew.drew W) ?_
   repeat (refine mix_quiet rfl rfl (fun K hK => ?_); unfold Grew; go_big_quiet_op; refine hK _ ?_; clear hK K)
   refine mix_loud rfl rfl (fun K hK => ?_)
   go_wp2_with fail
   refine (mayPred_any (d := d) (B := B) (vs := [_, _]) ((PrR d).keep HW.out.drew hB HP.out) (Nat.le_trans hB HW.out.size)).mono ?_
   rintro x w1 ⟨rfl, hb1⟩
   have HB1 := Lib.hid (HW.out.trans ((Below.refl _ W).drew.trans (hb1.mono (Nat.le_refl _)) |>.mono HW.out.size))
   have HC := Lib.hid (Grew.of ((Below.refl W.heap.size W).drew.trans (hb1.mono (Nat.le_refl _))))
   clear hb1
   rw [t1]
   go_wp2_with fail
   refine ⟨HC.out, ?_⟩
   repeat first | (refine mix_quiet rfl rfl (fun K hK => ?_); unfold Grew; go_big_quiet_op; refine hK _ ?_; clear hK K) | (refine mix_skip' (a' := ?_) rfl ?_ ?_; rotate_left; focus (dsimp only [Act.put]; simp only [List.setIfInBounds_toArray, List.set_cons_succ, List.set_cons_zero]; rfl))
   refine mix_nil (fun _ => ?_)
   go_wp2_with fail
   go_ret
   exact ⟨ret_bool (by simp [mayRuleB, t1]), HB1.out⟩
end Go.Proofs.YtkdonhhbpacgmaaGreat
