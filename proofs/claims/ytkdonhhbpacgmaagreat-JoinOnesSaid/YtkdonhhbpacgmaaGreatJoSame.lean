/- viaticumref6.Same, SameTerms, viaticumref11.SamePred: lines of wip/tpl/XRefSame. -/
import Derived.Test.YtkdonhhbpacgmaaGreatRef4
import Derived.Test.YtkdonhhbpacgmaaGreatOwn
import Derived.Test.YtkdonhhbpacgmaaGreatReg3
import Derived.Test.YtkdonhhbpacgmaaGreatRef2
set_option linter.unusedVariables false
set_option linter.unusedSimpArgs false
namespace Go.Proofs.YtkdonhhbpacgmaaGreat
open Go.ChangeShapes Go.WideShapes Go.ChangeAt Go.RowKit
theorem all_false {α : Type} {l : List α} {p : α → Bool} {k : Nat} {x : α} (h : l[k]? = some x) (hp : p x = false) : l.all p = false := by
 rw [Bool.eq_false_iff]
 intro h2
 rw [List.all_eq_true] at h2
 have := h2 x (List.mem_of_getElem? h)
 rw [hp] at this
 cases this
theorem all_true {α : Type} {l : List α} {p : α → Bool} {k : Nat} (hk : l.length ≤ k) (h : ∀ i (hi : i < k) (hi' : i < l.length), p l[i] = true) : l.all p = true := by
 rw [List.all_eq_true]
 intro x hx
 obtain ⟨i, hi, rfl⟩ := List.getElem_of_mem hx
 exact h i (by omega) hi
theorem mayFactB_eq (p : Pr) : mayFactB p = (p.terms.all (fun t => !(t.kind == 1)) && mayPredB p) := by
 unfold mayFactB
 rw [Bool.eq_iff_iff]
 simp only [Bool.and_eq_true, List.all_eq_true, Bool.not_eq_true', beq_eq_false_iff_ne, decide_eq_true_eq]
 constructor
 · rintro ⟨h1, h2, h3⟩
   refine ⟨fun t ht => ?_, h1⟩
   have := h3 t ht
   unfold fixedB at this
   simp only [Bool.and_eq_true, decide_eq_true_eq] at this
   exact this.1
 · rintro ⟨h1, h2⟩
   have h3 := h2
   unfold mayPredB at h3
   simp only [Bool.and_eq_true, List.all_eq_true, decide_eq_true_eq] at h3
   refine ⟨h2, h3.2.1, fun t ht => ?_⟩
   unfold fixedB
   rw [h3.2.2 t ht, decide_eq_true (h1 t ht)]
   rfl
set_option maxRecDepth 100000 in
set_option maxHeartbeats 2000000 in
theorem refMayFact_any {d B : Nat} {p : Pr} {vs : List Value} {w : World} (hp : (PrR d).rd w B p vs) (hB : B ≤ w.heap.size) :
   Calls Tryz.prog 26 #[.agg vs.toArray] w fun e w' => e = .returned (.bool (mayFactB p)) ∧ Below w.heap.size w w' := by
 have HP := Lib.hid hp
 obtain ⟨_, rfl, hs, A, c, rfl, h1, h2, hl⟩ := hp
 simp only [TmR] at h2
 have HL := Lib.hid hl
 clear hl
 go_enter Tryz.func26, Tryz.ntmps26
 go_wp2_with fail
 generalize hW : World.alloc _ _ = W
 obtain ⟨hb, hz⟩ := al1 hW
 have ba := n11 hW
 have HB1 := Lib.hid hb
 have hB1 : B ≤ W.heap.size := by omega
 clear hW hz hb
 go_loopw [8] (fun i wr => ∃ k : Nat, k ≤ p.terms.length ∧ i = .int .i64 k ∧ Below W.heap.size W wr ∧ ∀ i (hi : i < k) (hi' : i < p.terms.length), (fun t : Tm => !(t.kind == 1)) p.terms[i] = true) (fun i _ => p.terms.length - (intOf i).toNat)
 case atStart => exact ⟨0, Nat.zero_le _, rfl, Below.refl _ _, fun i h => absurd h (by omega)⟩
 case round =>
   obtain ⟨k, hk, rfl, hbw, hall⟩ := hrel
   have HA := Lib.hid hall
   clear hall
   by_cases hlt : k < p.terms.length
   · have hl := HL.out.keep HB1.out hB
     obtain ⟨b, off, rfl, hob⟩ := hl.base hbw hB1 (by omega)
     obtain ⟨x, vs, hx, hlen, hcell, hr⟩ := hl.at_ hbw hB1 hlt
     obtain ⟨Ax, cx, rfl, _⟩ := RTm.cells hr
     have p0 : wr.cell? ⟨b, off + k * 4, none⟩ = some (.int .i64 x.kind) := hcell 0 _ rfl
     have p1 : wr.cell? ⟨b, off + k * 4 + 1, none⟩ = some (.int .i64 x.n) := hcell 1 _ rfl
     have p2 : wr.cell? ⟨b, off + k * 4 + 2, none⟩ = some (.string x.s) := hcell 2 _ rfl
     have p3 : wr.cell? ⟨b, off + k * 4 + 3, none⟩ = some (.slice Ax x.l.length cx) := hcell 3 _ rfl
     have HBa := Lib.hid (fun o : Obj => bthen hbw ((Below.refl wr.heap.size wr).alloc (Nat.le_refl _) o))
     have HX := Lib.hid hx
     clear hl hcell hlen hr hx hbw
     by_cases hk1 : (x.kind == 1) = true
     · have HALL := Lib.hid (all_false (p := fun t : Tm => !(t.kind == 1)) HX.out (by show (!(x.kind == 1)) = false; rw [hk1]; rfl))
       go_wp2_with fail
       go_ret
       exact ⟨ret_bool (by rw [mayFactB_eq, HALL.out]; rfl), bthen HB1.out (HBa.out _)⟩
     · have hk1 : (x.kind == 1) = false := by simpa using hk1
       have HK := Lib.hid hk1
       go_wp2_with fail
       go_roundw
       case rel => exact ⟨k + 1, by omega, by go_num, HBa.out _, fun i hi hi' => by
         rcases Nat.lt_or_ge i k with h1 | h1
         · exact HA.out i h1 hi'
         · obtain rfl : i = k := by omega
           rw [(List.getElem?_eq_some_iff.1 HX.out).2]
           show (!(x.kind == 1)) = true
           rw [HK.out]; rfl⟩
       case measure => simp [intOf]; omega
   · have HALL := Lib.hid (all_true (p := fun t : Tm => !(t.kind == 1)) (show p.terms.length ≤ k by omega) HA.out)
     have HB2 := Lib.hid (bthen HB1.out hbw)
     have ca := (ba.later hbw).cell
     have la := (ba.later hbw).lt
     clear hbw
     go_wp2_with fail
     refine (refMayPred_any (d := d) (B := B) (p := p) (vs := [_, _]) ((PrR d).keep HB2.out hB HP.out) (Nat.le_trans hB HB2.out.size)).mono ?_
     rintro e w3 ⟨rfl, hb3⟩
     have HB3 := Lib.hid (bthen HB2.out hb3)
     clear hb3
     go_wp2_with fail
     go_ret
     exact ⟨ret_bool (by rw [mayFactB_eq, HALL.out, Bool.true_and]), HB3.out⟩
open Go.ChangeShapes Go.WideShapes Go.ChangeAt Go.RowKit
def eqL {α : Type} (f : α → α → Bool) : List α → List α → Bool
 | [], [] => true
 | x :: xs, y :: ys => f x y && eqL f xs ys
 | _, _ => false
theorem eqL_len {α : Type} {f : α → α → Bool} : ∀ {xs ys : List α}, xs.length ≠ ys.length → eqL f xs ys = false
 | [], [], h => absurd rfl h
 | [], _ :: _, _ => rfl
 | _ :: _, [], _ => rfl
 | x :: xs, y :: ys, h => by rw [eqL, eqL_len (xs := xs) (ys := ys) (by simpa using h), Bool.and_false]
theorem eqL_refl {α : Type} {f : α → α → Bool} (hf : ∀ x, f x x = true) : ∀ (xs : List α), eqL f xs xs = true
 | [] => rfl
 | x :: xs => by rw [eqL, hf, eqL_refl hf xs]; rfl
open Go.ChangeShapes Go.WideShapes Go.ChangeAt Go.RowKit
theorem and_f {a b : Bool} (h : a = false) : (a && b) = false := by rw [h]; rfl
theorem and_t {a b : Bool} (h : a = true) : (a && b) = b := by rw [h]; rfl
def samePB (a b : Pr) : Bool := (a.name.toList == b.name.toList) && eqL sameB a.terms b.terms
set_option maxRecDepth 100000 in
set_option maxHeartbeats 2000000 in
theorem refSameJ_any {d : Nat} {a b : Tm} {va vb : List Value} {B : Nat} {w : World} (ha : (TmR d).rd w B a va) (hb : (TmR d).rd w B b vb) (hB : B ≤ w.heap.size) :
   Calls Tryz.prog 15 #[.agg va.toArray, .agg vb.toArray] w fun e w' => e = .returned (.bool (sameB a b)) ∧ Below w.heap.size w w' := by
 have HA := Lib.hid (And.intro ha hb)
 obtain ⟨A0, c0, rfl, _⟩ := RTm.cells ha
 obtain ⟨A0', c0', rfl, _⟩ := RTm.cells hb
 clear ha hb
 go_enter Tryz.func15, Tryz.ntmps15
 go_wp2_with fail
 generalize hW : World.alloc _ _ = w1
 obtain ⟨hb, hz⟩ := al2 hW
 have HB1 := Lib.hid hb
 clear hW hz hb
 refine (refCompare_any (d := d) (B := B) (a := a) (b := b) (va := [_, _, _, _]) (vb := [_, _, _, _]) (RTm.below HB1.out hB HA.out.1) (RTm.below HB1.out hB HA.out.2) (Nat.le_trans hB HB1.out.size)).mono ?_
 rintro x w2 ⟨rfl, hb⟩
 have HB2 := Lib.hid (bthen HB1.out hb)
 clear hb
 go_wp2_with fail
 go_ret
 exact ⟨ret_bool (by rw [sameB, Bool.eq_iff_iff]; simp), HB2.out⟩
set_option maxRecDepth 100000 in
set_option maxHeartbeats 2000000 in
theorem refSameTermsJ_any (d : Nat) (xs ys : List Tm) (A A' : Option Addr) (c c' B : Nat) (w : World) (hl : RL (TmR d) w B xs A) (hl' : RL (TmR d) w B ys A') (hB : B ≤ w.heap.size) (hn : xs.length ≤ 140737488351232) (hn' : ys.length ≤ 140737488351232) :
   Calls Tryz.prog 30 #[.slice A xs.length c, .slice A' ys.length c'] w fun e w' => e = .returned (.bool (eqL sameB xs ys)) ∧ Below w.heap.size w w' := by
 have hRk : (TmR d).k = 4 := rfl
 by_cases hne : xs.length = ys.length
 rotate_left
 · have h1 : ((xs.length : Int) != (ys.length : Int)) = true := by simp; omega
   have HN := Lib.hid hne
   clear hne
   go_enter Tryz.func30, Tryz.ntmps30
   go_wp2_with fail
   go_ret
   exact ⟨ret_bool (eqL_len HN.out).symm, Below.refl _ _⟩
 have h1 : ((xs.length : Int) != (ys.length : Int)) = false := by simp; omega
 have HN := Lib.hid hne
 clear hne
 go_enter Tryz.func30, Tryz.ntmps30
 go_wp2_with fail
 go_loopw [13] (fun i wr => ∃ k : Nat, k ≤ xs.length ∧ i = .int .i64 k ∧ Below w.heap.size w wr ∧ Hid (eqL sameB xs ys = eqL sameB (xs.drop k) (ys.drop k))) (fun i _ => xs.length - (intOf i).toNat)
 case atStart => exact ⟨0, Nat.zero_le _, rfl, Below.refl _ _, rfl⟩
 case round =>
   obtain ⟨k, hk, rfl, hbw, HE⟩ := hrel
   by_cases hlt : k < xs.length
   · have hlt2 : k < ys.length := by have := HN.out; omega
     obtain ⟨bq, off, rfl, hob⟩ := hl.base hbw hB (by omega)
     obtain ⟨bq', off', rfl, hob'⟩ := hl'.base hbw hB (by omega)
     obtain ⟨x, vs, hx, hlen, hcell, hr⟩ := hl.at_ hbw hB hlt
     obtain ⟨A0x, c0x, rfl, _⟩ := RTm.cells hr
     have p0 : wr.cell? ⟨bq, off + k * 4, none⟩ = some (.int .i64 x.kind) := by have := hcell 0 _ rfl; simpa [hRk] using this
     have p1 : wr.cell? ⟨bq, off + k * 4 + 1, none⟩ = some (.int .i64 x.n) := by have := hcell 1 _ rfl; simpa [hRk] using this
     have p2 : wr.cell? ⟨bq, off + k * 4 + 2, none⟩ = some (.string x.s) := by have := hcell 2 _ rfl; simpa [hRk] using this
     have p3 : wr.cell? ⟨bq, off + k * 4 + 3, none⟩ = some (.slice A0x x.l.length c0x) := by have := hcell 3 _ rfl; simpa [hRk] using this
     clear hcell hlen
     obtain ⟨y, vs, hy, hlen, hcell, hr'⟩ := hl'.at_ hbw hB hlt2
     obtain ⟨A0y, c0y, rfl, _⟩ := RTm.cells hr'
     have e0 : wr.cell? ⟨bq', off' + k * 4, none⟩ = some (.int .i64 y.kind) := by have := hcell 0 _ rfl; simpa [hRk] using this
     have e1 : wr.cell? ⟨bq', off' + k * 4 + 1, none⟩ = some (.int .i64 y.n) := by have := hcell 1 _ rfl; simpa [hRk] using this
     have e2 : wr.cell? ⟨bq', off' + k * 4 + 2, none⟩ = some (.string y.s) := by have := hcell 2 _ rfl; simpa [hRk] using this
     have e3 : wr.cell? ⟨bq', off' + k * 4 + 3, none⟩ = some (.slice A0y y.l.length c0y) := by have := hcell 3 _ rfl; simpa [hRk] using this
     clear hcell hlen
     have HE2 : Hid (eqL sameB xs ys = (sameB x y && eqL sameB (xs.drop (k + 1)) (ys.drop (k + 1)))) := by
       obtain ⟨h1, h2⟩ := List.getElem?_eq_some_iff.1 hx
       obtain ⟨h3, h4⟩ := List.getElem?_eq_some_iff.1 hy
       have := HE.out
       rw [List.drop_eq_getElem_cons h1, List.drop_eq_getElem_cons h3, h2, h4] at this
       exact this
     have HRR := Lib.hid (And.intro hr hr')
     have HBw := Lib.hid hbw
     have hBr : B ≤ wr.heap.size := by have := hbw.size; omega
     clear hx hy hr hr' HE hbw
     go_wp2_with fail
     have q0 := cell_regrown p0
     have q1 := cell_regrown p1
     have q2 := cell_regrown p2
     have q3 := cell_regrown p3
     have s0 := cell_regrown e0
     have s1 := cell_regrown e1
     have s2 := cell_regrown e2
     have s3 := cell_regrown e3
     clear p0 e0 p1 e1 p2 e2 p3 e3
     have hp : sameB x y = true ∨ sameB x y = false := by cases sameB x y <;> simp
     rcases hp with hp | hp
     all_goals
       have HP := Lib.hid hp
       rw [hp] at HE2
       clear hp
       refine wp_region_quiet_below (by kernel_rfl) (by kernel_rfl) ?_
       repeat (go_big_quiet_step ((go_at_call 15; exact Calls.regrown_of (as_bool HP.out (refSameJ_any (d := d) (B := B) (a := x) (b := y) (va := [_, _, _, _]) (vb := [_, _, _, _]) ((TmR d).keep (below_regrown _ _ _) hBr HRR.out.1) ((TmR d).keep (below_regrown _ _ _) hBr HRR.out.2) (Nat.le_trans hBr (below_regrown _ _ _).size))))))
       refine wpQuiet_nil ?_
       intro w3 hw3
       have hb3 : Below wr.heap.size wr w3 := by obtain ⟨p, rfl⟩ := hw3; exact below_regrown _ _ _
       clear hw3 q0 s0 q1 s1 q2 s2 q3 s3
       have HB3 := Lib.hid (bthen HBw.out hb3)
       clear hb3
     · go_wp2_with fail
       go_roundw
       case rel => exact ⟨k + 1, by omega, by go_num, HB3.out, by have := HE2.out; rw [Bool.true_and] at this; exact this⟩
       case measure => simp [intOf]; omega
     · go_wp2_with fail
       go_ret
       exact ⟨ret_bool (by rw [HE2.out]; rfl), HB3.out⟩
   · have HE2 : Hid (eqL sameB xs ys = true) := by
       have := HE.out
       rw [List.drop_eq_nil_iff.2 (show xs.length ≤ k by omega), List.drop_eq_nil_iff.2 (show ys.length ≤ k by have := HN.out; omega)] at this
       exact this
     clear HE
     go_wp2_with fail
     go_ret
     exact ⟨ret_bool HE2.out.symm, hbw⟩
set_option maxRecDepth 100000 in
set_option maxHeartbeats 2000000 in
theorem refSamePredJ_any {d : Nat} {a b : Pr} {va vb : List Value} {B : Nat} {w : World} (ha : (PrR d).rd w B a va) (hb : (PrR d).rd w B b vb) (hB : B ≤ w.heap.size) :
   Calls Tryz.prog 13 #[.agg va.toArray, .agg vb.toArray] w fun e w' => e = .returned (.bool (samePB a b)) ∧ Below w.heap.size w w' := by
 have HA := Lib.hid (And.intro ha hb)
 obtain ⟨_, rfl, hs, ⟨A0, c0, rfl, g0, h0, hl0⟩⟩ := id ha
 obtain ⟨_, rfl, hs', ⟨A0', c0', rfl, g0', h0', hl0'⟩⟩ := id hb
 simp only [TmR] at *
 have HL0 := Lib.hid hl0
 have HL0' := Lib.hid hl0'
 clear ha hb hl0 hl0'
 by_cases t1 : (a.name.toList == b.name.toList) = true
 rotate_left
 · simp only [Bool.not_eq_true] at t1
   have T1 := Lib.hid t1
   go_enter Tryz.func13, Tryz.ntmps13
   go_wp2_with fail
   go_ret
   refine ⟨ret_bool ?_, ((Below.refl _ _).alloc (Nat.le_refl _) _).alloc (by simp) _⟩
   unfold samePB
   rw [and_f (by first | exact T1.out | simpa using T1.out)]
 have T1 := Lib.hid t1
 go_enter Tryz.func13, Tryz.ntmps13
 go_wp2_with fail
 generalize hW : World.alloc _ _ = w1
 obtain ⟨hb, hz⟩ := al2 hW
 have b_a_1 := n21 hW
 have b_b_1 := n22 hW
 have HB1 := Lib.hid hb
 clear hW hz hb
 refine (refSameTermsJ_any d a.terms b.terms A0 A0' c0 c0' B _ (HL0.out.keep HB1.out hB) (HL0'.out.keep HB1.out hB) (Nat.le_trans hB HB1.out.size) (by omega) (by omega)).mono ?_
 rintro x w2 ⟨rfl, hb⟩
 have b_a_2 := b_a_1.later hb
 have b_b_2 := b_b_1.later hb
 have HB2 := Lib.hid (bthen HB1.out hb)
 clear b_a_1 b_b_1
 clear hb
 obtain ⟨bb, hbb⟩ : ∃ bb, bb = eqL sameB a.terms b.terms := ⟨_, rfl⟩
 have HBB := Lib.hid hbb
 rw [← hbb]
 clear hbb
 have k_a := b_a_2.cell
 have l_a := b_a_2.lt
 have k_b := b_b_2.cell
 have l_b := b_b_2.lt
 go_wp2_with fail
 clear k_a l_a k_b l_b
 go_ret
 refine ⟨ret_bool ?_, HB2.out⟩
 unfold samePB
 rw [and_t (by first | exact T1.out | simpa using T1.out), HBB.out]
def sameBdB (a b : Bd) : Bool := decide (a.names = b.names) && eqL sameB a.terms b.terms
set_option maxRecDepth 100000 in
set_option maxHeartbeats 4000000 in
theorem sameBind_any {d B cn ct cn' ct' : Nat} {a b : Bd} {An At An' At' : Option Addr} {w : World} (hn : RL StrR w B (a.names.map mkS) An) (ht : RL (TmR (d + 1)) w B a.terms At) (hn' : RL StrR w B (b.names.map mkS) An') (ht' : RL (TmR (d + 1)) w B b.terms At')
   (hl : a.names.length ≤ 1000000 ∧ b.names.length ≤ 1000000 ∧ a.terms.length ≤ 1000000 ∧ b.terms.length ≤ 1000000) (hB : B ≤ w.heap.size) :
   Calls Tryz.prog 12 #[.agg (bdV An a.names.length cn At a.terms.length ct), .agg (bdV An' b.names.length cn' At' b.terms.length ct')] w fun z w' => z = .returned (.bool (sameBdB a b)) ∧ Below w.heap.size w w' := by
 have HN := Lib.hid hn
 have HT := Lib.hid ht
 have HN' := Lib.hid hn'
 have HT' := Lib.hid ht'
 obtain ⟨l1, l2, l3, l4⟩ := hl
 clear hn ht hn' ht'
 unfold bdV
 go_enter Tryz.func12, Tryz.ntmps12
 by_cases hlen : a.names.length = b.names.length
 rotate_left
 · have q1 : ((a.names.length : Int) != b.names.length) = true := by simp; omega
   have HNO : Hid (sameBdB a b = false) := Lib.hid (by unfold sameBdB; rw [decide_eq_false (fun e => hlen (by rw [e]))]; rfl)
   clear hlen
   go_wp2_with fail
   go_ret
   refine ⟨ret_bool ?_, (al2 rfl).1⟩
   rw [HNO.out]
 have q1 : ((a.names.length : Int) != b.names.length) = false := by simp [hlen]
 have HLEN := Lib.hid hlen
 clear hlen
 go_upto_region 4 with fail
 generalize hW : World.alloc _ _ = w1
 obtain ⟨hb, hz⟩ := al2 hW
 have HBA := Lib.hid (n21 hW)
 have HBB := Lib.hid (n22 hW)
 have HB1 := Lib.hid hb
 have hsz1 := hb.size
 clear hW hb
 go_loopw [16] (fun i wr => ∃ k : Nat, k ≤ a.names.length ∧ i = .int .i64 k ∧ Hid (Below w1.heap.size w1 wr) ∧ Hid (a.names.take k = b.names.take k)) (fun i _ => a.names.length - (intOf i).toNat)
 case atStart => exact ⟨0, Nat.zero_le _, rfl, Lib.hid (Below.refl _ _), Lib.hid rfl⟩
 case round =>
   obtain ⟨k, hk, rfl, HWR, HTK⟩ := hrel
   have hszr := HWR.out.size
   have HBw : Hid (Below w.heap.size w wr) := Lib.hid (HB1.out.trans (HWR.out.mono hsz1))
   have hBr : B ≤ wr.heap.size := by omega
   have HBAr := Lib.hid (HBA.out.later HWR.out)
   have HBBr := Lib.hid (HBB.out.later HWR.out)
   by_cases hlt : k < a.names.length
   · have hlt2 : k < b.names.length := by rw [← HLEN.out]; exact hlt
     obtain ⟨bn_, offn, rfl, hobn, hcn⟩ := strs_at (HN.out.keep HBw.out hB) (Below.refl _ _) hBr (by omega)
     obtain ⟨bm_, offm, rfl, hobm, hcm⟩ := strs_at (HN'.out.keep HBw.out hB) (Below.refl _ _) hBr (by omega)
     have c0 := hcn k hlt
     have c1 := hcm k hlt2
     have q0 := cell_regrown c0
     have q2 := cell_regrown c1
     have q_a := HBAr.out.regrown
     have q_b := HBBr.out.regrown
     have hI0 : (0 : Int) ≤ (k : Int) := Int.natCast_nonneg _
     have hI1 : (k : Int) < (a.names.length : Int) := by omega
     have hI2 : (k : Int) < (b.names.length : Int) := by omega
     clear hcn hcm c0 c1
     by_cases he : a.names[k] = b.names[k]
     · have g1 : ((mkS a.names[k]).toList == (mkS b.names[k]).toList) = true := by rw [same_iff, he]; simp
       have HE := Lib.hid he
       clear he
       generalize mkS a.names[k] = na at *
       generalize mkS b.names[k] = nb at *
       go_upto_region 6 with fail
       refine wp_region_quiet_below (by kernel_rfl) (by kernel_rfl) ?_
       repeat (go_big_quiet_step (fail))
       refine wpQuiet_nil ?_
       intro w3 hw3
       have hb3 : Below wr.heap.size wr w3 := by obtain ⟨p, rfl⟩ := hw3; exact below_regrown _ _ _
       clear hw3 q0 q2 q_a q_b
       have HB3 := Lib.hid (bthen HWR.out hb3)
       have HBw3 : Hid (Below w.heap.size w w3) := Lib.hid (HBw.out.trans (hb3.mono HBw.out.size))
       clear hb3
       go_wp2_with fail
       go_roundw
       case rel => exact ⟨k + 1, by omega, by go_num, HB3, Lib.hid (by rw [← List.take_append_getElem hlt, ← List.take_append_getElem hlt2, HTK.out, HE.out])⟩
       case measure => simp [intOf]; omega
     · have g1 : ((mkS a.names[k]).toList == (mkS b.names[k]).toList) = false := by rw [same_iff, bs_mkS, bs_mkS]; simpa using he
       have HNO : Hid (sameBdB a b = false) := Lib.hid (by unfold sameBdB; rw [decide_eq_false (fun e => he (by simp only [e]))]; rfl)
       clear he
       generalize mkS a.names[k] = na at *
       generalize mkS b.names[k] = nb at *
       go_upto_region 6 with fail
       refine wp_region_quiet_below (by kernel_rfl) (by kernel_rfl) ?_
       repeat (go_big_quiet_step (fail))
       refine wpQuiet_nil ?_
       intro w3 hw3
       have hb3 : Below wr.heap.size wr w3 := by obtain ⟨p, rfl⟩ := hw3; exact below_regrown _ _ _
       clear hw3 q0 q2 q_a q_b
       have HB3 := Lib.hid (bthen HWR.out hb3)
       have HBw3 : Hid (Below w.heap.size w w3) := Lib.hid (HBw.out.trans (hb3.mono HBw.out.size))
       clear hb3
       go_wp2_with fail
       go_ret
       refine ⟨ret_bool ?_, HBw3.out⟩
       rw [HNO.out]
   · have HEQ : Hid (a.names = b.names) := Lib.hid (by have := HTK.out; rwa [List.take_of_length_le (by omega), List.take_of_length_le (by have := HLEN.out; omega)] at this)
     have k_a := HBAr.out.cell
     have l_a := HBAr.out.lt
     have k_b := HBBr.out.cell
     have l_b := HBBr.out.lt
     go_wp2_with fail
     refine (refSameTermsJ_any (d + 1) a.terms b.terms At At' ct ct' B wr (HT.out.keep HBw.out hB) (HT'.out.keep HBw.out hB) hBr (by omega) (by omega)).mono ?_
     rintro e w4 ⟨rfl, hb⟩
     have HB4 : Hid (Below w.heap.size w w4) := Lib.hid (HBw.out.trans (hb.mono HBw.out.size))
     clear k_a l_a k_b l_b hb
     go_wp2_with fail
     go_ret
     refine ⟨ret_bool ?_, HB4.out⟩
     unfold sameBdB
     rw [decide_eq_true HEQ.out]
     rfl
end Go.Proofs.YtkdonhhbpacgmaaGreat
