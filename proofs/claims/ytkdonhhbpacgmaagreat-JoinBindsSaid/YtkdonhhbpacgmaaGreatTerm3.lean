/- term.compared, term.Compare, term.Same. -/
import Derived.Test.YtkdonhhbpacgmaaGreatTerm2
set_option linter.unusedVariables false
set_option linter.unusedSimpArgs false
namespace Go.Proofs.YtkdonhhbpacgmaaGreat
open Go.ChangeShapes Go.WideShapes Go.ChangeAt Go.RowKit
theorem flip_ {P : Program} {f : FuncId} {args : Array Value} {w : World} {v : Ending} (h : Calls P f args w fun e w' => e = v ∧ w = w') : Calls P f args w fun e w' => e = v ∧ w' = w :=
 h.mono fun _ _ h => ⟨h.1, h.2.symm⟩
theorem wp_region_still_tail' {P : Program} {id : Nat} {Q : Exit → Act → World → Prop} {a : Act} {w : World} {l : List Oper} (n : Nat) (hm : P.follows .mixedOrders = true) (hB : Region.lexTailB .any l.toArray n = true)
   (h : wpStill P l.toArray w.drew (fun a' => wpList P l.toArray Q (l.drop n) a' w.drew) (l.take n) a) : (Code.region id l.toArray true).wp P Q a w :=
 wp_region_still_tail n hm hB h
theorem below4 (w : World) (o1 o2 o3 o4 : Obj) : Below w.heap.size w ((((w.alloc o1).alloc o2).alloc o3).alloc o4).drew :=
 ((((((Below.refl _ _).alloc (Nat.le_refl _) _).alloc (by simp) _).alloc (by simp; omega) _).alloc (by simp; omega) _)).drew
theorem enters90 : ∀ args (w : World), (callFunc 152 args).run Tryz.prog w = .ok (.enter 152 args) w := ent Tryz.func152 (by kernel_rfl) rfl
set_option maxRecDepth 100000 in
set_option maxHeartbeats 400000 in
theorem comparedC_any (d : Nat) (hd : d ≤ 100) (ih : ∀ (da db : Nat) (a b : Tm) (vs ws : List Value) (B : Nat) (w : World), RTm w B da a vs → RTm w B db b ws → B ≤ w.heap.size →
   Calls Tryz.prog 126 #[.agg vs.toArray, .agg ws.toArray, .int .i64 d] w fun e w' => e = .returned (.int .i64 (cmpT d a b)) ∧ Below w.heap.size w w')
   (da db : Nat) (a b : Tm) (vs ws : List Value) (G B : Nat) (w : World) (hG : w.cell? ⟨G, 0, none⟩ = some (.int .i64 (d + 1))) (ha : RTm w B da a vs) (hb : RTm w B db b ws) (hB : B ≤ w.heap.size) :
   Calls Tryz.prog 152 #[.agg vs.toArray, .agg ws.toArray, .pointer (some ⟨G, 0, none⟩)] w fun e w' => e = .returned (.int .i64 (cmpT d a b)) ∧ Below w.heap.size w w' := by
 have HI := Lib.hid ih
 clear ih
 obtain ⟨A, c, rfl, _⟩ := ha.cells
 obtain ⟨A', c', rfl, _⟩ := hb.cells
 have hGl : G < w.heap.size := block_lt_of_cell hG
 go_enter Tryz.func152, Tryz.ntmps152
 have hbel : Below w.heap.size w ((w.alloc (.cells #[.int .i64 a.kind, .int .i64 a.n, .string a.s, .slice A a.l.length c] 44)).alloc (.cells #[.int .i64 b.kind, .int .i64 b.n, .string b.s, .slice A' b.l.length c'] 44)) :=
   ((Below.refl _ _).alloc (Nat.le_refl _) _).alloc (by simp) _
 have HB := Lib.hid hbel
 clear hbel
 go_wp2_with fail
 refine (HI.out da db a b [_, _, _, _] [_, _, _, _] B _ (ha.below HB.out hB) (hb.below HB.out hB) (Nat.le_trans hB HB.out.size)).mono ?_
 rintro e w1 ⟨rfl, hb1⟩
 have hfin := Lib.hid (HB.out.trans (hb1.mono HB.out.size))
 clear hb1
 go_wp2_with fail
 go_ret
 exact ⟨rfl, hfin.out⟩
set_option maxRecDepth 100000 in
set_option maxHeartbeats 2000000 in
theorem compared_any (d : Nat) (hd : d ≤ 100) : ∀ (da db : Nat) (a b : Tm) (vs ws : List Value) (B : Nat) (w : World), RTm w B da a vs → RTm w B db b ws → B ≤ w.heap.size →
   Calls Tryz.prog 126 #[.agg vs.toArray, .agg ws.toArray, .int .i64 d] w fun e w' => e = .returned (.int .i64 (cmpT d a b)) ∧ Below w.heap.size w w' := by
 induction d with
 | zero =>
   intro da db a b vs ws B w ha hb hB
   obtain ⟨A, c, rfl, _⟩ := ha.cells
   obtain ⟨A', c', rfl, _⟩ := hb.cells
   show Calls _ _ #[_, _, .int .i64 0] _ _
   go_enter Tryz.func126, Tryz.ntmps126
   go_wp2_with fail
   refine wp_region_still_tail' 15 (by kernel_rfl) (by kernel_rfl) ?_
   simp only [List.take_succ_cons, List.take_zero, List.drop_succ_cons, List.drop_zero]
   repeat still_step
   still_call (flip_ (cmpInt_any _ _ _))
   repeat still_step
   still_call (flip_ (cmpInt64_any _ _ _))
   repeat still_step
   still_call (flip_ (cmpStr_any _ _ _))
   refine wpStill_nil ?_
   go_wp2_with fail
   refine (orInt_any (cmpI a.kind b.kind) (cmpI a.n b.n) (cmpS (bs a.s) (bs b.s)) _ _ (by go_simp) (by go_simp) (by go_simp)).mono ?_
   rintro e w' ⟨rfl, rfl⟩
   by_cases hz : (cmp3 a b != 0) = true
   all_goals (unfold cmp3 at hz; try rw [Bool.not_eq_true] at hz)
   all_goals
     go_wp2_with fail
     go_ret
     exact ⟨rfl, below4 _ _ _ _ _⟩
 | succ d ih =>
   intro da db a b vs ws B w ha hb hB
   obtain ⟨A, c, rfl, _⟩ := ha.cells
   obtain ⟨A', c', rfl, _⟩ := hb.cells
   go_enter Tryz.func126, Tryz.ntmps126
   go_wp2_with fail
   refine wp_region_still_tail' 15 (by kernel_rfl) (by kernel_rfl) ?_
   simp only [List.take_succ_cons, List.take_zero, List.drop_succ_cons, List.drop_zero]
   repeat still_step
   still_call (flip_ (cmpInt_any _ _ _))
   repeat still_step
   still_call (flip_ (cmpInt64_any _ _ _))
   repeat still_step
   still_call (flip_ (cmpStr_any _ _ _))
   refine wpStill_nil ?_
   go_wp2_with fail
   refine (orInt_any (cmpI a.kind b.kind) (cmpI a.n b.n) (cmpS (bs a.s) (bs b.s)) _ _ (by go_simp) (by go_simp) (by go_simp)).mono ?_
   rintro e w' ⟨rfl, rfl⟩
   have hd0 : (((d + 1 : Nat) : Int) == 0) = false := by simp; omega
   by_cases hz : (cmp3 a b != 0) = true
   all_goals (have HZ := Lib.hid hz; unfold cmp3 at hz; try rw [Bool.not_eq_true] at hz)
   · go_wp2_with fail
     go_ret
     exact ⟨ret_int (by rw [cmpT, if_neg (by simpa using HZ.out)]; rfl), below4 _ _ _ _ _⟩
   · go_wp2_with fail
     obtain ⟨_, _, e1, a1, a2, a3, a4, a5, hA⟩ := ha.cells
     obtain ⟨rfl, rfl⟩ : _ ∧ _ := by simpa using e1
     obtain ⟨_, _, e2, b1, b2, b3, b4, b5, hB'⟩ := hb.cells
     obtain ⟨rfl, rfl⟩ : _ ∧ _ := by simpa using e2
     have hbel := below4 w (.cells #[.int .i64 a.kind, .int .i64 a.n, .string a.s, .slice A a.l.length c] 44) (.cells #[.int .i64 b.kind, .int .i64 b.n, .string b.s, .slice A' b.l.length c'] 44)
       (.cells #[.int .i64 (d + 1)] 3) (.cells #[.int .i64 (cmpI a.kind b.kind), .int .i64 (cmpI a.n b.n), .int .i64 (cmpS (bs a.s) (bs b.s))] 3)
     refine (compareFunc_any 152 _ (cmpT d) (da - 1) (db - 1) a.l b.l A A' c c' B _ enters90 (hA.below hbel hB) (hB'.below hbel hB) (Nat.le_trans hB hbel.size) (by omega) (by omega) ?_).mono ?_
     · intro x y vs ws w1 hb1 hx hy
       refine (comparedC_any d (by omega) (fun da db a b vs ws B w h1 h2 h3 => ih (by omega) da db a b vs ws B w h1 h2 h3) _ _ x y vs ws _ B w1 ((hb1.cell (by simp)).trans (by go_simp)) hx hy (Nat.le_trans hB (Nat.le_trans hbel.size hb1.size)))
     · rintro e w1 ⟨rfl, hb1⟩
       have hfin := hbel.trans (hb1.mono hbel.size)
       clear hb1 hbel
       go_wp2_with fail
       go_ret
       exact ⟨ret_int (by rw [cmpT, if_pos (by simpa using HZ.out)]), hfin⟩
set_option maxRecDepth 100000 in
set_option maxHeartbeats 400000 in
theorem compare_any (da db : Nat) (a b : Tm) (vs ws : List Value) (B : Nat) (w : World) (ha : RTm w B da a vs) (hb : RTm w B db b ws) (hB : B ≤ w.heap.size) :
   Calls Tryz.prog 79 #[.agg vs.toArray, .agg ws.toArray] w fun e w' => e = .returned (.int .i64 (cmpT 3 a b)) ∧ Below w.heap.size w w' := by
 obtain ⟨A, c, rfl, _⟩ := ha.cells
 obtain ⟨A', c', rfl, _⟩ := hb.cells
 have hbel : Below w.heap.size w ((w.alloc (.cells #[.int .i64 a.kind, .int .i64 a.n, .string a.s, .slice A a.l.length c] 44)).alloc (.cells #[.int .i64 b.kind, .int .i64 b.n, .string b.s, .slice A' b.l.length c'] 44)) :=
   ((Below.refl _ _).alloc (Nat.le_refl _) _).alloc (by simp) _
 have HB := Lib.hid hbel
 clear hbel
 go_enter Tryz.func79, Tryz.ntmps79
 go_wp2_with fail
 refine (compared_any 3 (by omega) da db a b [_, _, _, _] [_, _, _, _] B _ (ha.below HB.out hB) (hb.below HB.out hB) (Nat.le_trans hB HB.out.size)).mono ?_
 rintro e w1 ⟨rfl, hb1⟩
 have hfin := Lib.hid (HB.out.trans (hb1.mono HB.out.size))
 clear hb1
 go_wp2_with fail
 go_ret
 exact ⟨rfl, hfin.out⟩
end Go.Proofs.YtkdonhhbpacgmaaGreat
