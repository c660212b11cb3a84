/- Two expressions and an operation are one: the plain law. -/
import Derived.Test.YtiplipdigabidaaGreatRef1
import Derived.Test.YtiplipdigabidaaGreatEv4
import Derived.Test.YtiplipdigabidaaGreatEvSpec
import Derived.Test.YtiplipdigabidaaGreatAwake12
set_option linter.unusedVariables false
set_option linter.unusedSimpArgs false
namespace Go.Proofs.YtiplipdigabidaaGreat
open Go.ChangeShapes Go.WideShapes Go.ChangeAt Go.RowKit
set_option maxRecDepth 100000 in
set_option maxHeartbeats 2000000 in
theorem size_any : ∀ (dp : Nat), dp ≤ 6 → ∀ (d B : Nat) (ts : List Tm) (A : Option Addr) (c : Nat) (n0 : Int) (w : World), RL (TmR d) w B ts A → B ≤ w.heap.size → ts.length ≤ 140737488351232 → 0 ≤ n0 → n0 < 100 →
   Calls Tryz.prog 58 #[.slice A ts.length c, .int .i64 n0, .int .i64 (dp : Int)] w fun e w' => (∃ m : Int, e = .returned (.int .i64 m) ∧ 0 ≤ m ∧ m ≤ 100) ∧ Below w.heap.size w w' := by
 intro dp
 induction dp with
 | zero =>
   intro _ d B ts A c n0 w hl hB hn h0 h1
   have hdp0 : ¬ (((0 : Nat) : Int) > 0) := by omega
   go_enter Tryz.func58, Tryz.ntmps58
   go_wp2_with fail
   go_loopw [1, 11] (fun v i wr => ∃ (k : Nat) (n : Int), k ≤ ts.length ∧ i = .int .i64 k ∧ v = .int .i64 n ∧ 0 ≤ n ∧ n < 100 ∧ Below w.heap.size w wr) (fun _ i _ => ts.length - (intOf i).toNat)
   case atStart => exact ⟨0, n0, Nat.zero_le _, rfl, rfl, h0, h1, Below.refl _ _⟩
   case round =>
     obtain ⟨k, n, hk, rfl, rfl, hn0, hn1, hbw⟩ := hrel
     by_cases hlt : k < ts.length
     · obtain ⟨b, off, rfl, hb⟩ := hl.base hbw hB (by omega)
       obtain ⟨t, vs, hx, hlen, hcell, hr⟩ := hl.at0 hbw hB hlt
       obtain ⟨Ax, cx, rfl, g1, g2, g3, g4, g5, hrl⟩ := RTm.cells hr
       have c0 : wr.cell? ⟨b, off + k * 4, none⟩ = some (.int .i64 t.kind) := hcell 0 _ rfl
       have c1 : wr.cell? ⟨b, off + k * 4 + 1, none⟩ = some (.int .i64 t.n) := hcell 1 _ rfl
       have c2 : wr.cell? ⟨b, off + k * 4 + 2, none⟩ = some (.string t.s) := hcell 2 _ rfl
       have c3 : wr.cell? ⟨b, off + k * 4 + 3, none⟩ = some (.slice Ax t.l.length cx) := hcell 3 _ rfl
       have hszr := hbw.size
       have HB := Lib.hid (fun o : Obj => hbw.alloc hszr o)
       clear hcell hlen hx hr
       go_wp2_with fail
       · go_ret
         exact ⟨⟨100, rfl, by omega, by omega⟩, HB.out _⟩
       · go_roundw
         case rel => exact ⟨k + 1, _, by omega, by go_num, rfl, by omega, by omega, HB.out _⟩
         case measure => simp [intOf]; omega
       · go_ret
         exact ⟨⟨100, rfl, by omega, by omega⟩, HB.out _⟩
     · go_wp2_with fail
       go_ret
       exact ⟨⟨n, rfl, hn0, by omega⟩, hbw⟩
 | succ dp ih =>
   intro hdp d B ts A c n0 w hl hB hn h0 h1
   have IH := Lib.hid (ih (by omega))
   clear ih
   have hdp0 : ((dp + 1 : Nat) : Int) > 0 := by omega
   have hdp1 : (((dp + 1 : Nat) : Int) == 0) = false := by simp; omega
   have hdp2 : ((dp + 1 : Nat) : Int) - 1 = (dp : Int) := by omega
   have hdp3 : ((dp + 1 : Nat) : Int) ≤ 6 := by omega
   have HDP := Lib.hid hdp2
   generalize hD : ((dp + 1 : Nat) : Int) = D at *
   clear hD hdp2
   go_enter Tryz.func58, Tryz.ntmps58
   go_wp2_with fail
   go_loopw [1, 11] (fun v i wr => ∃ (k : Nat) (n : Int), k ≤ ts.length ∧ i = .int .i64 k ∧ v = .int .i64 n ∧ 0 ≤ n ∧ n < 100 ∧ Below w.heap.size w wr) (fun _ i _ => ts.length - (intOf i).toNat)
   case atStart => exact ⟨0, n0, Nat.zero_le _, rfl, rfl, h0, h1, Below.refl _ _⟩
   case round =>
     obtain ⟨k, n, hk, rfl, rfl, hn0, hn1, hbw⟩ := hrel
     by_cases hlt : k < ts.length
     · obtain ⟨b, off, rfl, hb⟩ := hl.base hbw hB (by omega)
       obtain ⟨t, vs, hx, hlen, hcell, hr⟩ := hl.at0 hbw hB hlt
       obtain ⟨Ax, cx, rfl, g1, g2, g3, g4, g5, hrl⟩ := RTm.cells hr
       have c0 : wr.cell? ⟨b, off + k * 4, none⟩ = some (.int .i64 t.kind) := hcell 0 _ rfl
       have c1 : wr.cell? ⟨b, off + k * 4 + 1, none⟩ = some (.int .i64 t.n) := hcell 1 _ rfl
       have c2 : wr.cell? ⟨b, off + k * 4 + 2, none⟩ = some (.string t.s) := hcell 2 _ rfl
       have c3 : wr.cell? ⟨b, off + k * 4 + 3, none⟩ = some (.slice Ax t.l.length cx) := hcell 3 _ rfl
       have hszr := hbw.size
       have HB := Lib.hid (fun o : Obj => hbw.alloc hszr o)
       clear hcell hlen hx hr
       go_wp2_with fail
       · rw [HDP.out]
         refine (IH.out (d - 1) B t.l Ax cx _ _ ((RTms.rl hrl).keep (HB.out _) hB) (Nat.le_trans hB (HB.out _).size) (by omega) (by omega) (by omega)).mono ?_
         rintro e w1 ⟨⟨m, rfl, hm0, hm1⟩, hb1⟩
         have HB1 := Lib.hid ((HB.out _).trans (hb1.mono (HB.out _).size))
         clear hb1
         go_wp2_with fail
         · go_roundw
           case rel => exact ⟨k + 1, m, by omega, by go_num, rfl, by omega, by omega, HB1.out⟩
           case measure => simp [intOf]; omega
         · go_ret
           exact ⟨⟨100, rfl, by omega, by omega⟩, HB1.out⟩
       · go_ret
         exact ⟨⟨100, rfl, by omega, by omega⟩, HB.out _⟩
     · go_wp2_with fail
       go_ret
       exact ⟨⟨n, rfl, hn0, by omega⟩, hbw⟩
set_option maxRecDepth 100000 in
set_option maxHeartbeats 2000000 in
theorem bigSize_any {d B : Nat} {t : Tm} {vs : List Value} {w : World} (hr : RTm w B d t vs) (hB : B ≤ w.heap.size) :
   Calls Tryz.prog 29 #[.agg vs.toArray] w fun e w' => (∃ m : Int, e = .returned (.int .i64 m) ∧ 0 ≤ m ∧ m ≤ 100) ∧ Below w.heap.size w w' := by
 have HR := Lib.hid hr
 obtain ⟨Ax, cx, rfl, g1, g2, g3, g4, g5, hrl⟩ := RTm.cells hr
 have HB := Lib.hid (fun o : Obj => (Below.refl w.heap.size w).alloc (Nat.le_refl _) o)
 clear hr hrl
 go_enter Tryz.func29, Tryz.ntmps29
 go_wp2_with fail
 have HW := Lib.hid ((HB.out (.cells #[.int .i64 t.kind, .int .i64 t.n, .string t.s, .slice Ax t.l.length cx] 33)).trans ((Below.refl (w.alloc (.cells #[.int .i64 t.kind, .int .i64 t.n, .string t.s, .slice Ax t.l.length cx] 33)).heap.size (w.alloc (.cells #[.int .i64 t.kind, .int .i64 t.n, .string t.s, .slice Ax t.l.length cx] 33))).alloc (Nat.le_refl _) (.cells #[.int .i64 t.kind, .int .i64 t.n, .string t.s, .slice Ax t.l.length cx] 33) |>.mono (HB.out (.cells #[.int .i64 t.kind, .int .i64 t.n, .string t.s, .slice Ax t.l.length cx] 33)).size))
 have y0 : ((w.alloc (.cells #[.int .i64 t.kind, .int .i64 t.n, .string t.s, .slice Ax t.l.length cx] 33)).alloc (.cells #[.int .i64 t.kind, .int .i64 t.n, .string t.s, .slice Ax t.l.length cx] 33)).cell? ⟨w.heap.size + 1, 0, none⟩ = some (.int .i64 t.kind) := by go_simp
 have y1 : ((w.alloc (.cells #[.int .i64 t.kind, .int .i64 t.n, .string t.s, .slice Ax t.l.length cx] 33)).alloc (.cells #[.int .i64 t.kind, .int .i64 t.n, .string t.s, .slice Ax t.l.length cx] 33)).cell? ⟨w.heap.size + 1, 1, none⟩ = some (.int .i64 t.n) := by go_simp
 have y2 : ((w.alloc (.cells #[.int .i64 t.kind, .int .i64 t.n, .string t.s, .slice Ax t.l.length cx] 33)).alloc (.cells #[.int .i64 t.kind, .int .i64 t.n, .string t.s, .slice Ax t.l.length cx] 33)).cell? ⟨w.heap.size + 1, 2, none⟩ = some (.string t.s) := by go_simp
 have y3 : ((w.alloc (.cells #[.int .i64 t.kind, .int .i64 t.n, .string t.s, .slice Ax t.l.length cx] 33)).alloc (.cells #[.int .i64 t.kind, .int .i64 t.n, .string t.s, .slice Ax t.l.length cx] 33)).cell? ⟨w.heap.size + 1, 3, none⟩ = some (.slice Ax t.l.length cx) := by go_simp
 have ysz : w.heap.size + 1 < ((w.alloc (.cells #[.int .i64 t.kind, .int .i64 t.n, .string t.s, .slice Ax t.l.length cx] 33)).alloc (.cells #[.int .i64 t.kind, .int .i64 t.n, .string t.s, .slice Ax t.l.length cx] 33)).heap.size := by go_simp
 generalize ((w.alloc (.cells #[.int .i64 t.kind, .int .i64 t.n, .string t.s, .slice Ax t.l.length cx] 33)).alloc (.cells #[.int .i64 t.kind, .int .i64 t.n, .string t.s, .slice Ax t.l.length cx] 33)) = W at *
 have hl : RL (TmR d) W W.heap.size [t] (some ⟨w.heap.size + 1, 0, none⟩) := RL.one (x := t) ysz ((TmR d).wide (Nat.le_trans hB HW.out.size) ((TmR d).keep HW.out hB HR.out)) (fun j v hv => by
   rcases j with _ | _ | _ | _ | j
   · simp only [List.getElem?_cons_zero, Option.some.injEq] at hv; rw [← hv]; exact y0
   · simp only [List.getElem?_cons_succ, List.getElem?_cons_zero, Option.some.injEq] at hv; rw [← hv]; exact y1
   · simp only [List.getElem?_cons_succ, List.getElem?_cons_zero, Option.some.injEq] at hv; rw [← hv]; exact y2
   · simp only [List.getElem?_cons_succ, List.getElem?_cons_zero, Option.some.injEq] at hv; rw [← hv]; exact y3
   · simp at hv)
 refine (size_any 6 (by omega) d _ [t] _ 1 0 W hl (Nat.le_refl _) (by simp) (by omega) (by omega)).mono ?_
 rintro e w1 ⟨⟨m, rfl, hm0, hm1⟩, hb1⟩
 have HB1 := Lib.hid (HW.out.trans (hb1.mono HW.out.size))
 clear hb1
 go_wp2_with fail
 go_ret
 exact ⟨⟨m, rfl, hm0, hm1⟩, HB1.out⟩
open Go.ChangeShapes Go.WideShapes Go.ChangeAt Go.RowKit
set_option maxRecDepth 100000 in
set_option maxHeartbeats 2000000 in
theorem light12_any {d B : Nat} {e : List OpD} {vs : List Value} {w : World} (he : (ExR d).rd w B e vs) (hB : B ≤ w.heap.size) :
   Calls Tryz.prog 9 #[.agg vs.toArray] w fun z w' => (∃ q : Bool, z = .returned (.bool q)) ∧ Below w.heap.size w w' := by
 obtain ⟨_, rfl, A, c, rfl, hc1, hc2, hl⟩ := he
 have HL := Lib.hid hl
 simp only [OpR] at hc2
 clear hl
 by_cases hn : e.length ≤ 100
 · have hn' : decide ((e.length : Int) > 100) = false := by simp; omega
   go_enter Tryz.func9, Tryz.ntmps9
   go_wp2_with fail
   go_loopw [12] (fun i wr => ∃ k : Nat, k ≤ e.length ∧ i = .int .i64 k ∧ Below w.heap.size w wr) (fun i _ => e.length - (intOf i).toNat)
   case atStart => exact ⟨0, Nat.zero_le _, rfl, below_new rfl⟩
   case round =>
     obtain ⟨k, hk, rfl, hbw⟩ := hrel
     by_cases hlt : k < e.length
     · obtain ⟨bo, oo, rfl, hob⟩ := HL.out.base hbw hB (by omega)
       obtain ⟨o, vs, ho, hlen, hcell, hr⟩ := HL.out.at_ hbw hB hlt
       obtain ⟨Aq, cq, rfl, _, _, _, ht⟩ := OpR.cells (show (OpR d).rd wr B o vs from hr)
       have d0 : wr.cell? ⟨bo, oo + k * 7, none⟩ = some (.int .i64 o.kind) := hcell 0 _ rfl
       have d1 : wr.cell? ⟨bo, oo + k * 7 + 1, none⟩ = some (.int .i64 o.term.kind) := hcell 1 _ rfl
       have d2 : wr.cell? ⟨bo, oo + k * 7 + 2, none⟩ = some (.int .i64 o.term.n) := hcell 2 _ rfl
       have d3 : wr.cell? ⟨bo, oo + k * 7 + 3, none⟩ = some (.string o.term.s) := hcell 3 _ rfl
       have d4 : wr.cell? ⟨bo, oo + k * 7 + 4, none⟩ = some (.slice Aq o.term.l.length cq) := hcell 4 _ rfl
       have d5 : wr.cell? ⟨bo, oo + k * 7 + 5, none⟩ = some (.int .i64 o.code) := hcell 5 _ rfl
       have d6 : wr.cell? ⟨bo, oo + k * 7 + 6, none⟩ = some (.int .i64 o.skip) := hcell 6 _ rfl
       have hszr := hbw.size
       have HR := Lib.hid ht
       have HBW := Lib.hid hbw
       have hBr : B ≤ wr.heap.size := Nat.le_trans hB hszr
       clear hcell hlen ho hr ht hbw
       go_wp2_with fail
       generalize hW : World.alloc _ _ = W
       obtain ⟨hb1, hz⟩ := al1 hW
       have HB1 := Lib.hid hb1
       clear hW hb1 d0 d1 d2 d3 d4 d5 d6
       refine (bigSize_any (d := d) (B := B) (t := o.term) (vs := [_, _, _, _]) ((TmR d).keep HB1.out hBr HR.out) (Nat.le_trans hBr HB1.out.size)).mono ?_
       rintro z w3 ⟨⟨m, rfl, hm0, hm1⟩, hb3⟩
       have HB3 := Lib.hid (bthen HBW.out (bthen HB1.out hb3))
       clear hb3
       go_wp2_with fail
       · go_ret
         exact ⟨⟨false, rfl⟩, HB3.out⟩
       · go_roundw
         case rel => exact ⟨k + 1, by omega, by go_num, HB3.out⟩
         case measure => simp [intOf]; omega
     · go_wp2_with fail
       go_ret
       exact ⟨⟨true, rfl⟩, hbw⟩
 · have hn' : decide ((e.length : Int) > 100) = true := by simp; omega
   go_enter Tryz.func9, Tryz.ntmps9
   go_wp2_with fail
   go_ret
   exact ⟨⟨false, rfl⟩, below_new rfl⟩
set_option maxRecDepth 100000 in
set_option maxHeartbeats 2000000 in
theorem lightBind_any {d B cn ct : Nat} {b : Bd} {An At : Option Addr} {w : World} (hn : b.names.length * 8 ≤ 140737488351232) (ht : RL (TmR d) w B b.terms At) (ht1 : b.terms.length * 32 ≤ 140737488351232) (hB : B ≤ w.heap.size) :
   Calls Tryz.prog 10 #[.agg (bdV An b.names.length cn At b.terms.length ct)] w fun z w' => (∃ q : Bool, z = .returned (.bool q)) ∧ Below w.heap.size w w' := by
 have HT := Lib.hid ht
 clear ht
 unfold bdV
 go_enter Tryz.func10, Tryz.ntmps10
 go_wp2_with fail
 go_loopw [3, 12] (fun v i wr => ∃ (k : Nat) (n : Int), k ≤ b.terms.length ∧ i = .int .i64 k ∧ v = .int .i64 n ∧ 0 ≤ n ∧ n ≤ 140737488351232 ∧ Below w.heap.size w wr) (fun _ i _ => b.terms.length - (intOf i).toNat)
 case atStart => exact ⟨0, _, Nat.zero_le _, rfl, rfl, by omega, by omega, below_new rfl⟩
 case round =>
   obtain ⟨k, n, hk, rfl, rfl, hn0, hn1, hbw⟩ := hrel
   by_cases hlt : k < b.terms.length
   · obtain ⟨bt, ot, rfl, hob⟩ := HT.out.base hbw hB (by omega)
     obtain ⟨t, vs, hx, hlen, hcell, hr⟩ := HT.out.at_ hbw hB hlt
     have hr' := hr
     obtain ⟨Ax, cx, rfl, g1, g2, g3, g4, g5, _⟩ := RTm.cells hr'
     have c0 : wr.cell? ⟨bt, ot + k * 4, none⟩ = some (.int .i64 t.kind) := hcell 0 _ rfl
     have c1 : wr.cell? ⟨bt, ot + k * 4 + 1, none⟩ = some (.int .i64 t.n) := hcell 1 _ rfl
     have c2 : wr.cell? ⟨bt, ot + k * 4 + 2, none⟩ = some (.string t.s) := hcell 2 _ rfl
     have c3 : wr.cell? ⟨bt, ot + k * 4 + 3, none⟩ = some (.slice Ax t.l.length cx) := hcell 3 _ rfl
     have hszr := hbw.size
     have HR := Lib.hid hr
     have HBW := Lib.hid hbw
     have hBr : B ≤ wr.heap.size := Nat.le_trans hB hszr
     clear hcell hlen hx hr hr' hbw
     go_wp2_with fail
     generalize hW : World.alloc _ _ = W
     obtain ⟨hb1, hz⟩ := al1 hW
     have HB1 := Lib.hid hb1
     clear hW hb1 c0 c1 c2 c3
     refine (bigSize_any (d := d) (B := B) (t := t) (vs := [_, _, _, _]) ((TmR d).keep HB1.out hBr HR.out) (Nat.le_trans hBr HB1.out.size)).mono ?_
     rintro z w3 ⟨⟨m, rfl, hm0, hm1⟩, hb3⟩
     have HB3 := Lib.hid (bthen HBW.out (bthen HB1.out hb3))
     clear hb3
     go_wp2_with fail
     · go_ret
       exact ⟨⟨false, rfl⟩, HB3.out⟩
     · go_roundw
       case rel => exact ⟨k + 1, n + m, by omega, by go_num, by go_num, by omega, by omega, HB3.out⟩
       case measure => simp [intOf]; omega
   · go_wp2_with fail
     go_ret
     exact ⟨⟨_, rfl⟩, hbw⟩
theorem may_whole {l : List OpD} (h : mayExprB l = true) : l.length ≤ 32 ∧ wholeG 0 l = true := by
 unfold mayExprB at h; rw [Bool.and_eq_true, decide_eq_true_eq] at h; exact h
theorem evalE_of {b : Bd} {l : List OpD} (h : mayExprB l = true) (hb : bindB b = true) : evalE b l = evalT b l := by unfold evalE; rw [h, hb]; rfl
def Clean (r : Tm × Int) : Prop := r.2 ≠ 0 → r.1 = noT
theorem clean_no (e : Int) : Clean (noT, e) := fun _ => rfl
theorem clean_ok (t : Tm) : Clean (t, 0) := fun h => absurd rfl h
theorem clean_ite {c : Prop} [Decidable c] {x y : Tm × Int} (h1 : Clean x) (h2 : Clean y) : Clean (if c then x else y) := by
 by_cases h : c
 · rw [if_pos h]; exact h1
 · rw [if_neg h]; exact h2
theorem clean_rec (code a b : Int) : Clean (recT (recR code a b)) := by
 rcases rec_is code a b with ⟨h, _⟩ | ⟨e, h, he⟩
 · rw [h]; exact clean_ok _
 · rw [h]; exact clean_no _
theorem clean_join {a b : Tm} : Clean (joinR a b) := by
 unfold joinR
 refine clean_ite (clean_no _) (clean_ite (clean_no _) ?_)
 unfold setR
 exact clean_ite (clean_ok _) (clean_no _)
theorem clean_bin (code : Int) (a b : Tm) : Clean (binR code a b) := by
 unfold binR
 refine clean_ite (clean_no _) (clean_ite (clean_no _) (clean_ite (clean_ite (clean_ok _) (clean_no _)) (clean_ite (clean_rec _ _ _) (clean_ite (clean_ok _) (clean_ite (clean_ok _) (clean_ite (clean_ok _) (clean_ite ?_ (clean_ite (clean_ok _) (clean_ite clean_join (clean_ite (clean_ok _) (clean_ite (clean_ok _) (clean_ite (clean_ok _) (clean_ok _)))))))))))))
 unfold matchR
 exact clean_ite (clean_no _) (clean_ok _)
theorem alone_bin {code : Int} (h1 : 1 ≤ code) (h2 : code ≤ 19) : aloneB (opC code) = true := by
 unfold aloneB opC
 simp [emptyB, h1, h2]
 rfl
theorem needs_bin (code : Int) : needsB (opC code) = 2 := needs_two rfl
theorem joins_law {b : Bd} {a c : List OpD} {code : Int} (hb : bindB b = true) (ha : mayExprB a = true) (hc : mayExprB c = true) (h31 : a.length + c.length ≤ 31) (h1 : 1 ≤ code) (h2 : code ≤ 19) :
   mayExprB (a ++ c ++ [opC code]) = true ∧ evalT b (a ++ c ++ [opC code]) = if (evalT b a).2 ≠ 0 then (noT, (evalT b a).2) else if (evalT b c).2 ≠ 0 then (noT, (evalT b c).2) else binR code (evalT b a).1 (evalT b c).1 := by
 have hok := (bindB_parts hb).1
 obtain ⟨_, ha2⟩ := may_whole ha
 obtain ⟨_, hc2⟩ := may_whole hc
 have ho : wholeG 2 [opC code] = true := by
   rw [wholeG_cons, alone_bin h1 h2, needs_bin]
   have hz : ¬ lazyB (opC code) = true := by simp [lazyB, opC]
   rw [if_neg hz, wholeG_nil]
   rfl
 have hco : wholeG 1 (c ++ [opC code]) = true := whole_append c.length c [opC code] 0 1 (Nat.le_refl _) (by omega) hc2 ho
 have hw : wholeG 0 (a ++ (c ++ [opC code])) = true := whole_append a.length a _ 0 0 (Nat.le_refl _) (by omega) ha2 hco
 have hm : mayExprB (a ++ c ++ [opC code]) = true := by
   unfold mayExprB
   rw [List.append_assoc, hw, Bool.and_true, decide_eq_true_eq]
   simp only [List.length_append, List.length_cons, List.length_nil]
   omega
 refine ⟨hm, ?_⟩
 have e1 : evR b (a ++ (c ++ [opC code])) [] = _ := evR_app b a.length a (c ++ [opC code]) [] [] (Nat.le_refl _) ha2
 rcases evT_parts hok ha2 with ⟨t, ht, hr, _⟩ | ⟨e, ts, he, ht, hr⟩
 · rw [hr, if_neg (by simp)] at e1
   have e2 : evR b (c ++ [opC code]) ([] ++ [t]) = _ := evR_app b c.length c [opC code] [t] [] (Nat.le_refl _) hc2
   rw [ht]
   simp only [ne_eq, not_true_eq_false, if_false]
   rcases evT_parts hok hc2 with ⟨u, hu, hs, _⟩ | ⟨e, us, he, hu, hs⟩
   · rw [hs, if_neg (by simp)] at e2
     rw [hu]
     simp only [ne_eq, not_true_eq_false, if_false]
     have hst := step_bin (b := b) (o := opC code) [] t u rfl
     have hst : stepE b (opC code) ([t] ++ [u]) = ((binR code t u).2, [(binR code t u).1], false) := hst
     rw [evR_cons, hst] at e2
     unfold evalT
     rw [List.append_assoc, e1, e2]
     by_cases hz : (binR code t u).2 = 0
     · simp only [hz, ne_eq, not_true_eq_false, if_false, Bool.false_eq_true]
       rw [evR_nil]
       simp only [ne_eq, not_true_eq_false, if_false]
       rw [← hz]
       rfl
     · simp only [hz, ne_eq, not_false_eq_true, if_true]
       rw [← clean_bin code t u hz]
   · rw [hs, if_pos he] at e2
     rw [hu]
     simp only [ne_eq, he, not_false_eq_true, if_true]
     unfold evalT
     rw [List.append_assoc, e1, e2, if_pos he]
 · rw [hr, if_pos he] at e1
   rw [ht]
   simp only [ne_eq, he, not_false_eq_true, if_true]
   unfold evalT
   rw [List.append_assoc, e1, if_pos he]
end Go.Proofs.YtiplipdigabidaaGreat
