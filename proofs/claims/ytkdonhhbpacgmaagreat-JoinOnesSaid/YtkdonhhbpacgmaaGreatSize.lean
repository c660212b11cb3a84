/- viaticumlaw7.size, Size; viaticumlaw14.Weight: they tell some number. -/
import Derived.Test.YtkdonhhbpacgmaaGreatOpen
set_option linter.unusedVariables false
set_option linter.unusedSimpArgs false
namespace Go.Proofs.YtkdonhhbpacgmaaGreat
open Go.ChangeShapes Go.WideShapes Go.ChangeAt Go.RowKit
set_option maxRecDepth 100000 in
set_option maxHeartbeats 2000000 in
theorem size_any : ∀ (dp : Nat), dp ≤ 6 → ∀ (d B : Nat) (ts : List Tm) (A : Option Addr) (c : Nat) (n0 : Int) (w : World), RL (TmR d) w B ts A → B ≤ w.heap.size → ts.length ≤ 140737488351232 → 0 ≤ n0 → n0 < 100 →
   Calls Tryz.prog 35 #[.slice A ts.length c, .int .i64 n0, .int .i64 (dp : Int)] w fun e w' => (∃ m : Int, e = .returned (.int .i64 m) ∧ 0 ≤ m ∧ m ≤ 100) ∧ Below w.heap.size w w' := by
 intro dp
 induction dp with
 | zero =>
   intro _ d B ts A c n0 w hl hB hn h0 h1
   have hdp0 : ¬ (((0 : Nat) : Int) > 0) := by omega
   go_enter Tryz.func35, Tryz.ntmps35
   go_wp2_with fail
   go_loopw [1, 11] (fun v i wr => ∃ (k : Nat) (n : Int), k ≤ ts.length ∧ i = .int .i64 k ∧ v = .int .i64 n ∧ 0 ≤ n ∧ n < 100 ∧ Below w.heap.size w wr) (fun _ i _ => ts.length - (intOf i).toNat)
   case atStart => exact ⟨0, n0, Nat.zero_le _, rfl, rfl, h0, h1, Below.refl _ _⟩
   case round =>
     obtain ⟨k, n, hk, rfl, rfl, hn0, hn1, hbw⟩ := hrel
     by_cases hlt : k < ts.length
     · obtain ⟨b, off, rfl, hb⟩ := hl.base hbw hB (by omega)
       obtain ⟨t, vs, hx, hlen, hcell, hr⟩ := hl.at0 hbw hB hlt
       obtain ⟨Ax, cx, rfl, g1, g2, g3, g4, g5, hrl⟩ := RTm.cells hr
       have c0 : wr.cell? ⟨b, off + k * 4, none⟩ = some (.int .i64 t.kind) := hcell 0 _ rfl
       have c1 : wr.cell? ⟨b, off + k * 4 + 1, none⟩ = some (.int .i64 t.n) := hcell 1 _ rfl
       have c2 : wr.cell? ⟨b, off + k * 4 + 2, none⟩ = some (.string t.s) := hcell 2 _ rfl
       have c3 : wr.cell? ⟨b, off + k * 4 + 3, none⟩ = some (.slice Ax t.l.length cx) := hcell 3 _ rfl
       have hszr := hbw.size
       have HB := Lib.hid (fun o : Obj => hbw.alloc hszr o)
       clear hcell hlen hx hr
       go_wp2_with fail
       · go_ret
         exact ⟨⟨100, rfl, by omega, by omega⟩, HB.out _⟩
       · go_roundw
         case rel => exact ⟨k + 1, _, by omega, by go_num, rfl, by omega, by omega, HB.out _⟩
         case measure => simp [intOf]; omega
       · go_ret
         exact ⟨⟨100, rfl, by omega, by omega⟩, HB.out _⟩
     · go_wp2_with fail
       go_ret
       exact ⟨⟨n, rfl, hn0, by omega⟩, hbw⟩
 | succ dp ih =>
   intro hdp d B ts A c n0 w hl hB hn h0 h1
   have IH := Lib.hid (ih (by omega))
   clear ih
   have hdp0 : ((dp + 1 : Nat) : Int) > 0 := by omega
   have hdp1 : (((dp + 1 : Nat) : Int) == 0) = false := by simp; omega
   have hdp2 : ((dp + 1 : Nat) : Int) - 1 = (dp : Int) := by omega
   have hdp3 : ((dp + 1 : Nat) : Int) ≤ 6 := by omega
   have HDP := Lib.hid hdp2
   generalize hD : ((dp + 1 : Nat) : Int) = D at *
   clear hD hdp2
   go_enter Tryz.func35, Tryz.ntmps35
   go_wp2_with fail
   go_loopw [1, 11] (fun v i wr => ∃ (k : Nat) (n : Int), k ≤ ts.length ∧ i = .int .i64 k ∧ v = .int .i64 n ∧ 0 ≤ n ∧ n < 100 ∧ Below w.heap.size w wr) (fun _ i _ => ts.length - (intOf i).toNat)
   case atStart => exact ⟨0, n0, Nat.zero_le _, rfl, rfl, h0, h1, Below.refl _ _⟩
   case round =>
     obtain ⟨k, n, hk, rfl, rfl, hn0, hn1, hbw⟩ := hrel
     by_cases hlt : k < ts.length
     · obtain ⟨b, off, rfl, hb⟩ := hl.base hbw hB (by omega)
       obtain ⟨t, vs, hx, hlen, hcell, hr⟩ := hl.at0 hbw hB hlt
       obtain ⟨Ax, cx, rfl, g1, g2, g3, g4, g5, hrl⟩ := RTm.cells hr
       have c0 : wr.cell? ⟨b, off + k * 4, none⟩ = some (.int .i64 t.kind) := hcell 0 _ rfl
       have c1 : wr.cell? ⟨b, off + k * 4 + 1, none⟩ = some (.int .i64 t.n) := hcell 1 _ rfl
       have c2 : wr.cell? ⟨b, off + k * 4 + 2, none⟩ = some (.string t.s) := hcell 2 _ rfl
       have c3 : wr.cell? ⟨b, off + k * 4 + 3, none⟩ = some (.slice Ax t.l.length cx) := hcell 3 _ rfl
       have hszr := hbw.size
       have HB := Lib.hid (fun o : Obj => hbw.alloc hszr o)
       clear hcell hlen hx hr
       go_wp2_with fail
       · rw [HDP.out]
         refine (IH.out (d - 1) B t.l Ax cx _ _ ((RTms.rl hrl).keep (HB.out _) hB) (Nat.le_trans hB (HB.out _).size) (by omega) (by omega) (by omega)).mono ?_
         rintro e w1 ⟨⟨m, rfl, hm0, hm1⟩, hb1⟩
         have HB1 := Lib.hid ((HB.out _).trans (hb1.mono (HB.out _).size))
         clear hb1
         go_wp2_with fail
         · go_roundw
           case rel => exact ⟨k + 1, m, by omega, by go_num, rfl, by omega, by omega, HB1.out⟩
           case measure => simp [intOf]; omega
         · go_ret
           exact ⟨⟨100, rfl, by omega, by omega⟩, HB1.out⟩
       · go_ret
         exact ⟨⟨100, rfl, by omega, by omega⟩, HB.out _⟩
     · go_wp2_with fail
       go_ret
       exact ⟨⟨n, rfl, hn0, by omega⟩, hbw⟩
set_option maxRecDepth 100000 in
set_option maxHeartbeats 2000000 in
theorem bigSize_any {d B : Nat} {t : Tm} {vs : List Value} {w : World} (hr : RTm w B d t vs) (hB : B ≤ w.heap.size) :
   Calls Tryz.prog 17 #[.agg vs.toArray] w fun e w' => (∃ m : Int, e = .returned (.int .i64 m) ∧ 0 ≤ m ∧ m ≤ 100) ∧ Below w.heap.size w w' := by
 have HR := Lib.hid hr
 obtain ⟨Ax, cx, rfl, g1, g2, g3, g4, g5, hrl⟩ := RTm.cells hr
 have HB := Lib.hid (fun o : Obj => (Below.refl w.heap.size w).alloc (Nat.le_refl _) o)
 clear hr hrl
 go_enter Tryz.func17, Tryz.ntmps17
 go_wp2_with fail
 have HW := Lib.hid ((HB.out (.cells #[.int .i64 t.kind, .int .i64 t.n, .string t.s, .slice Ax t.l.length cx] 44)).trans ((Below.refl (w.alloc (.cells #[.int .i64 t.kind, .int .i64 t.n, .string t.s, .slice Ax t.l.length cx] 44)).heap.size (w.alloc (.cells #[.int .i64 t.kind, .int .i64 t.n, .string t.s, .slice Ax t.l.length cx] 44))).alloc (Nat.le_refl _) (.cells #[.int .i64 t.kind, .int .i64 t.n, .string t.s, .slice Ax t.l.length cx] 44) |>.mono (HB.out (.cells #[.int .i64 t.kind, .int .i64 t.n, .string t.s, .slice Ax t.l.length cx] 44)).size))
 have y0 : ((w.alloc (.cells #[.int .i64 t.kind, .int .i64 t.n, .string t.s, .slice Ax t.l.length cx] 44)).alloc (.cells #[.int .i64 t.kind, .int .i64 t.n, .string t.s, .slice Ax t.l.length cx] 44)).cell? ⟨w.heap.size + 1, 0, none⟩ = some (.int .i64 t.kind) := by go_simp
 have y1 : ((w.alloc (.cells #[.int .i64 t.kind, .int .i64 t.n, .string t.s, .slice Ax t.l.length cx] 44)).alloc (.cells #[.int .i64 t.kind, .int .i64 t.n, .string t.s, .slice Ax t.l.length cx] 44)).cell? ⟨w.heap.size + 1, 1, none⟩ = some (.int .i64 t.n) := by go_simp
 have y2 : ((w.alloc (.cells #[.int .i64 t.kind, .int .i64 t.n, .string t.s, .slice Ax t.l.length cx] 44)).alloc (.cells #[.int .i64 t.kind, .int .i64 t.n, .string t.s, .slice Ax t.l.length cx] 44)).cell? ⟨w.heap.size + 1, 2, none⟩ = some (.string t.s) := by go_simp
 have y3 : ((w.alloc (.cells #[.int .i64 t.kind, .int .i64 t.n, .string t.s, .slice Ax t.l.length cx] 44)).alloc (.cells #[.int .i64 t.kind, .int .i64 t.n, .string t.s, .slice Ax t.l.length cx] 44)).cell? ⟨w.heap.size + 1, 3, none⟩ = some (.slice Ax t.l.length cx) := by go_simp
 have ysz : w.heap.size + 1 < ((w.alloc (.cells #[.int .i64 t.kind, .int .i64 t.n, .string t.s, .slice Ax t.l.length cx] 44)).alloc (.cells #[.int .i64 t.kind, .int .i64 t.n, .string t.s, .slice Ax t.l.length cx] 44)).heap.size := by go_simp
 generalize ((w.alloc (.cells #[.int .i64 t.kind, .int .i64 t.n, .string t.s, .slice Ax t.l.length cx] 44)).alloc (.cells #[.int .i64 t.kind, .int .i64 t.n, .string t.s, .slice Ax t.l.length cx] 44)) = W at *
 have hl : RL (TmR d) W W.heap.size [t] (some ⟨w.heap.size + 1, 0, none⟩) := RL.one (x := t) ysz ((TmR d).wide (Nat.le_trans hB HW.out.size) ((TmR d).keep HW.out hB HR.out)) (fun j v hv => by
   rcases j with _ | _ | _ | _ | j
   · simp only [List.getElem?_cons_zero, Option.some.injEq] at hv; rw [← hv]; exact y0
   · simp only [List.getElem?_cons_succ, List.getElem?_cons_zero, Option.some.injEq] at hv; rw [← hv]; exact y1
   · simp only [List.getElem?_cons_succ, List.getElem?_cons_zero, Option.some.injEq] at hv; rw [← hv]; exact y2
   · simp only [List.getElem?_cons_succ, List.getElem?_cons_zero, Option.some.injEq] at hv; rw [← hv]; exact y3
   · simp at hv)
 refine (size_any 6 (by omega) d _ [t] _ 1 0 W hl (Nat.le_refl _) (by simp) (by omega) (by omega)).mono ?_
 rintro e w1 ⟨⟨m, rfl, hm0, hm1⟩, hb1⟩
 have HB1 := Lib.hid (HW.out.trans (hb1.mono HW.out.size))
 clear hb1
 go_wp2_with fail
 go_ret
 exact ⟨⟨m, rfl, hm0, hm1⟩, HB1.out⟩
set_option maxRecDepth 100000 in
set_option maxHeartbeats 4000000 in
theorem weight_any {d B : Nat} {r : Ru} {vs : List Value} {w : World} (hr : (RuR d).rd w B r vs) (hB : B ≤ w.heap.size) :
   Calls Tryz.prog 5 #[.agg vs.toArray] w fun x w' => (∃ m : Int, x = .returned (.int .i64 m)) ∧ Below w.heap.size w w' := by
 obtain ⟨_, _, _, _, rfl, hs, ⟨A0, c0, rfl, h01, h02, hl0⟩, ⟨A1, c1, rfl, h11, h12, hl1⟩, ⟨A2, c2, rfl, h21, h22, hl2⟩, ⟨A3, c3, rfl, h31, h32, hl3⟩⟩ := hr
 simp only [PrR, ExR, ScR, TmR] at h02 h12 h22 h32
 have HB := Lib.hid (fun o : Obj => (Below.refl w.heap.size w).alloc (Nat.le_refl _) o)
 have HL1 := Lib.hid hl1
 have HL2 := Lib.hid hl2
 clear hl1 hl2 hl3
 go_enter Tryz.func5, Tryz.ntmps5
 go_wp2_with fail
 have HW := Lib.hid (HB.out (.cells #[.string r.head.name, .slice A0 r.head.terms.length c0, .slice A1 r.body.length c1, .slice A2 r.exprs.length c2, .slice A3 r.scopes.length c3] 33))
 have x2 : (w.alloc (.cells #[.string r.head.name, .slice A0 r.head.terms.length c0, .slice A1 r.body.length c1, .slice A2 r.exprs.length c2, .slice A3 r.scopes.length c3] 33)).cell? ⟨w.heap.size, 2, none⟩ = some (.slice A1 r.body.length c1) := by go_simp
 have x3 : (w.alloc (.cells #[.string r.head.name, .slice A0 r.head.terms.length c0, .slice A1 r.body.length c1, .slice A2 r.exprs.length c2, .slice A3 r.scopes.length c3] 33)).cell? ⟨w.heap.size, 3, none⟩ = some (.slice A2 r.exprs.length c2) := by go_simp
 have xsz : w.heap.size < (w.alloc (.cells #[.string r.head.name, .slice A0 r.head.terms.length c0, .slice A1 r.body.length c1, .slice A2 r.exprs.length c2, .slice A3 r.scopes.length c3] 33)).heap.size := by go_simp
 generalize (w.alloc (.cells #[.string r.head.name, .slice A0 r.head.terms.length c0, .slice A1 r.body.length c1, .slice A2 r.exprs.length c2, .slice A3 r.scopes.length c3] 33)) = W at *
 have hl0' := hl0.keep HW.out hB
 have hBW := Nat.le_trans hB HW.out.size
 have HLW1 := Lib.hid (HL1.out.keep HW.out hB)
 have HLW2 := Lib.hid (HL2.out.keep HW.out hB)
 clear hl0 HL1 HL2 HB
 go_loopw [3, 26] (fun v i wr => ∃ (k : Nat) (n : Int), k ≤ r.head.terms.length ∧ i = .int .i64 k ∧ v = .int .i64 n ∧ 0 ≤ n ∧ n ≤ 140737488351232 + 101 * k ∧ Below W.heap.size W wr) (fun _ i _ => r.head.terms.length - (intOf i).toNat)
 case atStart => exact ⟨0, _, Nat.zero_le _, rfl, rfl, by omega, by omega, Below.refl _ _⟩
 case round =>
   obtain ⟨k, n, hk, rfl, rfl, hn0, hn1, hbw⟩ := hrel
   by_cases hlt : k < r.head.terms.length
   · obtain ⟨b, off, rfl, hb⟩ := hl0'.base hbw hBW (by omega)
     obtain ⟨t, vs, hx, hlen, hcell, hr⟩ := hl0'.at_ hbw hBW hlt
     obtain ⟨Ax, cx, rfl, g1, g2, g3, g4, g5, hrl⟩ := RTm.cells hr
     have c0 : wr.cell? ⟨b, off + k * 4, none⟩ = some (.int .i64 t.kind) := hcell 0 _ rfl
     have c1 : wr.cell? ⟨b, off + k * 4 + 1, none⟩ = some (.int .i64 t.n) := hcell 1 _ rfl
     have c2 : wr.cell? ⟨b, off + k * 4 + 2, none⟩ = some (.string t.s) := hcell 2 _ rfl
     have c3 : wr.cell? ⟨b, off + k * 4 + 3, none⟩ = some (.slice Ax t.l.length cx) := hcell 3 _ rfl
     have hszr := hbw.size
     have HB := Lib.hid (fun o : Obj => hbw.alloc hszr o)
     have HB0 := Lib.hid (fun o : Obj => (Below.refl wr.heap.size wr).alloc (Nat.le_refl _) o)
     have HR := Lib.hid hr
     clear hcell hlen hx hr
     go_wp2_with fail
     refine (bigSize_any (d := d) (B := B) (t := t) (vs := [_, _, _, _]) ((TmR d).keep (HB0.out _) (Nat.le_trans hBW hszr) HR.out) (Nat.le_trans hBW (HB.out _).size)).mono ?_
     rintro e w1 ⟨⟨m, rfl, hm0, hm1⟩, hb1⟩
     have HB1 := Lib.hid ((HB.out _).trans (hb1.mono (HB.out _).size))
     clear hb1
     go_wp2_with fail
     go_roundw
     case rel => exact ⟨k + 1, _, by omega, by go_num, rfl, by omega, by omega, HB1.out⟩
     case measure => simp [intOf]; omega
   · clear hl0'
     have hn2 : n ≤ 140737488351232 + 101 * (r.head.terms.length : Int) := by omega
     have z2 : wr.cell? ⟨w.heap.size, 2, none⟩ = some (.slice A1 r.body.length c1) := (bcell hbw _ _ xsz).trans x2
     clear hn1
     go_wp2_with fail
     clear z2 hk hlt
     go_loopw [3, 38] (fun v i wr => ∃ (k : Nat) (n : Int), k ≤ r.body.length ∧ i = .int .i64 k ∧ v = .int .i64 n ∧ 0 ≤ n ∧ n ≤ 150737488351232 + 101 * (r.head.terms.length : Int) + k ∧ Below W.heap.size W wr) (fun _ i _ => r.body.length - (intOf i).toNat)
     case atStart => exact ⟨0, _, Nat.zero_le _, rfl, rfl, hn0, by omega, hbw⟩
     case round =>
       clear hbw hn0 hn2
       obtain ⟨k, n, hk, rfl, rfl, hn0, hn1, hbw⟩ := hrel
       by_cases hlt : k < r.body.length
       · obtain ⟨b, off, rfl, hb⟩ := HLW1.out.base hbw hBW (by omega)
         obtain ⟨p, vs, hx, hlen, hcell, hr⟩ := HLW1.out.at0 hbw hBW hlt
         obtain ⟨_, rfl, hs, A', c', rfl, hc1, hc2, hl'⟩ := hr
         simp only [TmR] at hc2
         have c0 : wr.cell? ⟨b, off + k * 2, none⟩ = some (.string p.name) := hcell 0 _ rfl
         have c1 : wr.cell? ⟨b, off + k * 2 + 1, none⟩ = some (.slice A' p.terms.length c') := hcell 1 _ rfl
         have hszr := hbw.size
         have HB := Lib.hid (fun o : Obj => hbw.alloc hszr o)
         clear hcell hlen hx
         go_wp2_with fail
         have hn3 : n + (1 + (p.terms.length : Int)) ≤ 150737488351232 + 101 * (r.head.terms.length : Int) + k + (1 + (p.terms.length : Int)) := by omega
         have hbw2 : Below W.heap.size W (wr.alloc (.cells #[.string p.name, .slice A' p.terms.length c'] 24)) := HB.out _
         generalize (wr.alloc (.cells #[.string p.name, .slice A' p.terms.length c'] 24)) = W2 at *
         go_loopw [3, 51] (fun v i wr2 => ∃ (j : Nat) (n2 : Int), j ≤ p.terms.length ∧ i = .int .i64 j ∧ v = .int .i64 n2 ∧ 0 ≤ n2 ∧ ((j = 0 ∧ n2 = n + (1 + (p.terms.length : Int))) ∨ n2 ≤ 400) ∧ Below W.heap.size W wr2) (fun _ i _ => p.terms.length - (intOf i).toNat)
         case atStart => exact ⟨0, _, Nat.zero_le _, rfl, rfl, by omega, .inl ⟨rfl, rfl⟩, hbw2⟩
         case round =>
           clear hbw2 hbw hszr c0 c1 HB
           obtain ⟨j, n2, hj, rfl, rfl, hn20, hn21, hbw⟩ := hrel
           by_cases hlt2 : j < p.terms.length
           · obtain ⟨b', off', rfl, hb'⟩ := hl'.base hbw hBW (by omega)
             obtain ⟨t, vs, hx, hlen, hcell, hr⟩ := hl'.at_ hbw hBW hlt2
             obtain ⟨Ax, cx, rfl, g1, g2, g3, g4, g5, hrl⟩ := RTm.cells hr
             have c0 : wr.cell? ⟨b', off' + j * 4, none⟩ = some (.int .i64 t.kind) := hcell 0 _ rfl
             have c1 : wr.cell? ⟨b', off' + j * 4 + 1, none⟩ = some (.int .i64 t.n) := hcell 1 _ rfl
             have c2 : wr.cell? ⟨b', off' + j * 4 + 2, none⟩ = some (.string t.s) := hcell 2 _ rfl
             have c3 : wr.cell? ⟨b', off' + j * 4 + 3, none⟩ = some (.slice Ax t.l.length cx) := hcell 3 _ rfl
             have hszr := hbw.size
             have HB := Lib.hid (fun o : Obj => hbw.alloc hszr o)
             have HB0 := Lib.hid (fun o : Obj => (Below.refl wr.heap.size wr).alloc (Nat.le_refl _) o)
             have HR := Lib.hid hr
             clear hcell hlen hx hr
             go_wp2_with fail
             refine (bigSize_any (d := d) (B := B) (t := t) (vs := [_, _, _, _]) ((TmR d).keep (HB0.out _) (Nat.le_trans hBW hszr) HR.out) (Nat.le_trans hBW (HB.out _).size)).mono ?_
             rintro e w1 ⟨⟨m, rfl, hm0, hm1⟩, hb1⟩
             have HB1 := Lib.hid ((HB.out _).trans (hb1.mono (HB.out _).size))
             clear hb1
             go_wp2_with fail
             · go_ret
               exact ⟨⟨_, rfl⟩, HW.out.trans (HB1.out.mono HW.out.size)⟩
             · go_roundw
               case rel => exact ⟨j + 1, _, by omega, by go_num, rfl, by omega, .inr (by omega), HB1.out⟩
               case measure => simp [intOf]; omega
           · go_wp2_with fail
             go_roundw
             case rel => exact ⟨k + 1, n2, by omega, by go_num, rfl, by omega, by omega, hbw⟩
             case measure => simp [intOf]; omega
       · have z3 : wr.cell? ⟨w.heap.size, 3, none⟩ = some (.slice A2 r.exprs.length c2) := (bcell hbw _ _ xsz).trans x3
         have hn2 : n ≤ 160737488351232 + 101 * (r.head.terms.length : Int) := by omega
         clear hn1
         go_wp2_with fail
         clear z3 hk hlt
         go_loopw [3, 66] (fun v i wr => ∃ (k : Nat) (n : Int), k ≤ r.exprs.length ∧ i = .int .i64 k ∧ v = .int .i64 n ∧ 0 ≤ n ∧ n ≤ 160737488351232 + 101 * (r.head.terms.length : Int) + k ∧ Below W.heap.size W wr) (fun _ i _ => r.exprs.length - (intOf i).toNat)
         case atStart => exact ⟨0, _, Nat.zero_le _, rfl, rfl, hn0, by omega, hbw⟩
         case round =>
           clear hbw hn0 hn2
           obtain ⟨k, n, hk, rfl, rfl, hn0, hn1, hbw⟩ := hrel
           by_cases hlt : k < r.exprs.length
           · obtain ⟨b, off, rfl, hb⟩ := HLW2.out.base hbw hBW (by omega)
             obtain ⟨p, vs, hx, hlen, hcell, hr⟩ := HLW2.out.at0 hbw hBW hlt
             obtain ⟨_, rfl, A', c', rfl, hc1, hc2, hl'⟩ := hr
             simp only [OpR] at hc2
             have c0 : wr.cell? ⟨b, off + k * 1, none⟩ = some (.slice A' p.length c') := hcell 0 _ rfl
             rw [Nat.mul_one] at c0
             have hszr := hbw.size
             have HB := Lib.hid (fun o : Obj => hbw.alloc hszr o)
             clear hcell hlen hx
             go_wp2_with fail
             have hn3 : n + (1 + (p.length : Int)) ≤ 160737488351232 + 101 * (r.head.terms.length : Int) + k + (1 + (p.length : Int)) := by omega
             have hbw2 : Below W.heap.size W (wr.alloc (.cells #[.slice A' p.length c'] 51)) := HB.out _
             generalize (wr.alloc (.cells #[.slice A' p.length c'] 51)) = W2 at *
             go_loopw [3, 79] (fun v i wr2 => ∃ (j : Nat) (n2 : Int), j ≤ p.length ∧ i = .int .i64 j ∧ v = .int .i64 n2 ∧ 0 ≤ n2 ∧ ((j = 0 ∧ n2 = n + (1 + (p.length : Int))) ∨ n2 ≤ 400) ∧ Below W.heap.size W wr2) (fun _ i _ => p.length - (intOf i).toNat)
             case atStart => exact ⟨0, _, Nat.zero_le _, rfl, rfl, by omega, .inl ⟨rfl, rfl⟩, hbw2⟩
             case round =>
               clear hbw2 hbw hszr c0 HB
               obtain ⟨j, n2, hj, rfl, rfl, hn20, hn21, hbw⟩ := hrel
               by_cases hlt2 : j < p.length
               · obtain ⟨b', off', rfl, hb'⟩ := hl'.base hbw hBW (by omega)
                 obtain ⟨o, vs, hx, hlen, hcell, hr⟩ := hl'.at_ hbw hBW hlt2
                 obtain ⟨ts, rfl, i1, i2, i3, ht⟩ := hr
                 have hr := ht
                 obtain ⟨Ax, cx, rfl, g1, g2, g3, g4, g5, hrl⟩ := RTm.cells ht
                 have c0 : wr.cell? ⟨b', off' + j * 7, none⟩ = some (.int .i64 o.kind) := hcell 0 _ rfl
                 have c1 : wr.cell? ⟨b', off' + j * 7 + 1, none⟩ = some (.int .i64 o.term.kind) := hcell 1 _ rfl
                 have c2 : wr.cell? ⟨b', off' + j * 7 + 2, none⟩ = some (.int .i64 o.term.n) := hcell 2 _ rfl
                 have c3 : wr.cell? ⟨b', off' + j * 7 + 3, none⟩ = some (.string o.term.s) := hcell 3 _ rfl
                 have c4 : wr.cell? ⟨b', off' + j * 7 + 4, none⟩ = some (.slice Ax o.term.l.length cx) := hcell 4 _ rfl
                 have c5 : wr.cell? ⟨b', off' + j * 7 + 5, none⟩ = some (.int .i64 o.code) := hcell 5 _ rfl
                 have c6 : wr.cell? ⟨b', off' + j * 7 + 6, none⟩ = some (.int .i64 o.skip) := hcell 6 _ rfl
                 have hszr := hbw.size
                 have HB := Lib.hid (fun o : Obj => hbw.alloc hszr o)
                 have HB0 := Lib.hid (fun o : Obj => (Below.refl wr.heap.size wr).alloc (Nat.le_refl _) o)
                 have HR := Lib.hid hr
                 clear hcell hlen hx hr
                 go_wp2_with fail
                 refine (bigSize_any (d := d) (B := B) (t := o.term) (vs := [_, _, _, _]) ((TmR d).keep (HB0.out _) (Nat.le_trans hBW hszr) HR.out) (Nat.le_trans hBW (HB.out _).size)).mono ?_
                 rintro e w1 ⟨⟨m, rfl, hm0, hm1⟩, hb1⟩
                 have HB1 := Lib.hid ((HB.out _).trans (hb1.mono (HB.out _).size))
                 clear hb1
                 go_wp2_with fail
                 · go_ret
                   exact ⟨⟨_, rfl⟩, HW.out.trans (HB1.out.mono HW.out.size)⟩
                 · go_roundw
                   case rel => exact ⟨j + 1, _, by omega, by go_num, rfl, by omega, .inr (by omega), HB1.out⟩
                   case measure => simp [intOf]; omega
               · go_wp2_with fail
                 go_roundw
                 case rel => exact ⟨k + 1, n2, by omega, by go_num, rfl, by omega, by omega, hbw⟩
                 case measure => simp [intOf]; omega
           · go_wp2_with fail
             go_ret
             exact ⟨⟨_, rfl⟩, HW.out.trans (hbw.mono HW.out.size)⟩
end Go.Proofs.YtkdonhhbpacgmaaGreat
