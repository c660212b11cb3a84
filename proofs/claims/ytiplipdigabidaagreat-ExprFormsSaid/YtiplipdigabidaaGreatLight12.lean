/- viaticumlaw12.light, lightBind: they tell some Bool. -/
import Derived.Test.YtiplipdigabidaaGreatMapF
import Derived.Test.YtiplipdigabidaaGreatBinLaw
import Derived.Test.YtiplipdigabidaaGreatRef1
import Derived.Test.YtiplipdigabidaaGreatEv4
import Derived.Test.YtiplipdigabidaaGreatEvSpec
set_option linter.unusedVariables false
set_option linter.unusedSimpArgs false
namespace Go.Proofs.YtiplipdigabidaaGreat
theorem step_val {b : Bd} {o : OpD} (ts : List Tm) (k : o.kind = 1) : stepE b o ts = ((valR b o.term ts).1, (valR b o.term ts).2, false) := by
 unfold stepE; rw [if_pos k]
theorem step_un {b : Bd} {o : OpD} (l : List Tm) (t : Tm) (k : o.kind = 2) : stepE b o (l ++ [t]) = ((unR o.code t).2, l ++ [(unR o.code t).1], false) := by
 unfold stepE; rw [if_neg (by omega), if_pos k]; simp only [List.getLast?_concat, List.dropLast_concat]
theorem step_bin {b : Bd} {o : OpD} (l : List Tm) (s t : Tm) (k : o.kind = 3) : stepE b o (l ++ [s] ++ [t]) = ((binR o.code s t).2, l ++ [(binR o.code s t).1], false) := by
 unfold stepE; rw [if_neg (by omega), if_neg (by omega), if_pos k]; simp only [List.getLast?_concat, List.dropLast_concat]
theorem step_lazy {b : Bd} {o : OpD} (l : List Tm) (t : Tm) (k : o.kind = 4 ∨ o.kind = 5) : stepE b o (l ++ [t]) = if t.kind ≠ 6 then (7, l ++ [t], false) else if (decide (t.n = 1) == decide (o.kind = 5)) = true then (0, l ++ [t], true) else (0, l, false) := by
 unfold stepE; rw [if_neg (by omega), if_neg (by omega), if_neg (by omega)]; simp only [List.getLast?_concat, List.dropLast_concat]
def Goods (ts : List Tm) : Prop := ∀ t ∈ ts, fixedB t = true
theorem Goods.add {l : List Tm} {t : Tm} (h : Goods l) (ht : fixedB t = true) : Goods (l ++ [t]) := fun u hu => by
 rcases List.mem_append.1 hu with h1 | h1
 · exact h u h1
 · rw [List.mem_singleton] at h1; rw [h1]; exact ht
theorem Goods.left {l r : List Tm} (h : Goods (l ++ r)) : Goods l := fun u hu => h u (List.mem_append_left _ hu)
def trueT (r : Tm × Int) : Bool × Int := if r.2 ≠ 0 then (false, r.2) else if r.1.kind ≠ 6 then (false, 7) else (decide (r.1.n = 1), 0)
open Go.ChangeShapes Go.WideShapes Go.ChangeAt Go.RowKit
def evalE (b : Bd) (ops : List OpD) : Tm × Int := if (mayExprB ops && bindB b) = true then evalT b ops else (noT, 1)
theorem trueT_err {r : Tm × Int} (h : r.2 ≠ 0) : trueT r = (false, r.2) := by unfold trueT; rw [if_pos h]
theorem trueT_kind {r : Tm × Int} (h : r.2 = 0) (hk : r.1.kind ≠ 6) : trueT r = (false, 7) := by unfold trueT; rw [if_neg (by simp [h]), if_pos hk]
theorem trueT_is {r : Tm × Int} (h : r.2 = 0) (hk : r.1.kind = 6) : trueT r = (decide (r.1.n = 1), 0) := by unfold trueT; rw [if_neg (by simp [h]), if_neg (by simp [hk])]
set_option maxRecDepth 100000 in
set_option maxHeartbeats 4000000 in
theorem true_any {D B cn ct : Nat} {ops : List OpD} {evs : List Value} {b : Bd} {An At : Option Addr} {w : World} {m : Int} (he : (ExR (D + 1)).rd w B ops evs) (hn : RL StrR w B (b.names.map mkS) An) (ht : RL (TmR (D + 1)) w B b.terms At) (hB : B ≤ w.heap.size) (hm0 : w.cell? ⟨0, 0, none⟩ = some (.int .i64 m)) (h0 : 0 < w.heap.size) :
   Calls Tryz.prog 17 #[.agg evs.toArray, .agg (bdV An b.names.length cn At b.terms.length ct)] w fun e w' => e = .returned (.tuple #[.bool (trueT (evalE b ops)).1, .int .i64 (trueT (evalE b ops)).2]) ∧ Below w.heap.size w w' := by
 have HE := Lib.hid he
 have HN := Lib.hid hn
 have HT := Lib.hid ht
 have HM := Lib.hid hm0
 clear hn ht hm0
 obtain ⟨_, rfl, Ao, co, rfl, hc1, hc2, hl⟩ := he
 simp only [OpR] at hc2
 clear hl
 unfold bdV
 go_enter Tryz.func17, Tryz.ntmps17
 go_wp2_with fail
 generalize hW : World.alloc _ _ = w1
 obtain ⟨hb1, hz⟩ := al2 hW
 have HB1 := Lib.hid hb1
 clear hW
 refine (eval_any (evs := [_]) (D := D) (cn := cn) (ct := ct) ((ExR (D + 1)).keep hb1 hB HE.out) (HN.out.keep hb1 hB) (HT.out.keep hb1 hB) (Nat.le_trans hB hb1.size) ((hb1.cell (p := ⟨0, 0, none⟩) h0).trans HM.out) (Nat.lt_of_lt_of_le h0 hb1.size)).mono ?_
 rintro z w2 ⟨⟨A, c, rfl, hrd⟩, hb⟩
 have HB2 := Lib.hid (bthen HB1.out hb)
 clear hb hb1 hrd
 have hev : (if (mayExprB ops && bindB b) = true then evalT b ops else (noT, 1)) = evalE b ops := rfl
 rw [hev]
 clear hev
 generalize hr : evalE b ops = r
 have HRR := Lib.hid hr
 clear hr
 go_upto_region 2 with fail
 generalize hW : World.alloc _ _ = w3
 obtain ⟨hb, hz3⟩ := al1 hW
 have b_t := n11 hW
 have HB3 := Lib.hid (bthen HB2.out hb)
 clear hb hW
 have k_t := b_t.cell
 by_cases he : r.2 = 0
 · have p1 : (r.2 != 0) = false := by simp [he]
   by_cases hk : r.1.kind = 6
   · have p2 : (r.1.kind != 6) = false := by simp [hk]
     have HR := Lib.hid (trueT_is he hk)
     clear he hk
     go_wp2_with fail
     go_ret2
     rw [HRR.out, HR.out]
     exact ⟨rfl, HB3.out⟩
   · have p2 : (r.1.kind != 6) = true := by simpa using hk
     have HR := Lib.hid (trueT_kind he hk)
     clear he hk
     go_wp2_with fail
     go_ret2
     rw [HRR.out, HR.out]
     exact ⟨rfl, HB3.out⟩
 · have p1 : (r.2 != 0) = true := by simpa using he
   have HR := Lib.hid (trueT_err he)
   clear he
   go_wp2_with fail
   go_ret2
   rw [HRR.out, HR.out]
   exact ⟨rfl, HB3.out⟩
open Go.ChangeShapes Go.WideShapes Go.ChangeAt Go.RowKit
theorem ret_op {fn : Func} {tmps : Array Value} {p : Tmp} {g : Nat} {w : World} {cs : Array Value} (h : fn.results = #[.cell p 35]) (hp : tmps.getD p undef = .pointer (some ⟨g, 0, none⟩)) (hb : Blk w g cs) (hn : cs.size = 7) :
   (results fn tmps).run Tryz.prog w = .ok (.agg cs) w := by
 obtain ⟨T, hb⟩ := hb
 exact results_cell_row h tmps w g T cs (0, 0) _ hp hb Tryz.underlying35 rfl (by rw [hn]; kernel_rfl)
theorem Blk.rls {α : Type} {R : Reader α} {w : World} {B b : Nat} {xs : List α} {cells : Array Value} (h : Blk w b cells) (hf : Flat R w B xs cells.toList) (hb : b < B) : RL R w B xs (some ⟨b, 0, none⟩) := fun _ =>
 ⟨b, 0, rfl, hb, fun i hi => ⟨_, R.len (hf.2 i hi), ⟨xs[i], List.getElem?_eq_getElem hi, hf.2 i hi⟩, fun j v hj => by
   rw [List.getElem?_take] at hj
   split at hj
   · rw [List.getElem?_drop] at hj
     rw [Nat.zero_add, h.cell, ← Array.getElem?_toList]
     exact hj
   · cases hj⟩⟩
def opT (n : Int) : OpD := ⟨1, ⟨2, n, ⟨#[]⟩, []⟩, 0, 0⟩
def opC (c : Int) : OpD := ⟨3, ⟨0, 0, ⟨#[]⟩, []⟩, c, 0⟩
def opV (k : Int) (t : Tm) (c s : Int) : List Value := [.int .i64 k, .int .i64 t.kind, .int .i64 t.n, .string t.s, .slice none 0 0, .int .i64 c, .int .i64 s]
theorem op_rd {w : World} {B : Nat} {o : OpD} (d : Nat) (h1 : I64 o.kind) (h2 : I64 o.code) (h3 : I64 o.skip) (k1 : I64 o.term.kind) (k2 : I64 o.term.n) (k3 : o.term.s.size ≤ 140737488351232) (k4 : o.term.l = []) : (OpR (d + 1)).rd w B o (opV o.kind o.term o.code o.skip) := by
 obtain ⟨k, ⟨tk, n, s, l⟩, c, sk⟩ := o
 simp only at k4
 subst k4
 exact ⟨[.int .i64 tk, .int .i64 n, .string s, .slice none 0 0], rfl, h1, h2, h3, none, 0, rfl, Nat.le_refl _, ⟨by simp, by omega⟩, k3, k1, k2, fun h => absurd h (by simp)⟩
theorem i64_lit {n : Int} (h : -1000000 ≤ n) (h' : n ≤ 1000000) : I64 n := by unfold I64; omega
theorem opT_rd {w : World} {B : Nat} (d : Nat) {n : Int} (h : -1000000 ≤ n) (h' : n ≤ 1000000) : (OpR (d + 1)).rd w B (opT n) (opV 1 ⟨2, n, ⟨#[]⟩, []⟩ 0 0) :=
 op_rd (o := opT n) d (i64_lit (by simp [opT]) (by simp [opT])) (i64_lit (by simp [opT]) (by simp [opT])) (i64_lit (by simp [opT]) (by simp [opT])) (i64_lit (by simp [opT]) (by simp [opT])) (i64_lit h h') (show (0 : Nat) ≤ 140737488351232 by omega) rfl
theorem opC_rd {w : World} {B : Nat} (d : Nat) {n : Int} (h : -1000000 ≤ n) (h' : n ≤ 1000000) : (OpR (d + 1)).rd w B (opC n) (opV 3 ⟨0, 0, ⟨#[]⟩, []⟩ n 0) :=
 op_rd (o := opC n) d (i64_lit (by simp [opC]) (by simp [opC])) (i64_lit h h') (i64_lit (by simp [opC]) (by simp [opC])) (i64_lit (by simp [opC]) (by simp [opC])) (i64_lit (by simp [opC]) (by simp [opC])) (show (0 : Nat) ≤ 140737488351232 by omega) rfl
theorem awake_eval : evalE ⟨[], []⟩ [opT 1, opT 2, opC 7] = (⟨2, 3, ⟨#[]⟩, []⟩, 0) := by kernel_rfl
set_option maxRecDepth 100000 in
set_option maxHeartbeats 1000000 in
theorem number12_any (n : Int) (w : World) :
   Calls Tryz.prog 33 #[.int .i64 n] w fun e w' => e = .returned (.agg #[.int .i64 1, .int .i64 2, .int .i64 n, .string ⟨#[]⟩, .slice none 0 0, .int .i64 0, .int .i64 0]) ∧ Below w.heap.size w w' := by
 go_enter Tryz.func33, Tryz.ntmps33
 go_wp2_with fail
 generalize hW : World.alloc _ _ = w1
 obtain ⟨hb1, hz⟩ := al1 hW
 have b_r := n11 hW
 have HB1 := Lib.hid hb1
 clear hW hb1
 have k_r := b_r.cell
 have f_r := b_r.free
 have l_r := b_r.lt
 go_wp2_with fail
 exact bodyPost_ret (ret_op rfl rfl b_r rfl) rfl ⟨rfl, HB1.out⟩
set_option maxRecDepth 100000 in
set_option maxHeartbeats 4000000 in
theorem awake12_any {w : World} {m : Int} (hm : w.cell? ⟨0, 0, none⟩ = some (.int .i64 m)) (h0 : 0 < w.heap.size) :
   Calls Tryz.prog 13 #[] w fun z w' => z = .returned (.bool true) ∧ Below w.heap.size w w' := by
 have HM := Lib.hid hm
 clear hm
 go_enter Tryz.func13, Tryz.ntmps13
 go_wp2_with fail
 refine (number12_any 1 _).mono ?_
 rintro x w1 ⟨rfl, hb⟩
 have HB1 := Lib.hid hb
 clear hb
 go_wp2_with fail
 refine (number12_any 2 _).mono ?_
 rintro x w2 ⟨rfl, hb⟩
 have HB2 := Lib.hid (bthen HB1.out hb)
 clear hb
 go_wp2_with fail
 generalize hW : World.alloc _ _ = w3
 obtain ⟨hb, hz⟩ := al1 hW
 have b_o := n11 hW
 have HB3 := Lib.hid (bthen HB2.out hb)
 clear hb hW
 have hsz := HB3.out.size
 have hrl : RL (OpR 1) w3 w3.heap.size [opT 1, opT 2, opC 7] (some ⟨w2.heap.size, 0, none⟩) := b_o.rls (((Flat.one (opT_rd 0 (n := 1) (by omega) (by omega))).append (Flat.one (opT_rd 0 (n := 2) (by omega) (by omega)))).append (Flat.one (opC_rd 0 (n := 7) (by omega) (by omega)))) b_o.lt
 have hex : (ExR 1).rd w3 w3.heap.size [opT 1, opT 2, opC 7] [.slice (some ⟨w2.heap.size, 0, none⟩) 3 3] := ⟨_, rfl, _, _, rfl, Nat.le_refl _, ⟨by simp [OpR], by omega⟩, hrl⟩
 refine (eval_any (evs := [_]) (D := 0) (b := ⟨[], []⟩) (An := none) (At := none) (cn := 0) (ct := 0) hex (fun h => absurd h (by simp)) (fun h => absurd h (by simp)) (Nat.le_refl _) ((HB3.out.cell (p := ⟨0, 0, none⟩) h0).trans HM.out) (Nat.lt_of_lt_of_le h0 hsz)).mono ?_
 rintro z w4 ⟨⟨A, c, rfl, hrd⟩, hb⟩
 have HB4 := Lib.hid (bthen HB3.out hb)
 clear hb hrd hex hrl b_o
 have hev : (if (mayExprB [opT 1, opT 2, opC 7] && bindB ⟨[], []⟩) = true then evalT ⟨[], []⟩ [opT 1, opT 2, opC 7] else (noT, 1)) = (⟨2, 3, ⟨#[]⟩, []⟩, 0) := awake_eval
 rw [hev]
 clear hev
 go_upto_region 2 with fail
 generalize hW : World.alloc _ _ = w5
 obtain ⟨hb, hz5⟩ := al1 hW
 have b_t := n11 hW
 have HB5 := Lib.hid (bthen HB4.out hb)
 clear hb hW
 have k_t := b_t.cell
 go_wp2_with fail
 go_ret
 exact ⟨rfl, HB5.out⟩
open Go.ChangeShapes Go.WideShapes Go.ChangeAt Go.RowKit
set_option maxRecDepth 100000 in
set_option maxHeartbeats 2000000 in
theorem size_any : ∀ (dp : Nat), dp ≤ 6 → ∀ (d B : Nat) (ts : List Tm) (A : Option Addr) (c : Nat) (n0 : Int) (w : World), RL (TmR d) w B ts A → B ≤ w.heap.size → ts.length ≤ 140737488351232 → 0 ≤ n0 → n0 < 100 →
   Calls Tryz.prog 58 #[.slice A ts.length c, .int .i64 n0, .int .i64 (dp : Int)] w fun e w' => (∃ m : Int, e = .returned (.int .i64 m) ∧ 0 ≤ m ∧ m ≤ 100) ∧ Below w.heap.size w w' := by
 intro dp
 induction dp with
 | zero =>
   intro _ d B ts A c n0 w hl hB hn h0 h1
   have hdp0 : ¬ (((0 : Nat) : Int) > 0) := by omega
   go_enter Tryz.func58, Tryz.ntmps58
   go_wp2_with fail
   go_loopw [1, 11] (fun v i wr => ∃ (k : Nat) (n : Int), k ≤ ts.length ∧ i = .int .i64 k ∧ v = .int .i64 n ∧ 0 ≤ n ∧ n < 100 ∧ Below w.heap.size w wr) (fun _ i _ => ts.length - (intOf i).toNat)
   case atStart => exact ⟨0, n0, Nat.zero_le _, rfl, rfl, h0, h1, Below.refl _ _⟩
   case round =>
     obtain ⟨k, n, hk, rfl, rfl, hn0, hn1, hbw⟩ := hrel
     by_cases hlt : k < ts.length
     · obtain ⟨b, off, rfl, hb⟩ := hl.base hbw hB (by omega)
       obtain ⟨t, vs, hx, hlen, hcell, hr⟩ := hl.at0 hbw hB hlt
       obtain ⟨Ax, cx, rfl, g1, g2, g3, g4, g5, hrl⟩ := RTm.cells hr
       have c0 : wr.cell? ⟨b, off + k * 4, none⟩ = some (.int .i64 t.kind) := hcell 0 _ rfl
       have c1 : wr.cell? ⟨b, off + k * 4 + 1, none⟩ = some (.int .i64 t.n) := hcell 1 _ rfl
       have c2 : wr.cell? ⟨b, off + k * 4 + 2, none⟩ = some (.string t.s) := hcell 2 _ rfl
       have c3 : wr.cell? ⟨b, off + k * 4 + 3, none⟩ = some (.slice Ax t.l.length cx) := hcell 3 _ rfl
       have hszr := hbw.size
       have HB := Lib.hid (fun o : Obj => hbw.alloc hszr o)
       clear hcell hlen hx hr
       go_wp2_with fail
       · go_ret
         exact ⟨⟨100, rfl, by omega, by omega⟩, HB.out _⟩
       · go_roundw
         case rel => exact ⟨k + 1, _, by omega, by go_num, rfl, by omega, by omega, HB.out _⟩
         case measure => simp [intOf]; omega
       · go_ret
         exact ⟨⟨100, rfl, by omega, by omega⟩, HB.out _⟩
     · go_wp2_with fail
       go_ret
       exact ⟨⟨n, rfl, hn0, by omega⟩, hbw⟩
 | succ dp ih =>
   intro hdp d B ts A c n0 w hl hB hn h0 h1
   have IH := Lib.hid (ih (by omega))
   clear ih
   have hdp0 : ((dp + 1 : Nat) : Int) > 0 := by omega
   have hdp1 : (((dp + 1 : Nat) : Int) == 0) = false := by simp; omega
   have hdp2 : ((dp + 1 : Nat) : Int) - 1 = (dp : Int) := by omega
   have hdp3 : ((dp + 1 : Nat) : Int) ≤ 6 := by omega
   have HDP := Lib.hid hdp2
   generalize hD : ((dp + 1 : Nat) : Int) = D at *
   clear hD hdp2
   go_enter Tryz.func58, Tryz.ntmps58
   go_wp2_with fail
   go_loopw [1, 11] (fun v i wr => ∃ (k : Nat) (n : Int), k ≤ ts.length ∧ i = .int .i64 k ∧ v = .int .i64 n ∧ 0 ≤ n ∧ n < 100 ∧ Below w.heap.size w wr) (fun _ i _ => ts.length - (intOf i).toNat)
   case atStart => exact ⟨0, n0, Nat.zero_le _, rfl, rfl, h0, h1, Below.refl _ _⟩
   case round =>
     obtain ⟨k, n, hk, rfl, rfl, hn0, hn1, hbw⟩ := hrel
     by_cases hlt : k < ts.length
     · obtain ⟨b, off, rfl, hb⟩ := hl.base hbw hB (by omega)
       obtain ⟨t, vs, hx, hlen, hcell, hr⟩ := hl.at0 hbw hB hlt
       obtain ⟨Ax, cx, rfl, g1, g2, g3, g4, g5, hrl⟩ := RTm.cells hr
       have c0 : wr.cell? ⟨b, off + k * 4, none⟩ = some (.int .i64 t.kind) := hcell 0 _ rfl
       have c1 : wr.cell? ⟨b, off + k * 4 + 1, none⟩ = some (.int .i64 t.n) := hcell 1 _ rfl
       have c2 : wr.cell? ⟨b, off + k * 4 + 2, none⟩ = some (.string t.s) := hcell 2 _ rfl
       have c3 : wr.cell? ⟨b, off + k * 4 + 3, none⟩ = some (.slice Ax t.l.length cx) := hcell 3 _ rfl
       have hszr := hbw.size
       have HB := Lib.hid (fun o : Obj => hbw.alloc hszr o)
       clear hcell hlen hx hr
       go_wp2_with fail
       · rw [HDP.out]
         refine (IH.out (d - 1) B t.l Ax cx _ _ ((RTms.rl hrl).keep (HB.out _) hB) (Nat.le_trans hB (HB.out _).size) (by omega) (by omega) (by omega)).mono ?_
         rintro e w1 ⟨⟨m, rfl, hm0, hm1⟩, hb1⟩
         have HB1 := Lib.hid ((HB.out _).trans (hb1.mono (HB.out _).size))
         clear hb1
         go_wp2_with fail
         · go_roundw
           case rel => exact ⟨k + 1, m, by omega, by go_num, rfl, by omega, by omega, HB1.out⟩
           case measure => simp [intOf]; omega
         · go_ret
           exact ⟨⟨100, rfl, by omega, by omega⟩, HB1.out⟩
       · go_ret
         exact ⟨⟨100, rfl, by omega, by omega⟩, HB.out _⟩
     · go_wp2_with fail
       go_ret
       exact ⟨⟨n, rfl, hn0, by omega⟩, hbw⟩
set_option maxRecDepth 100000 in
set_option maxHeartbeats 2000000 in
theorem bigSize_any {d B : Nat} {t : Tm} {vs : List Value} {w : World} (hr : RTm w B d t vs) (hB : B ≤ w.heap.size) :
   Calls Tryz.prog 29 #[.agg vs.toArray] w fun e w' => (∃ m : Int, e = .returned (.int .i64 m) ∧ 0 ≤ m ∧ m ≤ 100) ∧ Below w.heap.size w w' := by
 have HR := Lib.hid hr
 obtain ⟨Ax, cx, rfl, g1, g2, g3, g4, g5, hrl⟩ := RTm.cells hr
 have HB := Lib.hid (fun o : Obj => (Below.refl w.heap.size w).alloc (Nat.le_refl _) o)
 clear hr hrl
 go_enter Tryz.func29, Tryz.ntmps29
 go_wp2_with fail
 have HW := Lib.hid ((HB.out (.cells #[.int .i64 t.kind, .int .i64 t.n, .string t.s, .slice Ax t.l.length cx] 33)).trans ((Below.refl (w.alloc (.cells #[.int .i64 t.kind, .int .i64 t.n, .string t.s, .slice Ax t.l.length cx] 33)).heap.size (w.alloc (.cells #[.int .i64 t.kind, .int .i64 t.n, .string t.s, .slice Ax t.l.length cx] 33))).alloc (Nat.le_refl _) (.cells #[.int .i64 t.kind, .int .i64 t.n, .string t.s, .slice Ax t.l.length cx] 33) |>.mono (HB.out (.cells #[.int .i64 t.kind, .int .i64 t.n, .string t.s, .slice Ax t.l.length cx] 33)).size))
 have y0 : ((w.alloc (.cells #[.int .i64 t.kind, .int .i64 t.n, .string t.s, .slice Ax t.l.length cx] 33)).alloc (.cells #[.int .i64 t.kind, .int .i64 t.n, .string t.s, .slice Ax t.l.length cx] 33)).cell? ⟨w.heap.size + 1, 0, none⟩ = some (.int .i64 t.kind) := by go_simp
 have y1 : ((w.alloc (.cells #[.int .i64 t.kind, .int .i64 t.n, .string t.s, .slice Ax t.l.length cx] 33)).alloc (.cells #[.int .i64 t.kind, .int .i64 t.n, .string t.s, .slice Ax t.l.length cx] 33)).cell? ⟨w.heap.size + 1, 1, none⟩ = some (.int .i64 t.n) := by go_simp
 have y2 : ((w.alloc (.cells #[.int .i64 t.kind, .int .i64 t.n, .string t.s, .slice Ax t.l.length cx] 33)).alloc (.cells #[.int .i64 t.kind, .int .i64 t.n, .string t.s, .slice Ax t.l.length cx] 33)).cell? ⟨w.heap.size + 1, 2, none⟩ = some (.string t.s) := by go_simp
 have y3 : ((w.alloc (.cells #[.int .i64 t.kind, .int .i64 t.n, .string t.s, .slice Ax t.l.length cx] 33)).alloc (.cells #[.int .i64 t.kind, .int .i64 t.n, .string t.s, .slice Ax t.l.length cx] 33)).cell? ⟨w.heap.size + 1, 3, none⟩ = some (.slice Ax t.l.length cx) := by go_simp
 have ysz : w.heap.size + 1 < ((w.alloc (.cells #[.int .i64 t.kind, .int .i64 t.n, .string t.s, .slice Ax t.l.length cx] 33)).alloc (.cells #[.int .i64 t.kind, .int .i64 t.n, .string t.s, .slice Ax t.l.length cx] 33)).heap.size := by go_simp
 generalize ((w.alloc (.cells #[.int .i64 t.kind, .int .i64 t.n, .string t.s, .slice Ax t.l.length cx] 33)).alloc (.cells #[.int .i64 t.kind, .int .i64 t.n, .string t.s, .slice Ax t.l.length cx] 33)) = W at *
 have hl : RL (TmR d) W W.heap.size [t] (some ⟨w.heap.size + 1, 0, none⟩) := RL.one (x := t) ysz ((TmR d).wide (Nat.le_trans hB HW.out.size) ((TmR d).keep HW.out hB HR.out)) (fun j v hv => by
   rcases j with _ | _ | _ | _ | j
   · simp only [List.getElem?_cons_zero, Option.some.injEq] at hv; rw [← hv]; exact y0
   · simp only [List.getElem?_cons_succ, List.getElem?_cons_zero, Option.some.injEq] at hv; rw [← hv]; exact y1
   · simp only [List.getElem?_cons_succ, List.getElem?_cons_zero, Option.some.injEq] at hv; rw [← hv]; exact y2
   · simp only [List.getElem?_cons_succ, List.getElem?_cons_zero, Option.some.injEq] at hv; rw [← hv]; exact y3
   · simp at hv)
 refine (size_any 6 (by omega) d _ [t] _ 1 0 W hl (Nat.le_refl _) (by simp) (by omega) (by omega)).mono ?_
 rintro e w1 ⟨⟨m, rfl, hm0, hm1⟩, hb1⟩
 have HB1 := Lib.hid (HW.out.trans (hb1.mono HW.out.size))
 clear hb1
 go_wp2_with fail
 go_ret
 exact ⟨⟨m, rfl, hm0, hm1⟩, HB1.out⟩
open Go.ChangeShapes Go.WideShapes Go.ChangeAt Go.RowKit
set_option maxRecDepth 100000 in
set_option maxHeartbeats 2000000 in
theorem light12_any {d B : Nat} {e : List OpD} {vs : List Value} {w : World} (he : (ExR d).rd w B e vs) (hB : B ≤ w.heap.size) :
   Calls Tryz.prog 9 #[.agg vs.toArray] w fun z w' => (∃ q : Bool, z = .returned (.bool q)) ∧ Below w.heap.size w w' := by
 obtain ⟨_, rfl, A, c, rfl, hc1, hc2, hl⟩ := he
 have HL := Lib.hid hl
 simp only [OpR] at hc2
 clear hl
 by_cases hn : e.length ≤ 100
 · have hn' : decide ((e.length : Int) > 100) = false := by simp; omega
   go_enter Tryz.func9, Tryz.ntmps9
   go_wp2_with fail
   go_loopw [12] (fun i wr => ∃ k : Nat, k ≤ e.length ∧ i = .int .i64 k ∧ Below w.heap.size w wr) (fun i _ => e.length - (intOf i).toNat)
   case atStart => exact ⟨0, Nat.zero_le _, rfl, below_new rfl⟩
   case round =>
     obtain ⟨k, hk, rfl, hbw⟩ := hrel
     by_cases hlt : k < e.length
     · obtain ⟨bo, oo, rfl, hob⟩ := HL.out.base hbw hB (by omega)
       obtain ⟨o, vs, ho, hlen, hcell, hr⟩ := HL.out.at_ hbw hB hlt
       obtain ⟨Aq, cq, rfl, _, _, _, ht⟩ := OpR.cells (show (OpR d).rd wr B o vs from hr)
       have d0 : wr.cell? ⟨bo, oo + k * 7, none⟩ = some (.int .i64 o.kind) := hcell 0 _ rfl
       have d1 : wr.cell? ⟨bo, oo + k * 7 + 1, none⟩ = some (.int .i64 o.term.kind) := hcell 1 _ rfl
       have d2 : wr.cell? ⟨bo, oo + k * 7 + 2, none⟩ = some (.int .i64 o.term.n) := hcell 2 _ rfl
       have d3 : wr.cell? ⟨bo, oo + k * 7 + 3, none⟩ = some (.string o.term.s) := hcell 3 _ rfl
       have d4 : wr.cell? ⟨bo, oo + k * 7 + 4, none⟩ = some (.slice Aq o.term.l.length cq) := hcell 4 _ rfl
       have d5 : wr.cell? ⟨bo, oo + k * 7 + 5, none⟩ = some (.int .i64 o.code) := hcell 5 _ rfl
       have d6 : wr.cell? ⟨bo, oo + k * 7 + 6, none⟩ = some (.int .i64 o.skip) := hcell 6 _ rfl
       have hszr := hbw.size
       have HR := Lib.hid ht
       have HBW := Lib.hid hbw
       have hBr : B ≤ wr.heap.size := Nat.le_trans hB hszr
       clear hcell hlen ho hr ht hbw
       go_wp2_with fail
       generalize hW : World.alloc _ _ = W
       obtain ⟨hb1, hz⟩ := al1 hW
       have HB1 := Lib.hid hb1
       clear hW hb1 d0 d1 d2 d3 d4 d5 d6
       refine (bigSize_any (d := d) (B := B) (t := o.term) (vs := [_, _, _, _]) ((TmR d).keep HB1.out hBr HR.out) (Nat.le_trans hBr HB1.out.size)).mono ?_
       rintro z w3 ⟨⟨m, rfl, hm0, hm1⟩, hb3⟩
       have HB3 := Lib.hid (bthen HBW.out (bthen HB1.out hb3))
       clear hb3
       go_wp2_with fail
       · go_ret
         exact ⟨⟨false, rfl⟩, HB3.out⟩
       · go_roundw
         case rel => exact ⟨k + 1, by omega, by go_num, HB3.out⟩
         case measure => simp [intOf]; omega
     · go_wp2_with fail
       go_ret
       exact ⟨⟨true, rfl⟩, hbw⟩
 · have hn' : decide ((e.length : Int) > 100) = true := by simp; omega
   go_enter Tryz.func9, Tryz.ntmps9
   go_wp2_with fail
   go_ret
   exact ⟨⟨false, rfl⟩, below_new rfl⟩
set_option maxRecDepth 100000 in
set_option maxHeartbeats 2000000 in
theorem lightBind_any {d B cn ct : Nat} {b : Bd} {An At : Option Addr} {w : World} (hn : b.names.length * 8 ≤ 140737488351232) (ht : RL (TmR d) w B b.terms At) (ht1 : b.terms.length * 32 ≤ 140737488351232) (hB : B ≤ w.heap.size) :
   Calls Tryz.prog 10 #[.agg (bdV An b.names.length cn At b.terms.length ct)] w fun z w' => (∃ q : Bool, z = .returned (.bool q)) ∧ Below w.heap.size w w' := by
 have HT := Lib.hid ht
 clear ht
 unfold bdV
 go_enter Tryz.func10, Tryz.ntmps10
 go_wp2_with fail
 go_loopw [3, 12] (fun v i wr => ∃ (k : Nat) (n : Int), k ≤ b.terms.length ∧ i = .int .i64 k ∧ v = .int .i64 n ∧ 0 ≤ n ∧ n ≤ 140737488351232 ∧ Below w.heap.size w wr) (fun _ i _ => b.terms.length - (intOf i).toNat)
 case atStart => exact ⟨0, _, Nat.zero_le _, rfl, rfl, by omega, by omega, below_new rfl⟩
 case round =>
   obtain ⟨k, n, hk, rfl, rfl, hn0, hn1, hbw⟩ := hrel
   by_cases hlt : k < b.terms.length
   · obtain ⟨bt, ot, rfl, hob⟩ := HT.out.base hbw hB (by omega)
     obtain ⟨t, vs, hx, hlen, hcell, hr⟩ := HT.out.at_ hbw hB hlt
     have hr' := hr
     obtain ⟨Ax, cx, rfl, g1, g2, g3, g4, g5, _⟩ := RTm.cells hr'
     have c0 : wr.cell? ⟨bt, ot + k * 4, none⟩ = some (.int .i64 t.kind) := hcell 0 _ rfl
     have c1 : wr.cell? ⟨bt, ot + k * 4 + 1, none⟩ = some (.int .i64 t.n) := hcell 1 _ rfl
     have c2 : wr.cell? ⟨bt, ot + k * 4 + 2, none⟩ = some (.string t.s) := hcell 2 _ rfl
     have c3 : wr.cell? ⟨bt, ot + k * 4 + 3, none⟩ = some (.slice Ax t.l.length cx) := hcell 3 _ rfl
     have hszr := hbw.size
     have HR := Lib.hid hr
     have HBW := Lib.hid hbw
     have hBr : B ≤ wr.heap.size := Nat.le_trans hB hszr
     clear hcell hlen hx hr hr' hbw
     go_wp2_with fail
     generalize hW : World.alloc _ _ = W
     obtain ⟨hb1, hz⟩ := al1 hW
     have HB1 := Lib.hid hb1
     clear hW hb1 c0 c1 c2 c3
     refine (bigSize_any (d := d) (B := B) (t := t) (vs := [_, _, _, _]) ((TmR d).keep HB1.out hBr HR.out) (Nat.le_trans hBr HB1.out.size)).mono ?_
     rintro z w3 ⟨⟨m, rfl, hm0, hm1⟩, hb3⟩
     have HB3 := Lib.hid (bthen HBW.out (bthen HB1.out hb3))
     clear hb3
     go_wp2_with fail
     · go_ret
       exact ⟨⟨false, rfl⟩, HB3.out⟩
     · go_roundw
       case rel => exact ⟨k + 1, n + m, by omega, by go_num, by go_num, by omega, by omega, HB3.out⟩
       case measure => simp [intOf]; omega
   · go_wp2_with fail
     go_ret
     exact ⟨⟨_, rfl⟩, hbw⟩
end Go.Proofs.YtiplipdigabidaaGreat
