/- viaticumref11.Eval, True. -/
import Derived.Test.YtiplipdigabidaaGreatRe3
import Derived.Test.YtiplipdigabidaaGreatRb5c
import Derived.Test.YtiplipdigabidaaGreatApp
import Derived.Test.YtiplipdigabidaaGreatBinLaw
import Derived.Test.YtiplipdigabidaaGreatLight12
import Derived.Deep.RegionWith
set_option linter.unusedVariables false
set_option linter.unusedSimpArgs false
namespace Go.Proofs.YtiplipdigabidaaGreat
open Go.ChangeShapes Go.WideShapes Go.ChangeAt Go.RowKit
theorem sv_src {w : World} {b : Nat} {x : SV} {T : TypeId} (h : w.heap[b]? = some (.cells #[.int .i64 x.t.kind, .int .i64 x.t.n, .string x.t.s, .slice x.a x.t.l.length x.c] T (0, 0))) : SrcR SvR w 0 (some ⟨b, 0, none⟩) [x] := Blk.srcs ⟨T, h⟩ (Flat.one (R := SvR) rfl)
theorem OwnR.farN {α : Type} {R : Reader α} {e : TypeId} {w : World} {base D : Nat} {v : Value} {xs : List α} (h : OwnR R e w base 0 v xs) (hne : v.ownBlock ≠ some D) (i : Nat) (u : Value) : OwnR R e (w.setCell ⟨D, i, none⟩ u) base 0 v xs := by
 obtain ⟨cells, h, hf⟩ := h
 refine ⟨cells, ⟨h.1, ?_⟩, hf.keep ((Below.refl 0 w).setCell (p := ⟨D, i, none⟩) (Nat.zero_le _) u) (Nat.le_refl _)⟩
 rcases h.2 with h2 | ⟨g, cap, cur, hv, hg, hh, r⟩
 · exact .inl h2
 · refine .inr ⟨g, cap, cur, hv, hg, ?_, r⟩
   rw [hv] at hne
   simp only [Value.ownBlock, ne_eq, Option.some.injEq] at hne
   exact (Below.heap_setCell w ⟨D, i, none⟩ u g hne).trans hh
def StkLow (g : Nat) (xs : List SV) (A : Option Addr) : Prop := (∀ b, A = some b → b.block < g) ∧ ∀ x ∈ xs, ∀ a, x.a = some a → a.block < g
theorem StkQ.low {base D c g : Nat} {w : World} {xs : List SV} {A : Option Addr} (h : StkQ base D w xs A c) (hg : w.heap.size ≤ g) : StkLow g xs A :=
 ⟨fun b hb => Nat.lt_of_lt_of_le (h.row b hb).2 hg, fun x hx a ha => Nat.lt_of_lt_of_le (h.lt x hx a ha).2 hg⟩
theorem StkQ.far {base D c g : Nat} {w : World} {xs : List SV} {A : Option Addr} (h : StkQ base D w xs A c) (hl : StkLow g xs A) (i : Nat) (u : Value) : StkQ base D (w.setCell ⟨g, i, none⟩ u) xs A c := by
 refine ⟨h.own.farN (fun e => ?_) i u, fun x hx => (h.tms x hx).keep ((Below.refl 0 w).setCell (p := ⟨g, i, none⟩) (Nat.zero_le _) u) fun a ha => Below.heap_setCell w ⟨g, i, none⟩ u a.block (by have := hl.2 x hx a ha; show a.block ≠ g; omega), h.sep, fun x hx a ha => by rw [World.size_setCell]; exact h.lt x hx a ha⟩
 rcases hA : A with _ | b
 · rw [hA] at e; cases e
 · rw [hA] at e
   simp only [Value.ownBlock, Option.some.injEq] at e
   have := hl.1 b hA
   omega
theorem StkQ.far4 {base D c g : Nat} {w : World} {xs : List SV} {A : Option Addr} (h : StkQ base D w xs A c) (hl : StkLow g xs A) (u0 u1 u2 u3 : Value) : StkQ base D ((((w.setCell ⟨g, 0, none⟩ u0).setCell ⟨g, 1, none⟩ u1).setCell ⟨g, 2, none⟩ u2).setCell ⟨g, 3, none⟩ u3) xs A c :=
 (((h.far hl 0 u0).far hl 1 u1).far hl 2 u2).far hl 3 u3
set_option maxRecDepth 100000 in
set_option maxHeartbeats 8000000 in
theorem refEval_any {D B cn ct : Nat} {ops : List OpD} {evs : List Value} {b : Bd} {An At : Option Addr} {w : World} {m : Int} (he : (ExR (D + 1)).rd w B ops evs) (hn : RL StrR w B (b.names.map mkS) An) (ht : RL (TmR (D + 1)) w B b.terms At) (hn1 : b.names.length * 8 ≤ 140737488351232) (hB : B ≤ w.heap.size) (hm0 : w.cell? ⟨0, 0, none⟩ = some (.int .i64 m)) (h0 : 0 < w.heap.size) :
   Calls Tryz.prog 22 #[.agg evs.toArray, .agg (bdV An b.names.length cn At b.terms.length ct)] w fun e w' => ReadE D w w' (evalE b ops) e := by
 obtain ⟨i0, hi0, hz0, hz1, hz2⟩ := info_parts infoTm
 have HE := Lib.hid he
 have HN := Lib.hid hn
 have HT := Lib.hid ht
 have HM0 := Lib.hid hm0
 clear hn ht hm0
 unfold bdV
 generalize hres : evalE b ops = res
 have HRES := Lib.hid hres
 clear hres
 obtain ⟨_, rfl, Ao, co, rfl, hc1, hc2, hl⟩ := he
 have HL := Lib.hid hl
 simp only [OpR] at hc2
 clear hl
 go_enter Tryz.func22, Tryz.ntmps22
 go_wp2_with fail
 generalize hW : World.alloc _ _ = w1
 obtain ⟨hb1, hz⟩ := al3 hW
 have b_e := n31 hW
 have b_b := n32 hW
 have b_r := n33 hW
 have HB1 := Lib.hid hb1
 clear hW
 refine (refMayExpr_any (d := D + 1) (vs := [_]) ((ExR (D + 1)).keep hb1 hB HE.out) (Nat.le_trans hB hb1.size)).mono ?_
 rintro e w2 ⟨rfl, hb2⟩
 have HB2 := Lib.hid (bthen HB1.out hb2)
 have b_e2 := b_e.later hb2
 have b_b2 := b_b.later hb2
 have b_r2 := b_r.later hb2
 clear b_e b_b b_r hb1 hb2
 by_cases hm : mayExprB ops = true
 rotate_left
 · simp only [Bool.not_eq_true] at hm
   have HE0 : Hid (res = (noT, 1)) := Lib.hid (by rw [← HRES.out]; unfold evalE; rw [hm]; rfl)
   rw [hm]
   clear hm
   have k_b := b_b2.cell
   have l_b := b_b2.lt
   have k_r := b_r2.cell
   have f_r := b_r2.free
   have l_r := b_r2.lt
   go_wp2_with fail
   refine bodyPost_ret (ret_tm2 rfl rfl (put4b b_r2 (.int .i64 0) (.int .i64 0) (.string ⟨#[]⟩) (.slice none 0 0)) rfl) rfl ?_
   rw [HE0.out]
   exact ⟨⟨none, 0, rfl, (TmOwn.no (base := 0)).rtm⟩, put4u HB2.out (by omega) _ _ _ _⟩
 have HM := Lib.hid hm
 rw [hm]
 clear hm
 have k_b := b_b2.cell
 have l_b := b_b2.lt
 go_wp2_with fail
 refine (refMayBind_any (d := D) (cn := cn) (ct := ct) (HN.out.keep HB2.out hB) (HT.out.keep HB2.out hB) (Nat.le_trans hB HB2.out.size)).mono ?_
 rintro e w3 ⟨rfl, hb3⟩
 have HB3 := Lib.hid (bthen HB2.out hb3)
 have b_e3 := b_e2.later hb3
 have b_b3 := b_b2.later hb3
 have b_r3 := b_r2.later hb3
 clear b_e2 b_b2 b_r2 hb3 k_b l_b
 by_cases hk : bindB b = true
 rotate_left
 · simp only [Bool.not_eq_true] at hk
   have HE0 : Hid (res = (noT, 1)) := Lib.hid (by rw [← HRES.out]; unfold evalE; rw [hk, Bool.and_false]; rfl)
   rw [hk]
   clear hk
   have k_r := b_r3.cell
   have f_r := b_r3.free
   have l_r := b_r3.lt
   go_wp2_with fail
   refine bodyPost_ret (ret_tm2 rfl rfl (put4b b_r3 (.int .i64 0) (.int .i64 0) (.string ⟨#[]⟩) (.slice none 0 0)) rfl) rfl ?_
   rw [HE0.out]
   exact ⟨⟨none, 0, rfl, (TmOwn.no (base := 0)).rtm⟩, put4u HB3.out (by omega) _ _ _ _⟩
 have HK := Lib.hid hk
 have HBD := Lib.hid (bindB_parts hk).1
 rw [hk]
 clear hk
 have HEV0 : Hid (res = evalT b ops) := Lib.hid (by rw [← HRES.out]; unfold evalE; rw [HM.out, HK.out]; rfl)
 have HWH : Hid (wholeG 0 ops = true ∧ ops.length ≤ 32) := Lib.hid (by
   have := HM.out
   unfold mayExprB at this
   rw [Bool.and_eq_true, decide_eq_true_eq] at this
   exact ⟨this.2, this.1⟩)
 have h32 := HWH.out.2
 have HSZ3 := Lib.hid HB3.out.size
 have lr3 := b_r3.lt
 have le3 := b_e3.lt
 have lb3 := b_b3.lt
 have hB3 := Nat.le_trans hB HB3.out.size
 go_wp2_with fail
 go_loopw [6, 7] (fun v6 v7 wr => ∃ (xs : List SV) (k n c : Nat) (A : Option Addr), v6 = .slice A n c ∧ Hid (xs.length = n) ∧ v7 = .int .i64 k ∧ k ≤ ops.length ∧ xs.length ≤ k ∧ Hid (Below w3.heap.size w3 wr) ∧ Hid (StkQ w3.heap.size D wr xs A c) ∧ Hid (wholeG xs.length (ops.drop k) = true ∧ evR b ops [] = evR b (ops.drop k) (xs.map SV.t))) (fun _ v7 _ => ops.length - (intOf v7).toNat)
 case atStart => exact ⟨[], 0, 0, 0, none, rfl, Lib.hid rfl, rfl, Nat.zero_le _, Nat.le_refl _, Lib.hid (Below.refl _ _), Lib.hid (StkQ.nil _ _ _), Lib.hid ⟨HWH.out.1, rfl⟩⟩
 case round =>
   obtain ⟨xs, k, n, c, A, rfl, HNL, rfl, hk, hxk, HWR, HST, HEV⟩ := hrel
   have HBW := Lib.hid (bthen HB3.out HWR.out)
   have BE := Lib.hid (b_e3.later HWR.out)
   have BB := Lib.hid (b_b3.later HWR.out)
   have BR := Lib.hid (b_r3.later HWR.out)
   have hsz := HWR.out.size
   have hBr : B ≤ wr.heap.size := by omega
   have hx32 : xs.length ≤ 32 := by omega
   have k_e := BE.out.cell
   have l_e := BE.out.lt
   by_cases hlt : k < ops.length
   · have hlt' : decide ((k : Int) < ops.length) = true := by simp; omega
     have HL1 := Lib.hid (HL.out.keep HBW.out hB)
     obtain ⟨bo, oo, rfl, hob⟩ := HL1.out.base (Below.refl _ _) hBr (by omega)
     obtain ⟨o, vs, ho, hlen, hcell, hr⟩ := HL1.out.at_ (Below.refl _ _) hBr hlt
     obtain ⟨Aq, cq, rfl, ho1, ho2, ho3, hot⟩ := OpR.cells (show (OpR (D + 1)).rd wr B o vs from hr)
     have d0 : wr.cell? ⟨bo, oo + k * 7, none⟩ = some (.int .i64 o.kind) := hcell 0 _ rfl
     have d1 : wr.cell? ⟨bo, oo + k * 7 + 1, none⟩ = some (.int .i64 o.term.kind) := hcell 1 _ rfl
     have d2 : wr.cell? ⟨bo, oo + k * 7 + 2, none⟩ = some (.int .i64 o.term.n) := hcell 2 _ rfl
     have d3 : wr.cell? ⟨bo, oo + k * 7 + 3, none⟩ = some (.string o.term.s) := hcell 3 _ rfl
     have d4 : wr.cell? ⟨bo, oo + k * 7 + 4, none⟩ = some (.slice Aq o.term.l.length cq) := hcell 4 _ rfl
     have d5 : wr.cell? ⟨bo, oo + k * 7 + 5, none⟩ = some (.int .i64 o.code) := hcell 5 _ rfl
     have d6 : wr.cell? ⟨bo, oo + k * 7 + 6, none⟩ = some (.int .i64 o.skip) := hcell 6 _ rfl
     have HO := Lib.hid ho
     have HOT := Lib.hid hot
     have HOI := Lib.hid (And.intro ho1 (And.intro ho2 ho3))
     clear hcell hlen ho hr hot ho1 ho2
     go_upto_region 8 with fail
     generalize hW : World.alloc _ _ = w4
     obtain ⟨hb4, hz4⟩ := al1 hW
     have b_o := n11 hW
     have HWR4 := Lib.hid (bthen HWR.out hb4)
     have HBW4 := Lib.hid (bthen HBW.out hb4)
     have BE4 := Lib.hid (BE.out.later hb4)
     have BB4 := Lib.hid (BB.out.later hb4)
     have BR4 := Lib.hid (BR.out.later hb4)
     have HST4 := Lib.hid (HST.out.later hb4)
     have HOT4 := Lib.hid (HOT.out.below hb4 hBr)
     have BO4 := Lib.hid b_o
     have lo4 := b_o.lt
     have hsz4 := hb4.size
     have hB4 := Nat.le_trans hBr hsz4
     obtain ⟨hal, hnd, _, _⟩ := round_law (b := b) (ts := xs.map SV.t) HO.out (by rw [List.length_map]; exact HEV.out.1) HEV.out.2 h32
     rw [List.length_map] at hnd
     have HAL := Lib.hid hal
     clear hW hb4 hz4 b_o d0 d1 d2 d3 d4 d5 d6 k_e l_e
     have k_o := BO4.out.cell
     have l_o := BO4.out.lt
     have hkI : (0 : Int) ≤ (k : Int) := Int.natCast_nonneg _
     rcases alone_kind hal with hk_ | hk_ | hk_ | hk_ | hk_
     · have HKD := Lib.hid hk_
       have kk1 : (o.kind == 1) = true := by simp [hk_]
       have kk2 : (o.kind == 2) = false := by simp [hk_]
       have kk3 : (o.kind == 3) = false := by simp [hk_]
       have kk4 : (o.kind == 4) = false := by simp [hk_]
       have kk5 : (o.kind == 5) = false := by simp [hk_]
       clear hk_
       obtain rfl : n = xs.length := HNL.out.symm
       have hml := may_leaves (alone_term HAL.out HKD.out)
       have HML := Lib.hid hml.1
       have hm16 := hml.2
       clear hml
       have HSV : Hid (stepE b o (xs.map SV.t) = ((valR b o.term (xs.map SV.t)).1, (valR b o.term (xs.map SV.t)).2, false)) := Lib.hid (step_val _ HKD.out)
       obtain ⟨rp1, rp2⟩ := round_plain (b := b) (ts := xs.map SV.t) HO.out (by rw [List.length_map]; exact HEV.out.1) HEV.out.2 h32 (by rw [HSV.out])
       rw [HSV.out] at rp1 rp2
       have RP1 := Lib.hid rp1
       have RP2 := Lib.hid rp2
       clear rp1 rp2 hal hnd
       go_upto_region 17 with fail
       generalize hW : World.alloc _ _ = w5
       obtain ⟨hb5, hz5⟩ := al1 hW
       have b_t := n11 hW
       have HWR5 := Lib.hid (bthen HWR4.out hb5)
       have HBW5 := Lib.hid (bthen HBW4.out hb5)
       have BE5 := Lib.hid (BE4.out.later hb5)
       have BB5 := Lib.hid (BB4.out.later hb5)
       have BR5 := Lib.hid (BR4.out.later hb5)
       have BO5 := Lib.hid (BO4.out.later hb5)
       have HST5 := Lib.hid (HST4.out.later hb5)
       have HOT5 := Lib.hid (HOT4.out.below hb5 hB4)
       have BT5 := Lib.hid b_t
       have lt5 := b_t.lt
       have hsz5 := hb5.size
       have hB5 := Nat.le_trans hB4 hsz5
       clear hW hb5 hz5 b_t k_o l_o
       by_cases hv : o.term.kind = 1
       · have kv : (o.term.kind == 1) = true := by simp [hv]
         have HV := Lib.hid hv
         clear hv
         have k_t := BT5.out.cell
         have l_t := BT5.out.lt
         have k_b := BB5.out.cell
         have l_b := BB5.out.lt
         go_wp2_with fail
         refine (refLook_any (d := D) (cn := cn) (ct := ct) (name := o.term.s) (HN.out.keep HBW5.out hB) (HT.out.keep HBW5.out hB) hB5 hn1).mono ?_
         intro z w6 hz
         rw [if_pos HK.out] at hz
         rcases hlk : lookR b (bs o.term.s) with _ | u
         · rw [hlk] at hz
           obtain ⟨⟨A6, c6, rfl⟩, hb6⟩ := hz.no
           have HVR : Hid (valR b o.term (xs.map SV.t) = (8, xs.map SV.t)) := Lib.hid (by unfold valR; rw [if_pos HV.out, hlk])
           have HE0 : Hid (res = (noT, 8)) := Lib.hid (by
             have h1 := RP1.out
             rw [HVR.out] at h1
             have h2 : (evR b ops []).1 = 8 := h1 (show (8 : Int) ≠ 0 by decide)
             rw [HEV0.out]
             unfold evalT
             rw [h2, if_pos (by decide)])
           have HBW6 := Lib.hid (bthen HBW5.out hb6)
           have BR6 := Lib.hid (BR5.out.later hb6)
           clear hb6 k_t l_t k_b l_b hlk
           go_upto_region 19 with fail
           generalize hW : World.alloc _ _ = w7
           obtain ⟨hb7, hz7⟩ := al1 hW
           have HBW7 := Lib.hid (bthen HBW6.out hb7)
           have BR7 := Lib.hid (BR6.out.later hb7)
           clear hW hb7 hz7
           have k_r := BR7.out.cell
           have f_r := BR7.out.free
           have l_r := BR7.out.lt
           go_wp2_with fail
           refine bodyPost_ret (ret_tm2 rfl rfl (put4b BR7.out (.int .i64 0) (.int .i64 0) (.string ⟨#[]⟩) (.slice none 0 0)) rfl) rfl ?_
           rw [HE0.out]
           exact ⟨⟨none, 0, rfl, (TmOwn.no (base := 0)).rtm⟩, put4u HBW7.out (by omega) _ _ _ _⟩
         · rw [hlk] at hz
           obtain ⟨⟨A6, c6, rfl, hto6⟩, hb6⟩ := hz.yes
           have HVR : Hid (valR b o.term (xs.map SV.t) = (0, xs.map SV.t ++ [u])) := Lib.hid (by unfold valR; rw [if_pos HV.out, hlk])
           have HU := Lib.hid (fixed_leaves (HBD.out.fixed u (lookR_mem hlk)))
           have hu16 := HU.out.2
           have HTO6 := Lib.hid hto6
           have HWR6 := Lib.hid (bthen HWR5.out hb6)
           have HBW6 := Lib.hid (bthen HBW5.out hb6)
           have BT6 := Lib.hid (BT5.out.later hb6)
           have BR6 := Lib.hid (BR5.out.later hb6)
           have HST6 := Lib.hid (HST5.out.later hb6)
           have hsz6 := hb6.size
           clear hb6 k_t l_t k_b l_b hlk hto6
           go_upto_region 19 with fail
           generalize hW : World.alloc _ _ = w7
           obtain ⟨hb7, hz7⟩ := al1 hW
           have b_x := n11 hW
           have HWR7 := Lib.hid (bthen HWR6.out hb7)
           have BX7 := Lib.hid b_x
           have BT7 := Lib.hid (BT6.out.later hb7)
           have HST7 := Lib.hid (HST6.out.later hb7)
           have HTO7 := Lib.hid (HTO6.out.later hb7)
           clear hW hb7 hz7 b_x
           have k_x := BX7.out.cell
           have l_x := BX7.out.lt
           have f_t := BT7.out.free
           have k_t := BT7.out.cell
           have l_t := BT7.out.lt
           go_upto_region 22 with fail
           have BT8 := Lib.hid (put4b BT7.out (.int .i64 u.kind) (.int .i64 u.n) (.string u.s) (.slice A6 u.l.length c6))
           have HTO8 := Lib.hid (HTO7.out.put4 (g := w4.heap.size) (by omega) (.int .i64 u.kind) (.int .i64 u.n) (.string u.s) (.slice A6 u.l.length c6))
           have HWR8 := Lib.hid (put4u HWR7.out (g := w4.heap.size) (by omega) (.int .i64 u.kind) (.int .i64 u.n) (.string u.s) (.slice A6 u.l.length c6))
           have HST8 := Lib.hid (HST7.out.far4 (g := w4.heap.size) (HST4.out.low (Nat.le_refl _)) (.int .i64 u.kind) (.int .i64 u.n) (.string u.s) (.slice A6 u.l.length c6))
           clear k_x l_x f_t k_t l_t
           generalize ((((w7.setCell ⟨w4.heap.size, 0, none⟩ (.int .i64 u.kind)).setCell ⟨w4.heap.size, 1, none⟩ (.int .i64 u.n)).setCell ⟨w4.heap.size, 2, none⟩ (.string u.s)).setCell ⟨w4.heap.size, 3, none⟩ (.slice A6 u.l.length c6)) = w8 at *
           have k_t := BT8.out.cell
           have l_t := BT8.out.lt
           have HVAL : Hid (∀ A7 c7, wholeG (xs ++ [(⟨u, A7, c7⟩ : SV)]).length (ops.drop (k + 1)) = true ∧ evR b ops [] = evR b (ops.drop (k + 1)) ((xs ++ [(⟨u, A7, c7⟩ : SV)]).map SV.t)) := Lib.hid (fun A7 c7 => by
             have h := RP2.out
             rw [HVR.out] at h
             obtain ⟨h1, h2⟩ := h rfl
             rw [map_snoc]
             exact ⟨by simpa using h1, h2⟩)
           go_wp2_with fail
           refine (ownq_any (d := D) (t := u) (vs := [_, _, _, _]) HTO8.out.rtm (Nat.le_refl _) HU.out.1 hu16).mono ?_
           rintro e wo ⟨⟨A7, c7, rfl, hto⟩, hb7⟩
           have HTO := Lib.hid hto
           have HWRo := Lib.hid (bthen HWR8.out hb7)
           have HSTo := Lib.hid (HST8.out.later hb7)
           have hszo := hb7.size
           have hsz8w := HWR8.out.size
           clear hto hb7 k_t l_t
           go_wp2_with ((
             at_builtin
             refine wpList_append_F (R := SvR) (e := 33) (base := w3.heap.size) (xs := xs) (ys := [⟨u, A7, c7⟩]) rfl (.tmp 85) (.tmp 88) 26 rfl (bytes := 56) Tryz.underlying26 hi0 hz0 hz1 hz2 rfl (show 0 < 4 by omega) single_sv rfl (HSTo.out.own.later ((Below.refl _ _).alloc (Nat.le_refl _) _) (Nat.zero_le _)) rfl (sv_src (x := ⟨u, A7, c7⟩) hp11) rfl (by simp only [List.length_cons, List.length_nil]; omega) (by omega) (by rw [World.size_alloc]; omega) ?_
             intro v wn_ hown hg hf
             obtain ⟨An2, cn2, hv⟩ : ∃ A c, v = .slice A (xs.length + 1) c := by have := hown.form; rwa [List.length_append, List.length_singleton] at this
             subst hv
             have HB8 := Lib.hid ((Below.refl wo.heap.size wo).alloc (Nat.le_refl _) (.cells #[.int .i64 (u).kind, .int .i64 (u).n, .string (u).s, .slice A7 (u).l.length c7] 33))
             have happ := (HSTo.out.later HB8.out).app (x := ⟨u, A7, c7⟩) (HTO.out.at_.later HB8.out) (HST8.out.apart (Nat.le_refl _) fun a ha => (HTO.out.blk a ha).1) (fun a ha => ⟨by have := (HTO.out.blk a ha).1; omega, Nat.lt_of_lt_of_le (HTO.out.blk a ha).2 HB8.out.size⟩) (by rw [World.size_alloc]; omega) hown hg hf
             have HAP := Lib.hid happ.1
             have HWR9 := Lib.hid ((HWRo.out.trans (HB8.out.mono HWRo.out.size)).trans happ.2)
             clear hown hg hf happ))
           go_roundw
           case rel => exact ⟨xs ++ [⟨u, A7, c7⟩], k + 1, _, cn2, An2, rfl, Lib.hid (by rw [List.length_append, List.length_singleton]), by go_num, by omega, by rw [List.length_append, List.length_singleton]; omega, HWR9, HAP, Lib.hid (HVAL.out A7 c7)⟩
           case measure => simp [intOf]; omega
       · have kv : (o.term.kind == 1) = false := by simp [hv]
         have HVR : Hid (valR b o.term (xs.map SV.t) = (0, xs.map SV.t ++ [o.term])) := Lib.hid (by unfold valR; rw [if_neg hv])
         clear hv
         have k_t := BT5.out.cell
         have l_t := BT5.out.lt
         go_upto_region 22 with fail
         clear k_t l_t
         have k_t := BT5.out.cell
         have l_t := BT5.out.lt
         have HVAL : Hid (∀ A7 c7, wholeG (xs ++ [(⟨o.term, A7, c7⟩ : SV)]).length (ops.drop (k + 1)) = true ∧ evR b ops [] = evR b (ops.drop (k + 1)) ((xs ++ [(⟨o.term, A7, c7⟩ : SV)]).map SV.t)) := Lib.hid (fun A7 c7 => by
           have h := RP2.out
           rw [HVR.out] at h
           obtain ⟨h1, h2⟩ := h rfl
           rw [map_snoc]
           exact ⟨by simpa using h1, h2⟩)
         go_wp2_with fail
         refine (ownq_any (d := D) (t := o.term) (vs := [_, _, _, _]) HOT5.out hB5 HML.out hm16).mono ?_
         rintro e wo ⟨⟨A7, c7, rfl, hto⟩, hb7⟩
         have HTO := Lib.hid hto
         have HWRo := Lib.hid (bthen HWR5.out hb7)
         have HSTo := Lib.hid (HST5.out.later hb7)
         have hszo := hb7.size
         have hsz5w := HWR5.out.size
         clear hto hb7 k_t l_t
         go_wp2_with ((
           at_builtin
           refine wpList_append_F (R := SvR) (e := 33) (base := w3.heap.size) (xs := xs) (ys := [⟨o.term, A7, c7⟩]) rfl (.tmp 85) (.tmp 88) 26 rfl (bytes := 56) Tryz.underlying26 hi0 hz0 hz1 hz2 rfl (show 0 < 4 by omega) single_sv rfl (HSTo.out.own.later ((Below.refl _ _).alloc (Nat.le_refl _) _) (Nat.zero_le _)) rfl (sv_src (x := ⟨o.term, A7, c7⟩) hp11) rfl (by simp only [List.length_cons, List.length_nil]; omega) (by omega) (by rw [World.size_alloc]; omega) ?_
           intro v wn_ hown hg hf
           obtain ⟨An2, cn2, hv⟩ : ∃ A c, v = .slice A (xs.length + 1) c := by have := hown.form; rwa [List.length_append, List.length_singleton] at this
           subst hv
           have HB8 := Lib.hid ((Below.refl wo.heap.size wo).alloc (Nat.le_refl _) (.cells #[.int .i64 (o.term).kind, .int .i64 (o.term).n, .string (o.term).s, .slice A7 (o.term).l.length c7] 33))
           have happ := (HSTo.out.later HB8.out).app (x := ⟨o.term, A7, c7⟩) (HTO.out.at_.later HB8.out) (HST5.out.apart (Nat.le_refl _) fun a ha => (HTO.out.blk a ha).1) (fun a ha => ⟨by have := (HTO.out.blk a ha).1; omega, Nat.lt_of_lt_of_le (HTO.out.blk a ha).2 HB8.out.size⟩) (by rw [World.size_alloc]; omega) hown hg hf
           have HAP := Lib.hid happ.1
           have HWR9 := Lib.hid ((HWRo.out.trans (HB8.out.mono HWRo.out.size)).trans happ.2)
           clear hown hg hf happ))
         go_roundw
         case rel => exact ⟨xs ++ [⟨o.term, A7, c7⟩], k + 1, _, cn2, An2, rfl, Lib.hid (by rw [List.length_append, List.length_singleton]), by go_num, by omega, by rw [List.length_append, List.length_singleton]; omega, HWR9, HAP, Lib.hid (HVAL.out A7 c7)⟩
         case measure => simp [intOf]; omega
     · have HKD := Lib.hid hk_
       have kk1 : (o.kind == 1) = false := by simp [hk_]
       have kk2 : (o.kind == 2) = true := by simp [hk_]
       have kk3 : (o.kind == 3) = false := by simp [hk_]
       have kk4 : (o.kind == 4) = false := by simp [hk_]
       have kk5 : (o.kind == 5) = false := by simp [hk_]
       clear hk_
       obtain ⟨ys, x, hys⟩ := last_split (xs := xs) (by rw [needs_2 HKD.out] at hnd; omega)
       subst hys
       rw [List.length_append, List.length_singleton] at hx32 hxk
       have HSV : Hid (stepE b o ((ys ++ [x]).map SV.t) = ((unR o.code x.t).2, ys.map SV.t ++ [(unR o.code x.t).1], false)) := Lib.hid (by rw [map_snoc]; exact step_un _ _ HKD.out)
       obtain ⟨rp1, rp2⟩ := round_plain (b := b) (ts := (ys ++ [x]).map SV.t) HO.out (by rw [List.length_map]; exact HEV.out.1) HEV.out.2 h32 (by rw [HSV.out])
       rw [HSV.out] at rp1 rp2
       have HCON : Hid (∀ (wq : World) (vs : List Value), RTm wq wq.heap.size (D + 1) x.t vs → Calls Tryz.prog 55 #[.int .i64 o.code, .agg vs.toArray] wq fun z w' => TermE D wq w' (unR o.code x.t) z) := Lib.hid (fun wq vs h1 => unaryq_any h1 (Nat.le_refl _))
       generalize unR o.code x.t = rq at *
       have RP1 := Lib.hid rp1
       have RP2 := Lib.hid rp2
       clear rp1 rp2 hal hnd
       obtain ⟨g, rfl, hg1, hg2, hg3, hg4, hcell, hfr, htop⟩ := HST4.out.top
       obtain rfl : n = ys.length + 1 := by have := HNL.out; rw [List.length_append, List.length_singleton] at this; omega
       have e0 : w4.cell? ⟨g, ys.length * 4, none⟩ = some (.int .i64 x.t.kind) := hcell 0 _ rfl
       have e1 : w4.cell? ⟨g, ys.length * 4 + 1, none⟩ = some (.int .i64 x.t.n) := hcell 1 _ rfl
       have e2 : w4.cell? ⟨g, ys.length * 4 + 2, none⟩ = some (.string x.t.s) := hcell 2 _ rfl
       have e3 : w4.cell? ⟨g, ys.length * 4 + 3, none⟩ = some (.slice x.a x.t.l.length x.c) := hcell 3 _ rfl
       have HTX := Lib.hid (HST4.out.tms x (by simp))
       clear hcell hfr htop
       have hI0 : (0 : Int) ≤ (ys.length : Int) := Int.natCast_nonneg _
       have hI1 : (ys.length : Int) < ((ys.length + 1 : Nat) : Int) := by omega
       have hI2 : (ys.length : Int) < (ys.length : Int) + 1 := by omega
       have hgw : g < w4.heap.size := by omega
       have HSL : Hid (∀ {w' : World}, Below w4.heap.size w4 w' → (w'.cell? ⟨g, ys.length * 4, none⟩ = some (.int .i64 x.t.kind) ∧ w'.cell? ⟨g, ys.length * 4 + 1, none⟩ = some (.int .i64 x.t.n) ∧ w'.cell? ⟨g, ys.length * 4 + 2, none⟩ = some (.string x.t.s) ∧ w'.cell? ⟨g, ys.length * 4 + 3, none⟩ = some (.slice x.a x.t.l.length x.c) ∧ w'.cell? ⟨wr.heap.size, 5, none⟩ = some (.int .i64 o.code))) := Lib.hid (fun hb => ⟨(hb.cell (p := ⟨g, ys.length * 4, none⟩) hgw).trans e0, (hb.cell (p := ⟨g, ys.length * 4 + 1, none⟩) hgw).trans e1, (hb.cell (p := ⟨g, ys.length * 4 + 2, none⟩) hgw).trans e2, (hb.cell (p := ⟨g, ys.length * 4 + 3, none⟩) hgw).trans e3, (hb.cell (p := ⟨wr.heap.size, 5, none⟩) lo4).trans (BO4.out.cell 5)⟩)
       go_upto_region 24 with fail
       go_cut [13, 14] (fun v_1 v_2 wx => ∃ (q : Nat) (A5 : Option Addr) (c5 : Nat), v_1 = .pointer (some ⟨q, 0, none⟩) ∧ v_2 = .int .i64 rq.2 ∧ Blk wx q #[.int .i64 rq.1.kind, .int .i64 rq.1.n, .string rq.1.s, .slice A5 rq.1.l.length c5] ∧ TmOwn D w4.heap.size wx rq.1 A5 c5 ∧ Below w4.heap.size w4 wx ∧ w4.heap.size ≤ q)
       case first =>
         go_region_held3 (fun w' => w'.cell? ⟨g, ys.length * 4, none⟩ = some (.int .i64 x.t.kind) ∧ w'.cell? ⟨g, ys.length * 4 + 1, none⟩ = some (.int .i64 x.t.n) ∧ w'.cell? ⟨g, ys.length * 4 + 2, none⟩ = some (.string x.t.s) ∧ w'.cell? ⟨g, ys.length * 4 + 3, none⟩ = some (.slice x.a x.t.l.length x.c) ∧ w'.cell? ⟨wr.heap.size, 5, none⟩ = some (.int .i64 o.code)) (exact HSL.out (by repeat' (first | (with_reducible exact Below.refl _ _) | (with_reducible exact HB5.out) | (with_reducible refine Below.drew ?_) | (with_reducible refine Below.alloc ?_ (by first | omega | (simp only [World.size_drew, World.size_alloc]; omega)) _) | (with_reducible refine Below.setCell ?_ (by show w4.heap.size ≤ _; first | omega | (simp only [World.size_drew, World.size_alloc]; omega)) _)))) (first
           | (go_at_call 55
              refine (HCON.out _ [_, _, _, _] (HTX.out.later (by repeat' (first | (with_reducible exact Below.refl _ _) | (with_reducible refine Below.drew ?_) | (with_reducible refine Below.alloc ?_ (by first | omega | (simp only [World.size_drew, World.size_alloc]; omega)) _)))).1).mono ?_
              rintro e w5 ⟨⟨A5, c5, rfl, hown⟩, hb5⟩
              have HOWN := Lib.hid hown
              have HB5 : Hid (Below w4.heap.size w4 w5) := Lib.hid (Below.trans (by repeat' (first | (with_reducible exact Below.refl _ _) | (with_reducible refine Below.drew ?_) | (with_reducible refine Below.alloc ?_ (by first | omega | (simp only [World.size_drew, World.size_alloc]; omega)) _))) (hb5.mono (by first | omega | (simp only [World.size_drew, World.size_alloc]; omega))))
              have hsz5 := HB5.out.size
              try have BQ := Lib.hid ((Blk.drew (Blk.new w4 zero4 33)).later hb5)
              try have BQ := Lib.hid ((Blk.new w4 zero4 33).later hb5)
              try have k_q := BQ.out.cell
              try have l_q := BQ.out.lt
              try have f_q := BQ.out.free
              clear hown hb5))
         all_goals
           go_wp2_with fail
           go_meet
           first
             | exact ⟨_, A5, c5, rfl, rfl, put4b BQ.out (.int .i64 rq.1.kind) (.int .i64 rq.1.n) (.string rq.1.s) (.slice A5 rq.1.l.length c5), (HOWN.out.put4 (g := w4.heap.size) (by first | omega | (simp only [World.size_drew, World.size_alloc]; omega)) _ _ _ _).lower (by first | omega | (simp only [World.size_drew, World.size_alloc]; omega)), put4u HB5.out (Nat.le_refl _) _ _ _ _, Nat.le_refl _⟩
             | exact ⟨_, A5, c5, rfl, rfl, (⟨_, hp11⟩ : Blk _ _ _), (HOWN.out.later (by repeat' (first | (with_reducible exact Below.refl _ _) | (with_reducible refine Below.drew ?_) | (with_reducible refine Below.alloc ?_ (by first | omega | (simp only [World.size_drew, World.size_alloc]; omega)) _)))).lower (by first | omega | (simp only [World.size_drew, World.size_alloc]; omega)), HB5.out.trans (by repeat' (first | (with_reducible exact Below.refl _ _) | (with_reducible refine Below.drew ?_) | (with_reducible refine Below.alloc ?_ (by first | omega | (simp only [World.size_drew, World.size_alloc]; omega)) _))), hsz5⟩
       case rest =>
         obtain ⟨q, A5, c5, rfl, rfl, hbq, hown, hbc, hq⟩ := hcut
         generalize wc = w6 at *
         have BQ6 := Lib.hid hbq
         have HOWN6 := Lib.hid hown
         have HWR6 := Lib.hid (HWR4.out.trans (hbc.mono HWR4.out.size))
         have HBW6 := Lib.hid (HBW4.out.trans (hbc.mono HBW4.out.size))
         have HST6 := Lib.hid (HST4.out.later hbc)
         have BR6 := Lib.hid (BR4.out.later hbc)
         have hsz6 := hbc.size
         clear hbq hown hbc k_o l_o e0 e1 e2 e3
         by_cases hq0 : rq.2 = 0
         rotate_left
         · have HE0 : Hid (res = (noT, rq.2)) := Lib.hid (by
             have h1 := RP1.out hq0
             rw [HEV0.out]
             unfold evalT
             rw [h1, if_pos hq0])
           have kq : (rq.2 != 0) = true := by simpa using hq0
           clear hq0
           have k_r := BR6.out.cell
           have f_r := BR6.out.free
           have l_r := BR6.out.lt
           go_wp2_with fail
           refine bodyPost_ret (ret_tm2 rfl rfl (put4b BR6.out (.int .i64 0) (.int .i64 0) (.string ⟨#[]⟩) (.slice none 0 0)) rfl) rfl ?_
           rw [HE0.out]
           exact ⟨⟨none, 0, rfl, (TmOwn.no (base := 0)).rtm⟩, put4u HBW6.out (by omega) _ _ _ _⟩
         have kq : (rq.2 != 0) = false := by simpa using hq0
         have HVAL : Hid (∀ A7 c7, wholeG (ys ++ [(⟨rq.1, A7, c7⟩ : SV)]).length (ops.drop (k + 1)) = true ∧ evR b ops [] = evR b (ops.drop (k + 1)) ((ys ++ [(⟨rq.1, A7, c7⟩ : SV)]).map SV.t)) := Lib.hid (fun A7 c7 => by
           obtain ⟨h1, h2⟩ := RP2.out hq0
           rw [map_snoc]
           exact ⟨by simpa using h1, h2⟩)
         clear hq0
         have k_q := BQ6.out.cell
         have l_q := BQ6.out.lt
         obtain ⟨g', eg, hg1', hg2', hg3', hg4', hcell', hfr, htop⟩ := HST6.out.top
         simp only [Option.some.injEq, Addr.mk.injEq, and_true] at eg
         subst eg
         have HNEW := Lib.hid (htop ⟨rq.1, A5, c5⟩ HOWN6.out.at_ (fun a ha => by have := (HOWN6.out.blk a ha).1; omega) (fun a ha => ⟨by have := (HOWN6.out.blk a ha).1; omega, (HOWN6.out.blk a ha).2⟩))
         have e0 : w6.cell? ⟨g, ys.length * 4, none⟩ = some (.int .i64 x.t.kind) := hcell' 0 _ rfl
         have e1 : w6.cell? ⟨g, ys.length * 4 + 1, none⟩ = some (.int .i64 x.t.n) := hcell' 1 _ rfl
         have e2 : w6.cell? ⟨g, ys.length * 4 + 2, none⟩ = some (.string x.t.s) := hcell' 2 _ rfl
         have e3 : w6.cell? ⟨g, ys.length * 4 + 3, none⟩ = some (.slice x.a x.t.l.length x.c) := hcell' 3 _ rfl
         have HWR9 := Lib.hid ((((HWR6.out.setCell (p := ⟨g, ys.length * 4, none⟩) hg2 (.int .i64 rq.1.kind)).setCell (p := ⟨g, ys.length * 4 + 1, none⟩) hg2 (.int .i64 rq.1.n)).setCell (p := ⟨g, ys.length * 4 + 2, none⟩) hg2 (.string rq.1.s)).setCell (p := ⟨g, ys.length * 4 + 3, none⟩) hg2 (.slice A5 rq.1.l.length c5))
         clear htop hcell'
         go_wp2_with fail
         go_roundw
         case rel => exact ⟨ys ++ [⟨rq.1, A5, c5⟩], k + 1, _, c, _, rfl, Lib.hid (by rw [List.length_append, List.length_singleton]), by go_num, by omega, by rw [List.length_append, List.length_singleton]; omega, HWR9, HNEW, Lib.hid (HVAL.out A5 c5)⟩
         case measure => simp [intOf]; omega
     · have HKD := Lib.hid hk_
       have kk1 : (o.kind == 1) = false := by simp [hk_]
       have kk2 : (o.kind == 2) = false := by simp [hk_]
       have kk3 : (o.kind == 3) = true := by simp [hk_]
       have kk4 : (o.kind == 4) = false := by simp [hk_]
       have kk5 : (o.kind == 5) = false := by simp [hk_]
       clear hk_
       obtain ⟨zs, x, hys⟩ := last_split (xs := xs) (by rw [needs_3 HKD.out] at hnd; omega)
       subst hys
       rw [needs_3 HKD.out, List.length_append, List.length_singleton] at hnd
       obtain ⟨ys, y, hys⟩ := last_split (xs := zs) (by omega)
       subst hys
       simp only [List.length_append, List.length_singleton] at hx32 hxk
       have HSV : Hid (stepE b o ((ys ++ [y] ++ [x]).map SV.t) = ((binR o.code y.t x.t).2, ys.map SV.t ++ [(binR o.code y.t x.t).1], false)) := Lib.hid (by rw [map_snoc, map_snoc]; exact step_bin _ _ _ HKD.out)
       obtain ⟨rp1, rp2⟩ := round_plain (b := b) (ts := (ys ++ [y] ++ [x]).map SV.t) HO.out (by rw [List.length_map]; exact HEV.out.1) HEV.out.2 h32 (by rw [HSV.out])
       rw [HSV.out] at rp1 rp2
       have HCON : Hid (∀ (wq : World) (vs ws : List Value), RTm wq wq.heap.size (D + 1) y.t vs → RTm wq wq.heap.size (D + 1) x.t ws → wq.cell? ⟨0, 0, none⟩ = some (.int .i64 m) → 0 < wq.heap.size → Calls Tryz.prog 16 #[.int .i64 o.code, .agg vs.toArray, .agg ws.toArray] wq fun z w' => TermE D wq w' (binR o.code y.t x.t) z) := Lib.hid (fun wq vs ws h1 h2 h3 h4 => binaryq_any h1 h2 (Nat.le_refl _) h3 h4)
       generalize binR o.code y.t x.t = rq at *
       have RP1 := Lib.hid rp1
       have RP2 := Lib.hid rp2
       clear rp1 rp2 hal hnd
       obtain ⟨g, rfl, hg1, hg2, hg3, hg4, hcell, hfr, htop⟩ := HST4.out.top
       obtain ⟨g', eg, _, _, _, _, hcell', _, _⟩ := HST4.out.drop.top
       simp only [Option.some.injEq, Addr.mk.injEq, and_true] at eg
       subst eg
       obtain rfl : n = ys.length + 1 + 1 := by have := HNL.out; simp only [List.length_append, List.length_singleton] at this; omega
       simp only [List.length_append, List.length_singleton] at hcell hg3
       have e0 : w4.cell? ⟨g, (ys.length + 1) * 4, none⟩ = some (.int .i64 x.t.kind) := hcell 0 _ rfl
       have e1 : w4.cell? ⟨g, (ys.length + 1) * 4 + 1, none⟩ = some (.int .i64 x.t.n) := hcell 1 _ rfl
       have e2 : w4.cell? ⟨g, (ys.length + 1) * 4 + 2, none⟩ = some (.string x.t.s) := hcell 2 _ rfl
       have e3 : w4.cell? ⟨g, (ys.length + 1) * 4 + 3, none⟩ = some (.slice x.a x.t.l.length x.c) := hcell 3 _ rfl
       have e4 : w4.cell? ⟨g, ys.length * 4, none⟩ = some (.int .i64 y.t.kind) := hcell' 0 _ rfl
       have e5 : w4.cell? ⟨g, ys.length * 4 + 1, none⟩ = some (.int .i64 y.t.n) := hcell' 1 _ rfl
       have e6 : w4.cell? ⟨g, ys.length * 4 + 2, none⟩ = some (.string y.t.s) := hcell' 2 _ rfl
       have e7 : w4.cell? ⟨g, ys.length * 4 + 3, none⟩ = some (.slice y.a y.t.l.length y.c) := hcell' 3 _ rfl
       have HTX := Lib.hid (HST4.out.tms x (by simp))
       have HTY := Lib.hid (HST4.out.tms y (by simp))
       have CM0 : Hid (∀ {wq : World}, Below w4.heap.size w4 wq → wq.cell? ⟨0, 0, none⟩ = some (.int .i64 m)) := Lib.hid (fun hb => (hb.cell (p := ⟨0, 0, none⟩) (by show 0 < w4.heap.size; omega)).trans ((HBW4.out.cell (p := ⟨0, 0, none⟩) h0).trans HM0.out))
       clear hcell hcell' hfr htop
       have hI0 : (0 : Int) ≤ (ys.length : Int) := Int.natCast_nonneg _
       have hI1 : (ys.length : Int) < ((ys.length + 1 + 1 : Nat) : Int) := by omega
       have hI2 : (ys.length : Int) < (ys.length : Int) + 1 + 1 := by omega
       have hI3 : (0 : Int) ≤ (ys.length : Int) + 1 := by omega
       have hI4 : (ys.length : Int) + 1 < ((ys.length + 1 + 1 : Nat) : Int) := by omega
       have hI5 : (ys.length : Int) + 1 < (ys.length : Int) + 1 + 1 := by omega
       have hI7 : (ys.length : Int) ≤ (c : Int) := by omega
       have hI8 : IntKind.i64.wrap (ys.length : Int) = (ys.length : Int) := by rw [IntKind.wrap_i64]; omega
       have hgw : g < w4.heap.size := by omega
       have HSL : Hid (∀ {w' : World}, Below w4.heap.size w4 w' → (w'.cell? ⟨g, ys.length * 4, none⟩ = some (.int .i64 y.t.kind) ∧ w'.cell? ⟨g, ys.length * 4 + 1, none⟩ = some (.int .i64 y.t.n) ∧ w'.cell? ⟨g, ys.length * 4 + 2, none⟩ = some (.string y.t.s) ∧ w'.cell? ⟨g, ys.length * 4 + 3, none⟩ = some (.slice y.a y.t.l.length y.c) ∧ w'.cell? ⟨g, (ys.length + 1) * 4, none⟩ = some (.int .i64 x.t.kind) ∧ w'.cell? ⟨g, (ys.length + 1) * 4 + 1, none⟩ = some (.int .i64 x.t.n) ∧ w'.cell? ⟨g, (ys.length + 1) * 4 + 2, none⟩ = some (.string x.t.s) ∧ w'.cell? ⟨g, (ys.length + 1) * 4 + 3, none⟩ = some (.slice x.a x.t.l.length x.c) ∧ w'.cell? ⟨wr.heap.size, 5, none⟩ = some (.int .i64 o.code))) := Lib.hid (fun hb => ⟨(hb.cell (p := ⟨g, ys.length * 4, none⟩) hgw).trans e4, (hb.cell (p := ⟨g, ys.length * 4 + 1, none⟩) hgw).trans e5, (hb.cell (p := ⟨g, ys.length * 4 + 2, none⟩) hgw).trans e6, (hb.cell (p := ⟨g, ys.length * 4 + 3, none⟩) hgw).trans e7, (hb.cell (p := ⟨g, (ys.length + 1) * 4, none⟩) hgw).trans e0, (hb.cell (p := ⟨g, (ys.length + 1) * 4 + 1, none⟩) hgw).trans e1, (hb.cell (p := ⟨g, (ys.length + 1) * 4 + 2, none⟩) hgw).trans e2, (hb.cell (p := ⟨g, (ys.length + 1) * 4 + 3, none⟩) hgw).trans e3, (hb.cell (p := ⟨wr.heap.size, 5, none⟩) lo4).trans (BO4.out.cell 5)⟩)
       go_upto_region 29 with fail
       go_cut [15, 16] (fun v_1 v_2 wx => ∃ (q : Nat) (A5 : Option Addr) (c5 : Nat), v_1 = .pointer (some ⟨q, 0, none⟩) ∧ v_2 = .int .i64 rq.2 ∧ Blk wx q #[.int .i64 rq.1.kind, .int .i64 rq.1.n, .string rq.1.s, .slice A5 rq.1.l.length c5] ∧ TmOwn D w4.heap.size wx rq.1 A5 c5 ∧ Below w4.heap.size w4 wx ∧ w4.heap.size ≤ q)
       case first =>
         go_region_held3 (fun w' => w'.cell? ⟨g, ys.length * 4, none⟩ = some (.int .i64 y.t.kind) ∧ w'.cell? ⟨g, ys.length * 4 + 1, none⟩ = some (.int .i64 y.t.n) ∧ w'.cell? ⟨g, ys.length * 4 + 2, none⟩ = some (.string y.t.s) ∧ w'.cell? ⟨g, ys.length * 4 + 3, none⟩ = some (.slice y.a y.t.l.length y.c) ∧ w'.cell? ⟨g, (ys.length + 1) * 4, none⟩ = some (.int .i64 x.t.kind) ∧ w'.cell? ⟨g, (ys.length + 1) * 4 + 1, none⟩ = some (.int .i64 x.t.n) ∧ w'.cell? ⟨g, (ys.length + 1) * 4 + 2, none⟩ = some (.string x.t.s) ∧ w'.cell? ⟨g, (ys.length + 1) * 4 + 3, none⟩ = some (.slice x.a x.t.l.length x.c) ∧ w'.cell? ⟨wr.heap.size, 5, none⟩ = some (.int .i64 o.code)) (exact HSL.out (by repeat' (first | (with_reducible exact Below.refl _ _) | (with_reducible exact HB5.out) | (with_reducible refine Below.drew ?_) | (with_reducible refine Below.alloc ?_ (by first | omega | (simp only [World.size_drew, World.size_alloc]; omega)) _) | (with_reducible refine Below.setCell ?_ (by show w4.heap.size ≤ _; first | omega | (simp only [World.size_drew, World.size_alloc]; omega)) _)))) (first
           | (go_at_call 16
              refine (HCON.out _ [_, _, _, _] [_, _, _, _] (HTY.out.later (by repeat' (first | (with_reducible exact Below.refl _ _) | (with_reducible refine Below.drew ?_) | (with_reducible refine Below.alloc ?_ (by first | omega | (simp only [World.size_drew, World.size_alloc]; omega)) _)))).1 (HTX.out.later (by repeat' (first | (with_reducible exact Below.refl _ _) | (with_reducible refine Below.drew ?_) | (with_reducible refine Below.alloc ?_ (by first | omega | (simp only [World.size_drew, World.size_alloc]; omega)) _)))).1 (CM0.out (by repeat' (first | (with_reducible exact Below.refl _ _) | (with_reducible refine Below.drew ?_) | (with_reducible refine Below.alloc ?_ (by first | omega | (simp only [World.size_drew, World.size_alloc]; omega)) _)))) (by first | omega | (simp only [World.size_drew, World.size_alloc]; omega))).mono ?_
              rintro e w5 ⟨⟨A5, c5, rfl, hown⟩, hb5⟩
              have HOWN := Lib.hid hown
              have HB5 : Hid (Below w4.heap.size w4 w5) := Lib.hid (Below.trans (by repeat' (first | (with_reducible exact Below.refl _ _) | (with_reducible refine Below.drew ?_) | (with_reducible refine Below.alloc ?_ (by first | omega | (simp only [World.size_drew, World.size_alloc]; omega)) _))) (hb5.mono (by first | omega | (simp only [World.size_drew, World.size_alloc]; omega))))
              have hsz5 := HB5.out.size
              try have BQ := Lib.hid ((Blk.drew (Blk.new w4 zero4 33)).later hb5)
              try have BQ := Lib.hid ((Blk.new w4 zero4 33).later hb5)
              try have k_q := BQ.out.cell
              try have l_q := BQ.out.lt
              try have f_q := BQ.out.free
              clear hown hb5))
         all_goals
           go_wp2_with fail
           go_meet
           first
             | exact ⟨_, A5, c5, rfl, rfl, put4b BQ.out (.int .i64 rq.1.kind) (.int .i64 rq.1.n) (.string rq.1.s) (.slice A5 rq.1.l.length c5), (HOWN.out.put4 (g := w4.heap.size) (by first | omega | (simp only [World.size_drew, World.size_alloc]; omega)) _ _ _ _).lower (by first | omega | (simp only [World.size_drew, World.size_alloc]; omega)), put4u HB5.out (Nat.le_refl _) _ _ _ _, Nat.le_refl _⟩
             | exact ⟨_, A5, c5, rfl, rfl, (⟨_, hp11⟩ : Blk _ _ _), (HOWN.out.later (by repeat' (first | (with_reducible exact Below.refl _ _) | (with_reducible refine Below.drew ?_) | (with_reducible refine Below.alloc ?_ (by first | omega | (simp only [World.size_drew, World.size_alloc]; omega)) _)))).lower (by first | omega | (simp only [World.size_drew, World.size_alloc]; omega)), HB5.out.trans (by repeat' (first | (with_reducible exact Below.refl _ _) | (with_reducible refine Below.drew ?_) | (with_reducible refine Below.alloc ?_ (by first | omega | (simp only [World.size_drew, World.size_alloc]; omega)) _))), hsz5⟩
       case rest =>
         obtain ⟨q, A5, c5, rfl, rfl, hbq, hown, hbc, hq⟩ := hcut
         generalize wc = w6 at *
         have BQ6 := Lib.hid hbq
         have HOWN6 := Lib.hid hown
         have HWR6 := Lib.hid (HWR4.out.trans (hbc.mono HWR4.out.size))
         have HBW6 := Lib.hid (HBW4.out.trans (hbc.mono HBW4.out.size))
         have HST6 := Lib.hid (HST4.out.later hbc)
         have BR6 := Lib.hid (BR4.out.later hbc)
         have hsz6 := hbc.size
         clear hbq hown hbc k_o l_o e0 e1 e2 e3 e4 e5 e6 e7
         by_cases hq0 : rq.2 = 0
         rotate_left
         · have HE0 : Hid (res = (noT, rq.2)) := Lib.hid (by
             have h1 := RP1.out hq0
             rw [HEV0.out]
             unfold evalT
             rw [h1, if_pos hq0])
           have kq : (rq.2 != 0) = true := by simpa using hq0
           clear hq0
           have k_r := BR6.out.cell
           have f_r := BR6.out.free
           have l_r := BR6.out.lt
           go_wp2_with fail
           refine bodyPost_ret (ret_tm2 rfl rfl (put4b BR6.out (.int .i64 0) (.int .i64 0) (.string ⟨#[]⟩) (.slice none 0 0)) rfl) rfl ?_
           rw [HE0.out]
           exact ⟨⟨none, 0, rfl, (TmOwn.no (base := 0)).rtm⟩, put4u HBW6.out (by omega) _ _ _ _⟩
         have kq : (rq.2 != 0) = false := by simpa using hq0
         have HVAL : Hid (∀ A7 c7, wholeG (ys ++ [(⟨rq.1, A7, c7⟩ : SV)]).length (ops.drop (k + 1)) = true ∧ evR b ops [] = evR b (ops.drop (k + 1)) ((ys ++ [(⟨rq.1, A7, c7⟩ : SV)]).map SV.t)) := Lib.hid (fun A7 c7 => by
           obtain ⟨h1, h2⟩ := RP2.out hq0
           rw [map_snoc]
           exact ⟨by simpa using h1, h2⟩)
         clear hq0
         have k_q := BQ6.out.cell
         have l_q := BQ6.out.lt
         have HST7 := Lib.hid HST6.out.drop.drop
         have hwq := HWR6.out.size
         have HSL2 : Hid (∀ {w' : World}, Below w6.heap.size w6 w' → (w'.cell? ⟨q, 0, none⟩ = some (.int .i64 rq.1.kind) ∧ w'.cell? ⟨q, 1, none⟩ = some (.int .i64 rq.1.n) ∧ w'.cell? ⟨q, 2, none⟩ = some (.string rq.1.s) ∧ w'.cell? ⟨q, 3, none⟩ = some (.slice A5 rq.1.l.length c5))) := Lib.hid (fun hb => have h := (BQ6.out.later hb).cell; ⟨h 0, h 1, h 2, h 3⟩)
         have tok9 : True := trivial
         go_upto_region 32 with fail
         go_region_held3 (fun w' => w'.cell? ⟨q, 0, none⟩ = some (.int .i64 rq.1.kind) ∧ w'.cell? ⟨q, 1, none⟩ = some (.int .i64 rq.1.n) ∧ w'.cell? ⟨q, 2, none⟩ = some (.string rq.1.s) ∧ w'.cell? ⟨q, 3, none⟩ = some (.slice A5 rq.1.l.length c5)) (first | (exact HQ9.out) | (exact HSL2.out (by repeat' (first | (with_reducible exact Below.refl _ _) | (with_reducible refine Below.drew ?_) | (with_reducible refine Below.alloc ?_ (by first | omega | (simp only [World.size_drew, World.size_alloc]; omega)) _))))) (first
           | (refine step_append_F (R := SvR) (e := 33) rfl (.tmp 134) (.tmp 136) 26 rfl (bytes := 56) Tryz.underlying26 hi0 hz0 hz1 hz2 rfl (show 0 < 4 by omega) single_sv rfl (base := w3.heap.size) (xs := ys) (ys := [⟨rq.1, A5, c5⟩]) (HST7.out.own.later (by repeat' (first | (with_reducible exact Below.refl _ _) | (with_reducible refine Below.drew ?_) | (with_reducible refine Below.alloc ?_ (by first | omega | (simp only [World.size_drew, World.size_alloc]; omega)) _))) (Nat.zero_le _)) rfl (sv_src (x := ⟨rq.1, A5, c5⟩) (by first | exact hp11 | exact hp11d)) rfl (by simp only [List.length_cons, List.length_nil]; omega) (by omega) (by first | omega | (simp only [World.size_drew, World.size_alloc]; omega)) ?_
              intro v wn_ hown hg hf
              obtain ⟨An2, cn2, hv⟩ : ∃ A c, v = .slice A (ys.length + 1) c := by have := hown.form; rwa [List.length_append, List.length_singleton] at this
              subst hv
              have happ := (HST7.out.later (by repeat' (first | (with_reducible exact Below.refl _ _) | (with_reducible refine Below.drew ?_) | (with_reducible refine Below.alloc ?_ (by first | omega | (simp only [World.size_drew, World.size_alloc]; omega)) _)))).app (x := ⟨rq.1, A5, c5⟩) (HOWN6.out.at_.later (by repeat' (first | (with_reducible exact Below.refl _ _) | (with_reducible refine Below.drew ?_) | (with_reducible refine Below.alloc ?_ (by first | omega | (simp only [World.size_drew, World.size_alloc]; omega)) _)))) (HST4.out.drop.drop.apart (Nat.le_refl _) fun a ha => (HOWN6.out.blk a ha).1) (fun a ha => ⟨by have := (HOWN6.out.blk a ha).1; omega, by have := (HOWN6.out.blk a ha).2; first | omega | (simp only [World.size_drew, World.size_alloc]; omega)⟩) (by first | omega | (simp only [World.size_drew, World.size_alloc]; omega)) hown hg hf
              have HQ9 : Hid (wn_.cell? ⟨q, 0, none⟩ = some (.int .i64 rq.1.kind) ∧ wn_.cell? ⟨q, 1, none⟩ = some (.int .i64 rq.1.n) ∧ wn_.cell? ⟨q, 2, none⟩ = some (.string rq.1.s) ∧ wn_.cell? ⟨q, 3, none⟩ = some (.slice A5 rq.1.l.length c5)) := Lib.hid (have h := ((BQ6.out.later (by repeat' (first | (with_reducible exact Below.refl _ _) | (with_reducible refine Below.drew ?_) | (with_reducible refine Below.alloc ?_ (by first | omega | (simp only [World.size_drew, World.size_alloc]; omega)) _)))).grown hg (ne_own (by omega))).cell; ⟨h 0, h 1, h 2, h 3⟩)
              have HAP := Lib.hid happ.1
              have HWR9 := Lib.hid (HWR6.out.trans (Below.trans (by repeat' (first | (with_reducible exact Below.refl _ _) | (with_reducible refine Below.drew ?_) | (with_reducible refine Below.alloc ?_ (by first | omega | (simp only [World.size_drew, World.size_alloc]; omega)) _))) happ.2))
              clear hown hg hf happ))
         all_goals
           go_wp2_with fail
           go_roundw
           case rel => exact ⟨ys ++ [⟨rq.1, A5, c5⟩], k + 1, _, cn2, An2, rfl, Lib.hid (by rw [List.length_append, List.length_singleton]), by go_num, by omega, by rw [List.length_append, List.length_singleton]; omega, HWR9, HAP, Lib.hid (HVAL.out A5 c5)⟩
           case measure => simp [intOf]; omega
     · have HKD := Lib.hid hk_
       have kk1 : (o.kind == 1) = false := by simp [hk_]
       have kk2 : (o.kind == 2) = false := by simp [hk_]
       have kk3 : (o.kind == 3) = false := by simp [hk_]
       have kk4 : (o.kind == 4) = true := by simp [hk_]
       have kk5 : (o.kind == 5) = false := by simp [hk_]
       clear hk_
       obtain ⟨ys, x, hys⟩ := last_split (xs := xs) (by rw [needs_4 (.inl HKD.out)] at hnd; omega)
       subst hys
       rw [List.length_append, List.length_singleton] at hx32 hxk
       have HSV : Hid (stepE b o ((ys ++ [x]).map SV.t) = if x.t.kind ≠ 6 then (7, ys.map SV.t ++ [x.t], false) else if (decide (x.t.n = 1) == decide (o.kind = 5)) = true then (0, ys.map SV.t ++ [x.t], true) else (0, ys.map SV.t, false)) := Lib.hid (by rw [map_snoc]; exact step_lazy (ys.map SV.t) x.t (.inl HKD.out))
       have HRL := Lib.hid (round_law (b := b) (ts := (ys ++ [x]).map SV.t) HO.out (by rw [List.length_map]; exact HEV.out.1) HEV.out.2 h32)
       obtain ⟨g, rfl, hg1, hg2, hg3, hg4, hcell, hfr, htop⟩ := HST4.out.top
       obtain rfl : n = ys.length + 1 := by have := HNL.out; rw [List.length_append, List.length_singleton] at this; omega
       have e0 : w4.cell? ⟨g, ys.length * 4, none⟩ = some (.int .i64 x.t.kind) := hcell 0 _ rfl
       have e1 : w4.cell? ⟨g, ys.length * 4 + 1, none⟩ = some (.int .i64 x.t.n) := hcell 1 _ rfl
       clear hcell hfr htop hal hnd
       by_cases h6 : x.t.kind = 6
       rotate_left
       · have kx : (x.t.kind != 6) = true := by simpa using h6
         have HS7 : Hid ((stepE b o ((ys ++ [x]).map SV.t)).1 = 7) := Lib.hid (by rw [HSV.out, if_pos h6])
         have HE0 : Hid (res = (noT, 7)) := Lib.hid (by
           have h1 := HRL.out.2.2.1 (by rw [HS7.out]; decide)
           rw [HS7.out] at h1
           rw [HEV0.out]
           unfold evalT
           rw [h1, if_pos (by decide)])
         clear h6
         have k_r := BR4.out.cell
         have f_r := BR4.out.free
         have l_r := BR4.out.lt
         go_wp2_with fail
         refine bodyPost_ret (ret_tm2 rfl rfl (put4b BR4.out (.int .i64 0) (.int .i64 0) (.string ⟨#[]⟩) (.slice none 0 0)) rfl) rfl ?_
         rw [HE0.out]
         exact ⟨⟨none, 0, rfl, (TmOwn.no (base := 0)).rtm⟩, put4u HBW4.out (by omega) _ _ _ _⟩
       have kx : (x.t.kind != 6) = false := by simpa using h6
       by_cases h1 : x.t.n = 1
       · have kn : (x.t.n == 1) = true := by simpa using h1
         have HS : Hid (stepE b o ((ys ++ [x]).map SV.t) = (0, ys.map SV.t, false)) := Lib.hid (by
           rw [HSV.out, if_neg (by simpa using h6), if_neg (by have := HKD.out; simp [h1, this])])
         have hrp := round_plain (b := b) (ts := (ys ++ [x]).map SV.t) HO.out (by rw [List.length_map]; exact HEV.out.1) HEV.out.2 h32 (by rw [HS.out])
         rw [HS.out] at hrp
         have HRP := Lib.hid (hrp.2 rfl)
         have HDR := Lib.hid HST4.out.drop
         clear h6 h1 hrp
         go_wp2_with fail
         go_region
         go_wp2_with fail
         go_roundw
         case rel => exact ⟨ys, k + 1, _, c, _, rfl, Lib.hid rfl, by go_num, by omega, by omega, Lib.hid (HWR4.out.trans (Below.refl _ _).drew), Lib.hid (HDR.out.later (Below.refl _ _).drew), Lib.hid ⟨by have := HRP.out.1; simpa using this, HRP.out.2⟩⟩
         case measure => simp [intOf]; omega
       · have kn : (x.t.n == 1) = false := by simpa using h1
         have HS : Hid (stepE b o ((ys ++ [x]).map SV.t) = (0, ys.map SV.t ++ [x.t], true)) := Lib.hid (by
           rw [HSV.out, if_neg (by simpa using h6), if_pos (by have := HKD.out; simp [h1, this])])
         obtain ⟨k', hk1, hk2, hk3, hk4, hk5⟩ := HRL.out.2.2.2 (by rw [HS.out])
         have hsk : o.skip = (k' : Int) - k - 1 := by
           have h2 := HOI.out.2.2
           unfold nextE at hk3
           rw [if_pos (by rw [HS.out])] at hk3
           unfold wrap64 at hk3
           unfold I64 at h2
           omega
         rw [HS.out] at hk4 hk5
         have HSK := Lib.hid hsk
         have hs0 : 0 ≤ o.skip := by omega
         have hs1 : o.skip ≤ 32 := by omega
         have HK45 := Lib.hid (And.intro hk4 hk5)
         clear h6 h1 hsk hk3 hk4 hk5
         go_wp2_with fail
         go_region
         go_wp2_with fail
         go_roundw
         case rel => exact ⟨ys ++ [x], k', _, c, _, rfl, Lib.hid (by rw [List.length_append, List.length_singleton]), by have := HSK.out; first | go_num | (congr 1; omega), hk2, by rw [List.length_append, List.length_singleton]; omega, Lib.hid (HWR4.out.trans (Below.refl _ _).drew), Lib.hid (HST4.out.later (Below.refl _ _).drew), Lib.hid ⟨by have := HK45.out.1; simpa using this, by rw [map_snoc]; exact HK45.out.2⟩⟩
         case measure => have := HSK.out; simp [intOf]; omega
     · have HKD := Lib.hid hk_
       have kk1 : (o.kind == 1) = false := by simp [hk_]
       have kk2 : (o.kind == 2) = false := by simp [hk_]
       have kk3 : (o.kind == 3) = false := by simp [hk_]
       have kk4 : (o.kind == 4) = false := by simp [hk_]
       have kk5 : (o.kind == 5) = true := by simp [hk_]
       clear hk_
       obtain ⟨ys, x, hys⟩ := last_split (xs := xs) (by rw [needs_4 (.inr HKD.out)] at hnd; omega)
       subst hys
       rw [List.length_append, List.length_singleton] at hx32 hxk
       have HSV : Hid (stepE b o ((ys ++ [x]).map SV.t) = if x.t.kind ≠ 6 then (7, ys.map SV.t ++ [x.t], false) else if (decide (x.t.n = 1) == decide (o.kind = 5)) = true then (0, ys.map SV.t ++ [x.t], true) else (0, ys.map SV.t, false)) := Lib.hid (by rw [map_snoc]; exact step_lazy (ys.map SV.t) x.t (.inr HKD.out))
       have HRL := Lib.hid (round_law (b := b) (ts := (ys ++ [x]).map SV.t) HO.out (by rw [List.length_map]; exact HEV.out.1) HEV.out.2 h32)
       obtain ⟨g, rfl, hg1, hg2, hg3, hg4, hcell, hfr, htop⟩ := HST4.out.top
       obtain rfl : n = ys.length + 1 := by have := HNL.out; rw [List.length_append, List.length_singleton] at this; omega
       have e0 : w4.cell? ⟨g, ys.length * 4, none⟩ = some (.int .i64 x.t.kind) := hcell 0 _ rfl
       have e1 : w4.cell? ⟨g, ys.length * 4 + 1, none⟩ = some (.int .i64 x.t.n) := hcell 1 _ rfl
       clear hcell hfr htop hal hnd
       by_cases h6 : x.t.kind = 6
       rotate_left
       · have kx : (x.t.kind != 6) = true := by simpa using h6
         have HS7 : Hid ((stepE b o ((ys ++ [x]).map SV.t)).1 = 7) := Lib.hid (by rw [HSV.out, if_pos h6])
         have HE0 : Hid (res = (noT, 7)) := Lib.hid (by
           have h1 := HRL.out.2.2.1 (by rw [HS7.out]; decide)
           rw [HS7.out] at h1
           rw [HEV0.out]
           unfold evalT
           rw [h1, if_pos (by decide)])
         clear h6
         have k_r := BR4.out.cell
         have f_r := BR4.out.free
         have l_r := BR4.out.lt
         go_wp2_with fail
         refine bodyPost_ret (ret_tm2 rfl rfl (put4b BR4.out (.int .i64 0) (.int .i64 0) (.string ⟨#[]⟩) (.slice none 0 0)) rfl) rfl ?_
         rw [HE0.out]
         exact ⟨⟨none, 0, rfl, (TmOwn.no (base := 0)).rtm⟩, put4u HBW4.out (by omega) _ _ _ _⟩
       have kx : (x.t.kind != 6) = false := by simpa using h6
       by_cases h1 : x.t.n = 1
       · have kn : (x.t.n == 1) = true := by simpa using h1
         have HS : Hid (stepE b o ((ys ++ [x]).map SV.t) = (0, ys.map SV.t ++ [x.t], true)) := Lib.hid (by
           rw [HSV.out, if_neg (by simpa using h6), if_pos (by have := HKD.out; simp [h1, this])])
         obtain ⟨k', hk1, hk2, hk3, hk4, hk5⟩ := HRL.out.2.2.2 (by rw [HS.out])
         have hsk : o.skip = (k' : Int) - k - 1 := by
           have h2 := HOI.out.2.2
           unfold nextE at hk3
           rw [if_pos (by rw [HS.out])] at hk3
           unfold wrap64 at hk3
           unfold I64 at h2
           omega
         rw [HS.out] at hk4 hk5
         have HSK := Lib.hid hsk
         have hs0 : 0 ≤ o.skip := by omega
         have hs1 : o.skip ≤ 32 := by omega
         have HK45 := Lib.hid (And.intro hk4 hk5)
         clear h6 h1 hsk hk3 hk4 hk5
         go_wp2_with fail
         go_region
         go_wp2_with fail
         go_roundw
         case rel => exact ⟨ys ++ [x], k', _, c, _, rfl, Lib.hid (by rw [List.length_append, List.length_singleton]), by have := HSK.out; first | go_num | (congr 1; omega), hk2, by rw [List.length_append, List.length_singleton]; omega, Lib.hid (HWR4.out.trans (Below.refl _ _).drew), Lib.hid (HST4.out.later (Below.refl _ _).drew), Lib.hid ⟨by have := HK45.out.1; simpa using this, by rw [map_snoc]; exact HK45.out.2⟩⟩
         case measure => have := HSK.out; simp [intOf]; omega
       · have kn : (x.t.n == 1) = false := by simpa using h1
         have HS : Hid (stepE b o ((ys ++ [x]).map SV.t) = (0, ys.map SV.t, false)) := Lib.hid (by
           rw [HSV.out, if_neg (by simpa using h6), if_neg (by have := HKD.out; simp [h1, this])])
         have hrp := round_plain (b := b) (ts := (ys ++ [x]).map SV.t) HO.out (by rw [List.length_map]; exact HEV.out.1) HEV.out.2 h32 (by rw [HS.out])
         rw [HS.out] at hrp
         have HRP := Lib.hid (hrp.2 rfl)
         have HDR := Lib.hid HST4.out.drop
         clear h6 h1 hrp
         go_wp2_with fail
         go_region
         go_wp2_with fail
         go_roundw
         case rel => exact ⟨ys, k + 1, _, c, _, rfl, Lib.hid rfl, by go_num, by omega, by omega, Lib.hid (HWR4.out.trans (Below.refl _ _).drew), Lib.hid (HDR.out.later (Below.refl _ _).drew), Lib.hid ⟨by have := HRP.out.1; simpa using this, HRP.out.2⟩⟩
         case measure => simp [intOf]; omega
   · have hlt' : decide ((k : Int) < ops.length) = false := by simp; omega
     obtain rfl : k = ops.length := by omega
     have hw1 := HEV.out.1
     rw [List.drop_length, wholeG_nil, decide_eq_true_eq] at hw1
     obtain ⟨ys, x, hys⟩ := last_split (xs := xs) (by omega)
     obtain rfl : ys = [] := List.eq_nil_of_length_eq_zero (by rw [hys, List.length_append, List.length_singleton] at hw1; omega)
     have hys2 : xs = [x] := hys
     subst hys2
     have HE0 : Hid (res = (x.t, 0)) := Lib.hid (by
       rw [HEV0.out]
       unfold evalT
       rw [HEV.out.2, List.drop_length, evR_nil]
       rfl)
     obtain rfl : n = 1 := by have := HNL.out; simp at this; omega
     obtain ⟨g, rfl, hg1, hg2, hg3, hg4, hcell, hfr, htop⟩ := (show StkQ w3.heap.size D wr ([] ++ [x]) A c from HST.out).top
     have e0 : wr.cell? ⟨g, 0, none⟩ = some (.int .i64 x.t.kind) := by have := hcell 0 _ rfl; simpa using this
     have e1 : wr.cell? ⟨g, 1, none⟩ = some (.int .i64 x.t.n) := by have := hcell 1 _ rfl; simpa using this
     have e2 : wr.cell? ⟨g, 2, none⟩ = some (.string x.t.s) := by have := hcell 2 _ rfl; simpa using this
     have e3 : wr.cell? ⟨g, 3, none⟩ = some (.slice x.a x.t.l.length x.c) := by have := hcell 3 _ rfl; simpa using this
     have HTX := Lib.hid (HST.out.tms x (by simp))
     have HXL := Lib.hid (HST.out.lt x (by simp))
     have k_r := BR.out.cell
     have f_r := BR.out.free
     have l_r := BR.out.lt
     clear hcell hfr htop hys hw1
     go_wp2_with fail
     refine bodyPost_ret (ret_tm2 rfl rfl (put4b BR.out (.int .i64 x.t.kind) (.int .i64 x.t.n) (.string x.t.s) (.slice x.a x.t.l.length x.c)) rfl) rfl ?_
     rw [HE0.out]
     exact ⟨⟨x.a, x.c, rfl, (HTX.out.put4 (fun a ha => by have := (HXL.out a ha).1; omega) _ _ _ _).1⟩, put4u HBW.out (by omega) _ _ _ _⟩
end Go.Proofs.YtiplipdigabidaaGreat
