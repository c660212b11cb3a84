/- viaticumref11.Unary. -/
import Derived.Test.YtiplipdigabidaaGreatRef3
import Derived.Test.YtiplipdigabidaaGreatRefSet
import Derived.Test.YtiplipdigabidaaGreatRef1
import Derived.Test.YtiplipdigabidaaGreatOwnS
set_option linter.unusedVariables false
set_option linter.unusedSimpArgs false
namespace Go.Proofs.YtiplipdigabidaaGreat
open Go.ChangeShapes Go.WideShapes Go.ChangeAt Go.RowKit
def endQ (l : List Tm) : Tm × Int := if 16 < l.length then (noT, 4) else setR l
def setsQ (code : Int) (a b : Tm) : Tm × Int :=
 if code = 15 then endQ (a.l.filter (hasB b))
 else if 0 < a.l.length ∧ 0 < b.l.length ∧ headK a.l ≠ headK b.l then (noT, 7)
 else endQ (joinAll a b)
theorem tm_form {d : Nat} {e : TypeId} {w : World} {base B n : Nat} {v : Value} {xs : List Tm} (h : OwnR (TmR d) e w base B v xs) (hn : xs.length = n) : ∃ A c, v = .slice A n c := by
 subst hn
 exact h.form
theorem tm_row {d base B n c : Nat} {w : World} {A : Option Addr} {xs : List Tm} (h : OwnR (TmR d) 33 w base B (.slice A n c) xs) (hB : B ≤ w.heap.size) (hn : xs.length ≤ 100) : RL (TmR d) w w.heap.size xs A := by
 obtain ⟨A3, c3, e3, r1, r2, r3⟩ := h.reads hB (by show xs.length * (8 * 4) ≤ _; omega)
 simp only [Value.slice.injEq] at e3
 obtain ⟨rfl, _, rfl⟩ := e3
 exact r3
theorem headK_at {l : List Tm} {x : Tm} (h : l[0]? = some x) : headK l = x.kind := by
 cases l with
 | nil => simp at h
 | cons y l => simp at h; subst h; rfl
set_option maxRecDepth 100000 in
set_option maxHeartbeats 16000000 in
theorem setsq_any {d B : Nat} {code : Int} {a b : Tm} {vs ws : List Value} {w : World} (hc : code = 15 ∨ code = 16) (ha : RTm w B (d + 1) a vs) (hb : RTm w B (d + 1) b ws) (hB : B ≤ w.heap.size) (na : a.l.length ≤ 16) (nb : b.l.length ≤ 16) :
   Calls Tryz.prog 46 #[.int .i64 code, .agg vs.toArray, .agg ws.toArray] w fun z w' => TermE d w w' (setsQ code a b) z := by
 obtain ⟨i0, hi0, hz0, hz1, hz2⟩ := info_parts infoTm
 have HA := Lib.hid ha
 have HBB := Lib.hid hb
 obtain ⟨Aa, ca, rfl, q1, q2, q3, q4, q5, hla⟩ := id ha
 obtain ⟨Ab, cb, rfl, r1, r2, r3, r4, r5, hlb⟩ := id hb
 have HLA : Hid (RL (TmR d) w B a.l Aa) := Lib.hid hla
 have HLB : Hid (RL (TmR d) w B b.l Ab) := Lib.hid hlb
 clear ha hb hla hlb
 rcases hc with rfl | rfl
 · go_enter Tryz.func46, Tryz.ntmps46
   go_wp2_with fail
   generalize hW : World.alloc _ _ = w1
   obtain ⟨hb, hz⟩ := al3 hW
   have b_a := n31 hW
   have b_b := n32 hW
   have b_r := n33 hW
   have HB1 := Lib.hid hb
   have hsz1 := hb.size
   have hzw : w.heap.size + 2 < w1.heap.size := b_r.lt
   clear hW hz hb
   have hB1 := Nat.le_trans hB hsz1
   go_loopw [8, 18] (fun v8 vi wr => ∃ (k n c2 : Nat) (A2 : Option Addr), v8 = .slice A2 n c2 ∧ vi = .int .i64 k ∧ k ≤ a.l.length ∧ Hid (((a.l.take k).filter (hasB b)).length = n) ∧ Hid (Below w1.heap.size w1 wr) ∧ Hid (OwnR (TmR d) 33 wr w1.heap.size B (.slice A2 n c2) ((a.l.take k).filter (hasB b)))) (fun _ vi _ => a.l.length - (intOf vi).toNat)
   case atStart => exact ⟨0, 0, 0, none, rfl, rfl, Nat.zero_le _, Lib.hid rfl, Lib.hid (Below.refl _ _), Lib.hid (OwnR.nil _ _ _ _ _)⟩
   case round =>
     obtain ⟨k, n, c2, A2, rfl, rfl, hk, HN, HBW, HO⟩ := hrel
     have hszr := HBW.out.size
     have hBr := Nat.le_trans hB1 hszr
     have kq_a := (b_a.keep HBW.out (by omega)).cell
     have kq_b := (b_b.keep HBW.out (by omega)).cell
     by_cases hlt : k < a.l.length
     · have HLr := Lib.hid (HLA.out.keep (HB1.out.trans (HBW.out.mono hsz1)) hB)
       obtain ⟨b_, off, rfl, hob⟩ := HLr.out.base (Below.refl _ _) hBr (by omega)
       obtain ⟨x, vs, hx, hlen, hcell, hr⟩ := HLr.out.at_ (Below.refl _ _) hBr hlt
       obtain ⟨Ax, cx, rfl, g1, g2, g3, g4, g5, _⟩ := RTm.cells (show RTm wr B d x vs from hr)
       have c0 : wr.cell? ⟨b_, off + k * 4, none⟩ = some (.int .i64 x.kind) := hcell 0 _ rfl
       have c1 : wr.cell? ⟨b_, off + k * 4 + 1, none⟩ = some (.int .i64 x.n) := hcell 1 _ rfl
       have c2_ : wr.cell? ⟨b_, off + k * 4 + 2, none⟩ = some (.string x.s) := hcell 2 _ rfl
       have c3 : wr.cell? ⟨b_, off + k * 4 + 3, none⟩ = some (.slice Ax x.l.length cx) := hcell 3 _ rfl
       have HX := Lib.hid hx
       have HR : Hid (RTm wr B d x _) := Lib.hid hr
       clear hcell hlen hx hr
       go_upto_region 6 with fail
       generalize hW : World.alloc _ _ = W
       obtain ⟨hb1, hz⟩ := al1 hW
       have bx := n11 hW
       have HBa := Lib.hid (bthen HBW.out hb1)
       have HOa := Lib.hid (HO.out.later hb1 hBr)
       have hBa := Nat.le_trans hBr hb1.size
       have HRa := Lib.hid (HR.out.below hb1 hBr)
       have hxlt := bx.lt
       clear hW hb1 hz c0 c1 c2_ c3 kq_a kq_b HO HR
       have kq_a := (b_a.keep HBa.out (by omega)).cell
       have kq_b := (b_b.keep HBa.out (by omega)).cell
       have k_x := bx.cell
       go_wp2_with fail
       refine (refHas_any (d := d) (d' := d) (s := b) (t := x) (B := B) (vs := [_, _, _, _]) (ws := [_, _, _, _]) (HBB.out.below (HB1.out.trans (HBa.out.mono hsz1)) hB) HRa.out hBa).mono ?_
       rintro e w3 ⟨rfl, hb3⟩
       have bx3 := bx.later hb3
       have HR3 := Lib.hid (HRa.out.below hb3 hBa)
       have HO3 := Lib.hid (HOa.out.later hb3 hBa)
       have HB3 := Lib.hid (bthen HBa.out hb3)
       have hB3 := Nat.le_trans hBa hb3.size
       have hs3 := HB3.out.size
       clear hb3 kq_a kq_b k_x bx HOa HBa HRa
       rcases Bool.eq_false_or_eq_true (hasB b x) with hm | hm
       · have HNB : Hid (n ≤ 16) := Lib.hid (by rw [← HN.out]; exact Nat.le_trans (List.length_filter_le _ _) (by rw [List.length_take]; omega))
         have HT : Hid ((a.l.take (k + 1)).filter (hasB b) = (a.l.take k).filter (hasB b) ++ [x]) := Lib.hid (by rw [filter_take HX.out, if_pos (hm)]; try simp)
         rw [hm]
         clear hm
         generalize (a.l.take k).filter (hasB b) = out at *
         have HLN := HN.out
         have k_x := bx3.cell
         have HOW := Lib.hid (And.intro (HO3.out.later (below_new (w := w3) (o := .cells #[.int .i64 x.kind, .int .i64 x.n, .string x.s, .slice Ax x.l.length cx] 33) rfl) hB3) (Blk.src (R := TmR d) (B := B) (x := x) (Blk.new w3 #[.int .i64 x.kind, .int .i64 x.n, .string x.s, .slice Ax x.l.length cx] 33) (HR3.out.below (below_new rfl) hB3)))
         have hn33 : n ≤ 40 := by have := HNB.out; omega
         go_wp2_with ((
           at_builtin
           refine wpList_append_R (R := TmR d) (e := 33) (base := w1.heap.size) (B := B) (xs := out) (ys := [x]) rfl (.tmp 25) (.tmp 27) 26 rfl (bytes := 56) Tryz.underlying26 hi0 hz0 hz1 hz2 rfl (show 0 < 4 by omega) (single_tm d) rfl HOW.out.1 rfl HOW.out.2 rfl hB1 (by rw [HLN]; simp only [List.length_cons, List.length_nil]; omega) (by omega) (by rw [World.size_alloc]; omega) ?_
           intro v wn_ hown hb
           obtain ⟨An, cn, rfl⟩ := tm_form hown (show _ = n + 1 by rw [List.length_append, HLN]; rfl)
           have HON := Lib.hid hown
           have HBN := Lib.hid (((HB3.out.alloc hs3 (.cells #[.int .i64 x.kind, .int .i64 x.n, .string x.s, .slice Ax x.l.length cx] 33))).trans hb)
           clear hown hb k_x))
         go_roundw
         case rel => exact ⟨k + 1, n + 1, cn, An, rfl, by go_num, by omega, Lib.hid (by rw [HT.out, List.length_append, HLN]; rfl), HBN, Lib.hid (by rw [HT.out]; exact HON.out)⟩
         case measure => simp [intOf]; omega
       · have HT : Hid ((a.l.take (k + 1)).filter (hasB b) = (a.l.take k).filter (hasB b)) := Lib.hid (by rw [filter_take HX.out, if_neg (by rw [hm]; simp)]; try simp)
         rw [hm]
         clear hm
         go_wp2_with fail
         go_roundw
         case rel => exact ⟨k + 1, n, c2, A2, rfl, by go_num, by omega, Lib.hid (by rw [HT.out]; exact HN.out), HB3, Lib.hid (by rw [HT.out]; exact HO3.out)⟩
         case measure => simp [intOf]; omega
     · have HT : Hid ((a.l.take k).filter (hasB b) = a.l.filter (hasB b)) := Lib.hid (by rw [List.take_of_length_le (by omega)])
       rw [HT.out] at HN HO
       have HNN := HN.out
       have hn40 : n ≤ 40 := by rw [← HNN]; exact Nat.le_trans (List.length_filter_le _ _) (by omega)
       have kq_r := (b_r.keep HBW.out hzw).cell
       have fq_r := (b_r.keep HBW.out hzw).free
       have HBRr := Lib.hid (b_r.keep HBW.out hzw)
       have HBt := Lib.hid (HB1.out.trans (HBW.out.mono hsz1))
       have h16 : ¬ 16 < n := by rw [← HNN]; exact Nat.not_lt.2 (Nat.le_trans (List.length_filter_le _ _) (by omega))
       have HX : Hid (setsQ 15 a b = setR (a.l.filter (hasB b))) := Lib.hid (by show endQ _ = _; unfold endQ; rw [HNN, if_neg h16])
       have HRW := Lib.hid (tm_row HO.out hBr (by omega))
       generalize a.l.filter (hasB b) = out at *
       subst HNN
       clear kq_a kq_b kq_r fq_r
       go_wp2_with fail
       refine (refSet_any (d := d) (c := c2) HRW.out (Nat.le_refl _) (by omega)).mono ?_
       rintro z w4 ⟨⟨A4, c4, rfl, hown⟩, hb⟩
       have HTO := Lib.hid hown
       have HB4 := Lib.hid (HBt.out.trans (hb.mono (by have := HBt.out.size; omega)))
       have br4 := HBRr.out.later hb
       have hr4 := br4.lt
       have f_r := br4.free
       have k_r := br4.cell
       have hwr := HBt.out.size
       clear hown hb
       go_wp2_with fail
       have hbr := put4b br4 (.int .i64 (setR out).1.kind) (.int .i64 (setR out).1.n) (.string (setR out).1.s) (.slice A4 (setR out).1.l.length c4)
       refine bodyPost_ret (ret_tm2 rfl rfl hbr rfl) rfl ?_
       rw [HX.out]
       exact ⟨⟨A4, c4, rfl, (HTO.out.put4 (by omega) _ _ _ _).lower (by omega)⟩, put4u HB4.out (by omega) _ _ _ _⟩
 · go_enter Tryz.func46, Tryz.ntmps46
   go_wp2_with fail
   generalize hW : World.alloc _ _ = w1
   obtain ⟨hb, hz⟩ := al3 hW
   have b_a := n31 hW
   have b_b := n32 hW
   have b_r := n33 hW
   have HB1 := Lib.hid hb
   have hsz1 := hb.size
   have hzw : w.heap.size + 2 < w1.heap.size := b_r.lt
   clear hW hz hb
   have hB1 := Nat.le_trans hB hsz1
   obtain ⟨bad, hbad⟩ : ∃ x, decide (0 < a.l.length ∧ 0 < b.l.length ∧ headK a.l ≠ headK b.l) = x := ⟨_, rfl⟩
   have HBAD := Lib.hid hbad
   clear hbad
   go_wp2_with fail
   go_cut [52] (fun v wx => v = .bool bad ∧ Hid (Below w1.heap.size w1 wx))
   case first =>
     have k_a := b_a.cell
     have k_b := b_b.cell
     by_cases ha0 : a.l.length = 0
     · have g1 : decide ((a.l.length : Int) > 0) = false := decide_eq_false (by omega)
       have g1n : decide (0 < a.l.length) = false := decide_eq_false (by omega)
       have HBAD0 : Hid (bad = false) := Lib.hid (by rw [← HBAD.out]; simp [ha0])
       clear ha0
       have qa := b_a.regrown
       have qb := b_b.regrown
       refine wp_region_quiet_below (by kernel_rfl) (by kernel_rfl) ?_
       repeat (go_big_quiet_step (fail))
       refine wpQuiet_nil ?_
       intro w2_ hw2
       have hb2 : Below w1.heap.size w1 w2_ := by obtain ⟨p, rfl⟩ := hw2; exact below_regrown _ _ _
       have HB2 := Lib.hid hb2
       clear hw2 hb2 qa qb
       go_wp2_with fail
       go_meet
       exact ⟨by rw [HBAD0.out], HB2⟩
     · have g1 : decide ((a.l.length : Int) > 0) = true := decide_eq_true (by omega)
       have g1n : decide (0 < a.l.length) = true := decide_eq_true (by omega)
       by_cases hb0 : b.l.length = 0
       · have g2 : decide ((b.l.length : Int) > 0) = false := decide_eq_false (by omega)
         have g2n : decide (0 < b.l.length) = false := decide_eq_false (by omega)
         have HBAD0 : Hid (bad = false) := Lib.hid (by rw [← HBAD.out]; simp [hb0])
         clear hb0
         have qa := b_a.regrown
         have qb := b_b.regrown
         refine wp_region_quiet_below (by kernel_rfl) (by kernel_rfl) ?_
         repeat (go_big_quiet_step (fail))
         refine wpQuiet_nil ?_
         intro w2_ hw2
         have hb2 : Below w1.heap.size w1 w2_ := by obtain ⟨p, rfl⟩ := hw2; exact below_regrown _ _ _
         have HB2 := Lib.hid hb2
         clear hw2 hb2 qa qb
         go_wp2_with fail
         go_meet
         exact ⟨by rw [HBAD0.out], HB2⟩
       · have g2 : decide ((b.l.length : Int) > 0) = true := decide_eq_true (by omega)
         have g2n : decide (0 < b.l.length) = true := decide_eq_true (by omega)
         have HL1 := Lib.hid (HLA.out.keep HB1.out hB)
         have HL2 := Lib.hid (HLB.out.keep HB1.out hB)
         obtain ⟨ba_, offa, rfl, _⟩ := HL1.out.base (Below.refl _ _) hB1 (by omega)
         obtain ⟨xa, va, hxa, _, hca, hra⟩ := HL1.out.at_ (k := 0) (Below.refl _ _) hB1 (by omega)
         obtain ⟨_, _, rfl, _⟩ := RTm.cells (show RTm w1 B d xa va from hra)
         obtain ⟨bb_, offb, rfl, _⟩ := HL2.out.base (Below.refl _ _) hB1 (by omega)
         obtain ⟨xb, vb, hxb, _, hcb, hrb⟩ := HL2.out.at_ (k := 0) (Below.refl _ _) hB1 (by omega)
         obtain ⟨_, _, rfl, _⟩ := RTm.cells (show RTm w1 B d xb vb from hrb)
         have ca0 : w1.cell? ⟨ba_, offa, none⟩ = some (.int .i64 xa.kind) := by have := hca 0 _ rfl; simpa using this
         have cb0 : w1.cell? ⟨bb_, offb, none⟩ = some (.int .i64 xb.kind) := by have := hcb 0 _ rfl; simpa using this
         have HBAD0 : Hid (bad = (xa.kind != xb.kind)) := Lib.hid (by rw [← HBAD.out, headK_at hxa, headK_at hxb]; rw [Bool.eq_iff_iff]; simp; omega)
         have ha1 : 0 < a.l.length := by omega
         have hb1 : 0 < b.l.length := by omega
         have qca := cell_regrown ca0
         have qcb := cell_regrown cb0
         clear hxa hxb hca hcb hra hrb ca0 cb0 HL1 HL2 ha0 hb0
         have qa := b_a.regrown
         have qb := b_b.regrown
         refine wp_region_quiet_below (by kernel_rfl) (by kernel_rfl) ?_
         repeat (go_big_quiet_step (fail))
         refine wpQuiet_nil ?_
         intro w2_ hw2
         have hb2 : Below w1.heap.size w1 w2_ := by obtain ⟨p, rfl⟩ := hw2; exact below_regrown _ _ _
         have HB2 := Lib.hid hb2
         clear hw2 hb2 qa qb
         go_wp2_with fail
         go_meet
         exact ⟨by rw [HBAD0.out], HB2⟩
   case rest =>
     obtain ⟨rfl, HB2⟩ := hcut
     generalize wc = w2 at *
     have hs2 := HB2.out.size
     rcases Bool.eq_false_or_eq_true bad with hbd | hbd
     · have HX : Hid (setsQ 16 a b = (noT, 7)) := Lib.hid (by unfold setsQ; rw [if_neg (by omega), if_pos (by have := HBAD.out; rw [hbd] at this; simpa using this)])
       have kq_r := (b_r.keep HB2.out hzw).cell
       have fq_r := (b_r.keep HB2.out hzw).free
       have HBRr := Lib.hid (b_r.keep HB2.out hzw)
       have HBt := Lib.hid (HB1.out.trans (HB2.out.mono hsz1))
       have hwt := HBt.out.size
       subst hbd
       go_wp2_with fail
       refine bodyPost_ret (ret_tm2 rfl rfl (put4 HBRr.out HBt.out (by omega)).1 rfl) rfl ?_
       rw [HX.out]
       exact termE_no ⟨rfl, (put4 HBRr.out HBt.out (by omega)).2⟩
     · have HX0 : Hid (setsQ 16 a b = endQ (joinAll a b)) := Lib.hid (by unfold setsQ; rw [if_neg (by omega), if_neg (by have := HBAD.out; rw [hbd] at this; simpa using this)])
       subst hbd
       have kq_a := (b_a.keep HB2.out (by omega)).cell
       have kq_b := (b_b.keep HB2.out (by omega)).cell
       have HSR := Lib.hid (HLA.out.keep (HB1.out.trans (HB2.out.mono hsz1)) hB).src
       go_upto_region 12 with ((
         at_builtin
         refine wpList_append_R (R := TmR d) (e := 33) (base := w1.heap.size) (B := B) (xs := []) (ys := a.l) rfl (.tmp 54) (.tmp 56) 26 rfl (bytes := 56) Tryz.underlying26 hi0 hz0 hz1 hz2 rfl (show 0 < 4 by omega) (single_tm d) rfl (OwnR.nil _ _ _ _ _) rfl HSR.out rfl hB1 (by simp only [List.length_nil]; omega) (by omega) hs2 ?_
         intro v wn_ hown hb
         obtain ⟨An, cn, rfl⟩ := tm_form hown (show _ = a.l.length by rw [List.nil_append])
         have HON := Lib.hid hown
         have HBN := Lib.hid (HB2.out.trans hb)
         clear hown hb kq_a kq_b))
       generalize wn_ = w3 at *
       have kq_b := (b_b.keep HBN.out (by omega)).cell
       go_wp2_with fail
       clear kq_b
       go_loopw [8, 61] (fun v8 vi wr => ∃ (k n c2 : Nat) (A2 : Option Addr), v8 = .slice A2 n c2 ∧ vi = .int .i64 k ∧ k ≤ b.l.length ∧ Hid ((a.l ++ (b.l.take k).filter (fun t => !hasB a t)).length = n) ∧ Hid (Below w1.heap.size w1 wr) ∧ Hid (OwnR (TmR d) 33 wr w1.heap.size B (.slice A2 n c2) (a.l ++ (b.l.take k).filter (fun t => !hasB a t)))) (fun _ vi _ => b.l.length - (intOf vi).toNat)
       case atStart => exact ⟨0, a.l.length, cn, An, rfl, rfl, Nat.zero_le _, Lib.hid (by simp), HBN, Lib.hid (by have := HON.out; simpa using this)⟩
       case round =>
         obtain ⟨k, n, c2, A2, rfl, rfl, hk, HN, HBW, HO⟩ := hrel
         have hszr := HBW.out.size
         have hBr := Nat.le_trans hB1 hszr
         have kq_a := (b_a.keep HBW.out (by omega)).cell
         have kq_b := (b_b.keep HBW.out (by omega)).cell
         by_cases hlt : k < b.l.length
         · have HLr := Lib.hid (HLB.out.keep (HB1.out.trans (HBW.out.mono hsz1)) hB)
           obtain ⟨b_, off, rfl, hob⟩ := HLr.out.base (Below.refl _ _) hBr (by omega)
           obtain ⟨x, vs, hx, hlen, hcell, hr⟩ := HLr.out.at_ (Below.refl _ _) hBr hlt
           obtain ⟨Ax, cx, rfl, g1, g2, g3, g4, g5, _⟩ := RTm.cells (show RTm wr B d x vs from hr)
           have c0 : wr.cell? ⟨b_, off + k * 4, none⟩ = some (.int .i64 x.kind) := hcell 0 _ rfl
           have c1 : wr.cell? ⟨b_, off + k * 4 + 1, none⟩ = some (.int .i64 x.n) := hcell 1 _ rfl
           have c2_ : wr.cell? ⟨b_, off + k * 4 + 2, none⟩ = some (.string x.s) := hcell 2 _ rfl
           have c3 : wr.cell? ⟨b_, off + k * 4 + 3, none⟩ = some (.slice Ax x.l.length cx) := hcell 3 _ rfl
           have HX := Lib.hid hx
           have HR : Hid (RTm wr B d x _) := Lib.hid hr
           clear hcell hlen hx hr
           go_upto_region 15 with fail
           generalize hW : World.alloc _ _ = W
           obtain ⟨hb1, hz⟩ := al1 hW
           have bx := n11 hW
           have HBa := Lib.hid (bthen HBW.out hb1)
           have HOa := Lib.hid (HO.out.later hb1 hBr)
           have hBa := Nat.le_trans hBr hb1.size
           have HRa := Lib.hid (HR.out.below hb1 hBr)
           have hxlt := bx.lt
           clear hW hb1 hz c0 c1 c2_ c3 kq_a kq_b HO HR
           have kq_a := (b_a.keep HBa.out (by omega)).cell
           have kq_b := (b_b.keep HBa.out (by omega)).cell
           have k_x := bx.cell
           go_wp2_with fail
           refine (refHas_any (d := d) (d' := d) (s := a) (t := x) (B := B) (vs := [_, _, _, _]) (ws := [_, _, _, _]) (HA.out.below (HB1.out.trans (HBa.out.mono hsz1)) hB) HRa.out hBa).mono ?_
           rintro e w3 ⟨rfl, hb3⟩
           have bx3 := bx.later hb3
           have HR3 := Lib.hid (HRa.out.below hb3 hBa)
           have HO3 := Lib.hid (HOa.out.later hb3 hBa)
           have HB3 := Lib.hid (bthen HBa.out hb3)
           have hB3 := Nat.le_trans hBa hb3.size
           have hs3 := HB3.out.size
           clear hb3 kq_a kq_b k_x bx HOa HBa HRa
           rcases Bool.eq_false_or_eq_true (hasB a x) with hm | hm
           · have HT : Hid (a.l ++ (b.l.take (k + 1)).filter (fun t => !hasB a t) = a.l ++ (b.l.take k).filter (fun t => !hasB a t)) := Lib.hid (by rw [filter_take HX.out, if_neg (by rw [hm]; simp)]; try simp)
             rw [hm]
             clear hm
             go_wp2_with fail
             go_roundw
             case rel => exact ⟨k + 1, n, c2, A2, rfl, by go_num, by omega, Lib.hid (by rw [HT.out]; exact HN.out), HB3, Lib.hid (by rw [HT.out]; exact HO3.out)⟩
             case measure => simp [intOf]; omega
           · have HNB : Hid (n ≤ 40) := Lib.hid (by rw [← HN.out, List.length_append]; have := List.length_filter_le (fun t => !hasB a t) (b.l.take k); rw [List.length_take] at this; omega)
             have HT : Hid (a.l ++ (b.l.take (k + 1)).filter (fun t => !hasB a t) = a.l ++ (b.l.take k).filter (fun t => !hasB a t) ++ [x]) := Lib.hid (by rw [filter_take HX.out, if_pos (by rw [hm]; rfl)]; try simp)
             rw [hm]
             clear hm
             generalize a.l ++ (b.l.take k).filter (fun t => !hasB a t) = out at *
             have HLN := HN.out
             have k_x := bx3.cell
             have HOW := Lib.hid (And.intro (HO3.out.later (below_new (w := w3) (o := .cells #[.int .i64 x.kind, .int .i64 x.n, .string x.s, .slice Ax x.l.length cx] 33) rfl) hB3) (Blk.src (R := TmR d) (B := B) (x := x) (Blk.new w3 #[.int .i64 x.kind, .int .i64 x.n, .string x.s, .slice Ax x.l.length cx] 33) (HR3.out.below (below_new rfl) hB3)))
             have hn33 : n ≤ 40 := by have := HNB.out; omega
             go_wp2_with ((
               at_builtin
               refine wpList_append_R (R := TmR d) (e := 33) (base := w1.heap.size) (B := B) (xs := out) (ys := [x]) rfl (.tmp 69) (.tmp 71) 26 rfl (bytes := 56) Tryz.underlying26 hi0 hz0 hz1 hz2 rfl (show 0 < 4 by omega) (single_tm d) rfl HOW.out.1 rfl HOW.out.2 rfl hB1 (by rw [HLN]; simp only [List.length_cons, List.length_nil]; omega) (by omega) (by rw [World.size_alloc]; omega) ?_
               intro v wn_ hown hb
               obtain ⟨An, cn, rfl⟩ := tm_form hown (show _ = n + 1 by rw [List.length_append, HLN]; rfl)
               have HON := Lib.hid hown
               have HBN := Lib.hid (((HB3.out.alloc hs3 (.cells #[.int .i64 x.kind, .int .i64 x.n, .string x.s, .slice Ax x.l.length cx] 33))).trans hb)
               clear hown hb k_x))
             go_roundw
             case rel => exact ⟨k + 1, n + 1, cn, An, rfl, by go_num, by omega, Lib.hid (by rw [HT.out, List.length_append, HLN]; rfl), HBN, Lib.hid (by rw [HT.out]; exact HON.out)⟩
             case measure => simp [intOf]; omega
         · have HT : Hid (a.l ++ (b.l.take k).filter (fun t => !hasB a t) = joinAll a b) := Lib.hid (by rw [List.take_of_length_le (by omega)]; rfl)
           rw [HT.out] at HN HO
           have HNN := HN.out
           have hn40 : n ≤ 40 := by rw [← HNN]; unfold joinAll; rw [List.length_append]; have := List.length_filter_le (fun t => !hasB a t) b.l; omega
           have kq_r := (b_r.keep HBW.out hzw).cell
           have fq_r := (b_r.keep HBW.out hzw).free
           have HBRr := Lib.hid (b_r.keep HBW.out hzw)
           have HBt := Lib.hid (HB1.out.trans (HBW.out.mono hsz1))
           by_cases h16 : 16 < n
           · have HX : Hid (setsQ 16 a b = (noT, 4)) := Lib.hid (by rw [HX0.out]; unfold endQ; rw [HNN, if_pos h16])
             have g16 : decide ((n : Int) > 16) = true := by simp; omega
             go_wp2_with fail
             refine bodyPost_ret (ret_tm2 rfl rfl (put4 HBRr.out HBt.out (by omega)).1 rfl) rfl ?_
             rw [HX.out]
             exact termE_no ⟨rfl, (put4 HBRr.out HBt.out (by omega)).2⟩
           · have HX : Hid (setsQ 16 a b = setR (joinAll a b)) := Lib.hid (by rw [HX0.out]; unfold endQ; rw [HNN, if_neg h16])
             have g16 : decide ((n : Int) > 16) = false := by simp; omega
             have HRW := Lib.hid (tm_row HO.out hBr (by omega))
             generalize joinAll a b = out at *
             subst HNN
             clear kq_a kq_b kq_r fq_r
             go_wp2_with fail
             refine (refSet_any (d := d) (c := c2) HRW.out (Nat.le_refl _) (by omega)).mono ?_
             rintro z w4 ⟨⟨A4, c4, rfl, hown⟩, hb⟩
             have HTO := Lib.hid hown
             have HB4 := Lib.hid (HBt.out.trans (hb.mono (by have := HBt.out.size; omega)))
             have br4 := HBRr.out.later hb
             have hr4 := br4.lt
             have f_r := br4.free
             have k_r := br4.cell
             have hwr := HBt.out.size
             clear hown hb
             go_wp2_with fail
             have hbr := put4b br4 (.int .i64 (setR out).1.kind) (.int .i64 (setR out).1.n) (.string (setR out).1.s) (.slice A4 (setR out).1.l.length c4)
             refine bodyPost_ret (ret_tm2 rfl rfl hbr rfl) rfl ?_
             rw [HX.out]
             exact ⟨⟨A4, c4, rfl, (HTO.out.put4 (by omega) _ _ _ _).lower (by omega)⟩, put4u HB4.out (by omega) _ _ _ _⟩
open Go.ChangeShapes Go.WideShapes Go.ChangeAt Go.RowKit
theorem flatR_eq {k n m e f : Int} {s : ByteArray} (h : n = m) (h2 : e = f) : flatR k n s e = flatR k m s f := by rw [h, h2]
end Go.Proofs.YtiplipdigabidaaGreat
