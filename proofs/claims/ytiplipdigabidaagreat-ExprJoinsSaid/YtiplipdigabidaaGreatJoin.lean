/- op.join. -/
import Derived.Test.YtiplipdigabidaaGreatRef1
import Derived.Test.YtiplipdigabidaaGreatRefHas
set_option linter.unusedVariables false
set_option linter.unusedSimpArgs false
namespace Go.Proofs.YtiplipdigabidaaGreat
open Go.ChangeShapes Go.WideShapes Go.ChangeAt Go.RowKit
def joinK (a b : Tm) (k : Nat) : List Tm := a.l ++ (b.l.take k).filter fun t => !hasB a t
theorem joinK_len {a b : Tm} {k : Nat} (ha : a.l.length ≤ 16) (hb : b.l.length ≤ 16) : (joinK a b k).length ≤ 32 := by
 unfold joinK
 rw [List.length_append]
 have := Nat.le_trans (List.length_filter_le (fun t => !hasB a t) (b.l.take k)) (by rw [List.length_take]; exact Nat.min_le_right _ _)
 omega
theorem joinK_in {a b : Tm} {k : Nat} {x : Tm} (h : b.l[k]? = some x) (hm : hasB a x = true) : joinK a b (k + 1) = joinK a b k := by
 unfold joinK; rw [filter_take h, hm]; simp
theorem joinK_out {a b : Tm} {k : Nat} {x : Tm} (h : b.l[k]? = some x) (hm : hasB a x = false) : joinK a b (k + 1) = joinK a b k ++ [x] := by
 unfold joinK; rw [filter_take h, hm]; simp
theorem joinK_end {a b : Tm} {k : Nat} (h : b.l.length ≤ k) : joinK a b k = joinAll a b := by
 unfold joinK joinAll; rw [List.take_of_length_le h]
theorem badJ_y {a b x : Tm} {ky : Int} (h : (x.kind != ky) = true) (hk : headK b.l = ky) : badJ a b x = true := by
 subst hk; unfold badJ; simp only [bne_iff_ne, ne_eq] at h; simp [h]
theorem badJ_z {a b x : Tm} {kz : Int} (h : (x.kind != kz) = true) (h0 : 0 < a.l.length) (hk : headK a.l = kz) : badJ a b x = true := by
 subst hk; unfold badJ; simp only [bne_iff_ne, ne_eq] at h; have h1 : decide (0 < a.l.length) = true := decide_eq_true h0; rw [h1]; simp [h]
theorem badJ_n {a b x : Tm} {ky : Int} (h : (x.kind != ky) = false) (hk : headK b.l = ky) (h0 : ¬ 0 < a.l.length) : badJ a b x = false := by
 subst hk; unfold badJ; simp only [bne_eq_false_iff_eq] at h; have h1 : decide (0 < a.l.length) = false := decide_eq_false h0; rw [h1, h]; simp
theorem badJ_nz {a b x : Tm} {ky kz : Int} (h : (x.kind != ky) = false) (hk : headK b.l = ky) (h' : (x.kind != kz) = false) (hk' : headK a.l = kz) : badJ a b x = false := by
 subst hk hk'; unfold badJ; simp only [bne_eq_false_iff_eq] at h h'; simp [← h, ← h']
theorem joinR_bad {a b : Tm} {k : Nat} {x : Tm} (h : b.l[k]? = some x) (hb : badJ a b x = true) : joinR a b = (noT, 7) := by
 unfold joinR; rw [if_pos (any_true (p := badJ a b) h hb)]
theorem joinR_ok {a b : Tm} {k : Nat} (hk : b.l.length ≤ k) (h : ∀ j (hj : j < k) (hj' : j < b.l.length), badJ a b b.l[j] = false) : joinR a b = if 16 < (joinAll a b).length then (noT, 4) else setR (joinAll a b) := by
 unfold joinR; rw [if_neg (by rw [any_false (p := badJ a b) hk h]; simp)]
set_option maxRecDepth 100000 in
set_option maxHeartbeats 8000000 in
theorem join_any {d d' B : Nat} {a b : Tm} {vs ws : List Value} {w : World} (ha : RTm w B (d + 1) a vs) (hb : RTm w B (d + 1) b ws) (hB : B ≤ w.heap.size) (hn : a.l.length ≤ 16) (hn' : b.l.length ≤ 16) :
   Calls Tryz.prog 92 #[.agg vs.toArray, .agg ws.toArray] w fun e w' => TermE d w w' (joinR a b) e := by
 obtain ⟨i0, hi0, hz0, hz1, hz2⟩ := info_parts infoTm
 have HS := Lib.hid ha
 obtain ⟨A, c, rfl, _, _, _, _, _, hl⟩ := ha
 obtain ⟨A', c', rfl, _, _, _, _, _, hl'⟩ := hb
 have HLa : Hid (RL (TmR d) w B a.l A) := Lib.hid hl
 have HLb : Hid (RL (TmR d) w B b.l A') := Lib.hid hl'
 have HN := Lib.hid hn
 have HN' := Lib.hid hn'
 clear hl hl' hn hn'
 go_enter Tryz.func92, Tryz.ntmps92
 have HSRC := Lib.hid (HLa.out.keep (al3 (w := w) (o1 := .cells #[.int .i64 a.kind, .int .i64 a.n, .string a.s, .slice A a.l.length c] 33) (o2 := .cells #[.int .i64 b.kind, .int .i64 b.n, .string b.s, .slice A' b.l.length c'] 33) (o3 := .cells zero4 33) rfl).1 hB).src
 go_wp2_with ((
   at_builtin
   refine wpList_append_R (R := TmR d) (e := 33) (base := w.heap.size + 3) (B := B) (xs := []) (ys := a.l) rfl (.const (.slice none 0 0)) (.tmp 10) 26 rfl (bytes := 56) Tryz.underlying26 hi0 hz0 hz1 hz2 rfl (show 0 < 4 by omega) (single_tm d) rfl (OwnR.nil _ _ _ _ _) rfl HSRC.out rfl (by omega) (by have := HN.out; simp only [List.length_nil]; omega) (by omega) (by simp only [World.size_alloc]; omega) ?_
   intro v1 w1 hown1 hb1
   obtain ⟨A1, c1, rfl⟩ := hown1.form
   have b_a := Blk.keep (n31 rfl) hb1 (show w.heap.size < w.heap.size + 3 by omega)
   have b_b := Blk.keep (n32 rfl) hb1 (show w.heap.size + 1 < w.heap.size + 3 by omega)
   have b_r := Blk.keep (n33 rfl) hb1 (show w.heap.size + 1 + 1 < w.heap.size + 3 by omega)
   have HB1 : Hid (Below w.heap.size w w1) := Lib.hid ((al3 rfl).1.trans (hb1.mono (by omega)))
   have HO1 := Lib.hid hown1
   have hsz1 : w.heap.size + 3 ≤ w1.heap.size := by have := hb1.size; simp only [World.size_alloc] at this; omega
   have k_b := b_b.cell
   clear hown1 hb1))
 simp only [List.nil_append] at HO1 ⊢
 have hB1 := Nat.le_trans hB HB1.out.size
 clear k_b HSRC
 go_loopw [6, 15] (fun v i wr => ∃ (k : Nat) (A2 : Option Addr) (c2 : Nat), k ≤ b.l.length ∧ v = .slice A2 (joinK a b k).length c2 ∧ i = .int .i64 k ∧ Hid (Below (w.heap.size + 3) w1 wr) ∧ Hid (OwnR (TmR d) 33 wr (w.heap.size + 3) B (.slice A2 (joinK a b k).length c2) (joinK a b k)) ∧ Hid (∀ j (hj : j < k) (hj' : j < b.l.length), badJ a b b.l[j] = false)) (fun _ i _ => b.l.length - (intOf i).toNat)
 case atStart =>
   have e : joinK a b 0 = a.l := by simp [joinK]
   exact ⟨0, A1, c1, Nat.zero_le _, by rw [e], rfl, Lib.hid (Below.refl _ _), Lib.hid (by rw [e]; exact HO1.out), Lib.hid (fun j hj => absurd hj (by omega))⟩
 case round =>
   obtain ⟨k, A2, c2, hk, rfl, rfl, HBW, HOW, HALL⟩ := hrel
   have b_a2 := b_a.keep HBW.out (by omega)
   have b_b2 := b_b.keep HBW.out (by omega)
   have b_r2 := b_r.keep HBW.out (by omega)
   have hszr : w1.heap.size ≤ wr.heap.size := HBW.out.size
   have hBr := Nat.le_trans hB1 hszr
   have HBr := Lib.hid (HB1.out.trans (HBW.out.mono (show w.heap.size ≤ w.heap.size + 3 by omega)))
   have HJL := Lib.hid (joinK_len (k := k) HN.out HN'.out)
   clear b_a b_b b_r
   by_cases hlt : k < b.l.length
   · obtain ⟨bb, off, rfl, hob⟩ := HLb.out.base HBr.out hB (by omega)
     obtain ⟨x, vs, hx, hlen, hcell, hr⟩ := HLb.out.at_ HBr.out hB hlt
     obtain ⟨Ax, cx, rfl, _⟩ := RTm.cells (show RTm wr B d x vs from hr)
     have c0 : wr.cell? ⟨bb, off + k * 4, none⟩ = some (.int .i64 x.kind) := hcell 0 _ rfl
     have c1 : wr.cell? ⟨bb, off + k * 4 + 1, none⟩ = some (.int .i64 x.n) := hcell 1 _ rfl
     have c2 : wr.cell? ⟨bb, off + k * 4 + 2, none⟩ = some (.string x.s) := hcell 2 _ rfl
     have c3 : wr.cell? ⟨bb, off + k * 4 + 3, none⟩ = some (.slice Ax x.l.length cx) := hcell 3 _ rfl
     have HX := Lib.hid hx
     have HR : Hid (RTm wr B d x _) := Lib.hid hr
     obtain ⟨y, ys, hy, _, hycell, hry⟩ := HLb.out.at_ (k := 0) HBr.out hB (by omega)
     obtain ⟨Ay, cy, rfl, _⟩ := RTm.cells (show RTm wr B d y ys from hry)
     have HKY : Hid (headK b.l = y.kind) := Lib.hid (by unfold headK; rw [List.head?_eq_getElem?, hy]; rfl)
     have f0 : wr.cell? ⟨bb, off, none⟩ = some (.int .i64 y.kind) := by simpa using hycell 0 _ rfl
     clear hcell hlen hx hr hycell hry hy
     go_wp2_with fail
     generalize hW : World.alloc _ _ = W
     obtain ⟨hb1, hz⟩ := al1 hW
     have b_x := n11 hW
     have g0 := cell_regrown ((hb1.cell (p := ⟨bb, off, none⟩) (Nat.lt_of_lt_of_le hob (by omega))).trans f0)
     have b_a3 := b_a2.later hb1
     have b_b3 := b_b2.later hb1
     have b_r3 := b_r2.later hb1
     have HBa := Lib.hid (HBW.out.trans (hb1.mono (by omega)))
     have HBA := Lib.hid (bthen HBr.out hb1)
     have HOa := Lib.hid (HOW.out.later hb1 hBr)
     have HRa := Lib.hid (HR.out.below hb1 hBr)
     have hsza := Nat.le_trans hszr hb1.size
     have hBa := Nat.le_trans hBr hb1.size
     clear hW hb1 hz c0 c1 c2 c3 b_a2 b_b2 b_r2 HBW HBr HOW HR f0
     have q_x := b_x.regrown
     have q_a := b_a3.regrown
     have q_b := b_b3.regrown
     have hfork : (((x.kind != y.kind) = true ∨ ((x.kind != y.kind) = false ∧ ∃ z : Tm, ∃ q : Nat × Nat, (x.kind != z.kind) = true ∧ 0 < a.l.length ∧ headK a.l = z.kind ∧ A = some ⟨q.1, q.2, none⟩ ∧ q.1 < W.heap.size ∧ W.cell? ⟨q.1, q.2, none⟩ = some (.int .i64 z.kind))) ∧ badJ a b x = true) ∨
         (((x.kind != y.kind) = false ∧ (¬ 0 < a.l.length ∨ ∃ z : Tm, ∃ q : Nat × Nat, (x.kind != z.kind) = false ∧ 0 < a.l.length ∧ headK a.l = z.kind ∧ A = some ⟨q.1, q.2, none⟩ ∧ q.1 < W.heap.size ∧ W.cell? ⟨q.1, q.2, none⟩ = some (.int .i64 z.kind))) ∧ badJ a b x = false) := by
       rcases Bool.eq_false_or_eq_true (x.kind != y.kind) with h1 | h1
       · exact .inl ⟨.inl h1, badJ_y h1 HKY.out⟩
       · by_cases h0 : 0 < a.l.length
         · obtain ⟨ba, offa, rfl, hoa⟩ := HLa.out.base HBA.out hB h0
           obtain ⟨z, zs, hz', _, hzcell, hrz⟩ := HLa.out.at_ (k := 0) HBA.out hB h0
           obtain ⟨Az, cz, rfl, _⟩ := RTm.cells (show RTm W B d z zs from hrz)
           have hkz : headK a.l = z.kind := by unfold headK; rw [List.head?_eq_getElem?, hz']; rfl
           have e0 : W.cell? ⟨ba, offa, none⟩ = some (.int .i64 z.kind) := by simpa using hzcell 0 _ rfl
           rcases Bool.eq_false_or_eq_true (x.kind != z.kind) with h2 | h2
           · exact .inl ⟨.inr ⟨h1, z, (ba, offa), h2, h0, hkz, rfl, hoa, e0⟩, badJ_z h2 h0 hkz⟩
           · exact .inr ⟨⟨h1, .inr ⟨z, (ba, offa), h2, h0, hkz, rfl, hoa, e0⟩⟩, badJ_nz h1 HKY.out h2 hkz⟩
         · exact .inr ⟨⟨h1, .inl h0⟩, badJ_n h1 HKY.out h0⟩
     rcases hfork with ⟨h, hbad⟩ | ⟨⟨h1, h⟩, hbad⟩
     · have HBAD := Lib.hid (joinR_bad HX.out hbad)
       clear hbad
       rcases h with h1 | ⟨h1, z, ⟨ba, offa⟩, h2, h0, hkz, rfl, hoa, e0⟩
       · refine wp_region_quiet_below (by kernel_rfl) (by kernel_rfl) ?_
         repeat (go_big_quiet_step (fail))
         refine wpQuiet_nil ?_
         intro wc hw3
         have hb1 : Below W.heap.size W wc := by obtain ⟨p, rfl⟩ := hw3; exact below_regrown _ _ _
         clear hw3 q_x q_a q_b g0
         have b_r4 := b_r3.later hb1
         have HBB := Lib.hid (bthen HBA.out hb1)
         have kR := b_r4.cell
         have fR := b_r4.free
         clear hb1
         go_wp2_with fail
         have hbr := put4b b_r4 (.int .i64 0) (.int .i64 0) (.string ⟨#[]⟩) (.slice none 0 0)
         refine bodyPost_ret (ret_tm2 rfl rfl hbr rfl) rfl ?_
         rw [HBAD.out]
         exact ⟨⟨_, _, rfl, TmOwn.no⟩, put4u HBB.out (by omega) _ _ _ _⟩
       · have r0 := cell_regrown e0
         refine wp_region_quiet_below (by kernel_rfl) (by kernel_rfl) ?_
         repeat (go_big_quiet_step (fail))
         refine wpQuiet_nil ?_
         intro wc hw3
         have hb1 : Below W.heap.size W wc := by obtain ⟨p, rfl⟩ := hw3; exact below_regrown _ _ _
         clear hw3 q_x q_a q_b g0
         have b_r4 := b_r3.later hb1
         have HBB := Lib.hid (bthen HBA.out hb1)
         have kR := b_r4.cell
         have fR := b_r4.free
         clear hb1
         go_wp2_with fail
         have hbr := put4b b_r4 (.int .i64 0) (.int .i64 0) (.string ⟨#[]⟩) (.slice none 0 0)
         refine bodyPost_ret (ret_tm2 rfl rfl hbr rfl) rfl ?_
         rw [HBAD.out]
         exact ⟨⟨_, _, rfl, TmOwn.no⟩, put4u HBB.out (by omega) _ _ _ _⟩
     · have HNB := Lib.hid hbad
       clear hbad
       rcases h with h0 | ⟨z, ⟨ba, offa⟩, h2, h0, hkz, rfl, hoa, e0⟩
       · refine wp_region_quiet_below (by kernel_rfl) (by kernel_rfl) ?_
         repeat (go_big_quiet_step (fail))
         refine wpQuiet_nil ?_
         intro wc hw3
         have hb1 : Below W.heap.size W wc := by obtain ⟨p, rfl⟩ := hw3; exact below_regrown _ _ _
         clear hw3 q_x q_a q_b g0
         have b_a4 := b_a3.later hb1
         have b_b4 := b_b3.later hb1
         have b_r4 := b_r3.later hb1
         have b_x4 := b_x.later hb1
         have HBb := Lib.hid (HBa.out.trans (hb1.mono (by omega)))
         have HBB := Lib.hid (bthen HBA.out hb1)
         have HOb := Lib.hid (HOa.out.later hb1 hBa)
         have HRb := Lib.hid (HRa.out.below hb1 hBa)
         have hszb := Nat.le_trans hsza hb1.size
         have hBb := Nat.le_trans hBa hb1.size
         clear hb1 b_a3 b_b3 b_r3 b_x HBa HOa HRa HBA hsza hBa
         have k_a := b_a4.cell
         have l_a := b_a4.lt
         have k_x := b_x4.cell
         have l_x := b_x4.lt
         go_wp2_with fail
         clear k_a l_a k_x l_x
         refine (has_any (d := d) (d' := d) (s := a) (t := x) (B := B) (vs := [_, _, _, _]) (ws := [_, _, _, _]) (HS.out.below HBB.out hB) HRb.out hBb).mono ?_
         rintro e wd ⟨rfl, hb3⟩
         have b_x5 := b_x4.later hb3
         have HBd := Lib.hid (HBb.out.trans (hb3.mono (by omega)))
         have HOd := Lib.hid (HOb.out.later hb3 hBb)
         have HRd := Lib.hid (HRb.out.below hb3 hBb)
         have hszd := Nat.le_trans hszb hb3.size
         have hBd := Nat.le_trans hBb hb3.size
         clear hb3 b_a4 b_b4 b_r4 b_x4 HBb HOb HRb HBB hszb hBb
         have HALL2 : Hid (∀ j (hj : j < k + 1) (hj' : j < b.l.length), badJ a b b.l[j] = false) := Lib.hid fun j hj hj' => by
           rcases Nat.lt_or_ge j k with h3 | h3
           · exact HALL.out j h3 hj'
           · obtain rfl : j = k := by omega
             rw [(List.getElem?_eq_some_iff.1 HX.out).2]; exact HNB.out
         by_cases hm : hasB a x = true
         · have HE := Lib.hid (joinK_in HX.out hm)
           rw [hm]
           clear hm
           go_wp2_with fail
           go_roundw
           case rel => exact ⟨k + 1, A2, _, by omega, by rw [HE.out], by go_num, HBd, Lib.hid (by rw [HE.out]; exact HOd.out), HALL2⟩
           case measure => simp [intOf]; omega
         · simp only [Bool.not_eq_true] at hm
           have HE := Lib.hid (joinK_out HX.out hm)
           rw [hm]
           clear hm
           generalize hout : joinK a b k = out at *
           clear hout
           have k_x := b_x5.cell
           have l_x := b_x5.lt
           have HOW := Lib.hid (And.intro (HOd.out.later ((Below.refl _ wd).alloc (Nat.le_refl _) (.cells #[.int .i64 x.kind, .int .i64 x.n, .string x.s, .slice Ax x.l.length cx] 33)) hBd) (Blk.src (R := TmR d) (B := B) (x := x) (Blk.new wd #[.int .i64 x.kind, .int .i64 x.n, .string x.s, .slice Ax x.l.length cx] 33) ((HRd.out.below ((Below.refl _ wd).alloc (Nat.le_refl _) (.cells #[.int .i64 x.kind, .int .i64 x.n, .string x.s, .slice Ax x.l.length cx] 33)) hBd))))
           go_wp2_with ((
             at_builtin
             refine wpList_append_R (R := TmR d) (e := 33) (base := w.heap.size + 3) (B := B) (xs := out) (ys := [x]) rfl (.tmp 50) (.tmp 52) 26 rfl (bytes := 56) Tryz.underlying26 hi0 hz0 hz1 hz2 rfl (show 0 < 4 by omega) (single_tm d) rfl HOW.out.1 rfl HOW.out.2 rfl (by omega) (by have := HJL.out; simp only [List.length_cons, List.length_nil]; omega) (by omega) (by rw [World.size_alloc]; omega) ?_
             intro v2 w7 hown2 hb2
             obtain ⟨A3, c3, rfl⟩ := hown2.form
             have H7 := Lib.hid (And.intro hown2 (HBd.out.trans (((Below.refl (w.heap.size + 3) wd).alloc (by omega) (.cells #[.int .i64 x.kind, .int .i64 x.n, .string x.s, .slice Ax x.l.length cx] 33)).trans hb2)))
             clear hown2 hb2 k_x l_x b_x5))
           go_roundw
           case rel => exact ⟨k + 1, A3, c3, by omega, by rw [HE.out, List.length_append]; rfl, by go_num, Lib.hid H7.out.2, Lib.hid (by rw [HE.out]; exact H7.out.1), HALL2⟩
           case measure => simp [intOf]; omega
       · have r0 := cell_regrown e0
         refine wp_region_quiet_below (by kernel_rfl) (by kernel_rfl) ?_
         repeat (go_big_quiet_step (fail))
         refine wpQuiet_nil ?_
         intro wc hw3
         have hb1 : Below W.heap.size W wc := by obtain ⟨p, rfl⟩ := hw3; exact below_regrown _ _ _
         clear hw3 q_x q_a q_b g0
         have b_a4 := b_a3.later hb1
         have b_b4 := b_b3.later hb1
         have b_r4 := b_r3.later hb1
         have b_x4 := b_x.later hb1
         have HBb := Lib.hid (HBa.out.trans (hb1.mono (by omega)))
         have HBB := Lib.hid (bthen HBA.out hb1)
         have HOb := Lib.hid (HOa.out.later hb1 hBa)
         have HRb := Lib.hid (HRa.out.below hb1 hBa)
         have hszb := Nat.le_trans hsza hb1.size
         have hBb := Nat.le_trans hBa hb1.size
         clear hb1 b_a3 b_b3 b_r3 b_x HBa HOa HRa HBA hsza hBa
         have k_a := b_a4.cell
         have l_a := b_a4.lt
         have k_x := b_x4.cell
         have l_x := b_x4.lt
         go_wp2_with fail
         clear k_a l_a k_x l_x
         refine (has_any (d := d) (d' := d) (s := a) (t := x) (B := B) (vs := [_, _, _, _]) (ws := [_, _, _, _]) (HS.out.below HBB.out hB) HRb.out hBb).mono ?_
         rintro e wd ⟨rfl, hb3⟩
         have b_x5 := b_x4.later hb3
         have HBd := Lib.hid (HBb.out.trans (hb3.mono (by omega)))
         have HOd := Lib.hid (HOb.out.later hb3 hBb)
         have HRd := Lib.hid (HRb.out.below hb3 hBb)
         have hszd := Nat.le_trans hszb hb3.size
         have hBd := Nat.le_trans hBb hb3.size
         clear hb3 b_a4 b_b4 b_r4 b_x4 HBb HOb HRb HBB hszb hBb
         have HALL2 : Hid (∀ j (hj : j < k + 1) (hj' : j < b.l.length), badJ a b b.l[j] = false) := Lib.hid fun j hj hj' => by
           rcases Nat.lt_or_ge j k with h3 | h3
           · exact HALL.out j h3 hj'
           · obtain rfl : j = k := by omega
             rw [(List.getElem?_eq_some_iff.1 HX.out).2]; exact HNB.out
         by_cases hm : hasB a x = true
         · have HE := Lib.hid (joinK_in HX.out hm)
           rw [hm]
           clear hm
           go_wp2_with fail
           go_roundw
           case rel => exact ⟨k + 1, A2, _, by omega, by rw [HE.out], by go_num, HBd, Lib.hid (by rw [HE.out]; exact HOd.out), HALL2⟩
           case measure => simp [intOf]; omega
         · simp only [Bool.not_eq_true] at hm
           have HE := Lib.hid (joinK_out HX.out hm)
           rw [hm]
           clear hm
           generalize hout : joinK a b k = out at *
           clear hout
           have k_x := b_x5.cell
           have l_x := b_x5.lt
           have HOW := Lib.hid (And.intro (HOd.out.later ((Below.refl _ wd).alloc (Nat.le_refl _) (.cells #[.int .i64 x.kind, .int .i64 x.n, .string x.s, .slice Ax x.l.length cx] 33)) hBd) (Blk.src (R := TmR d) (B := B) (x := x) (Blk.new wd #[.int .i64 x.kind, .int .i64 x.n, .string x.s, .slice Ax x.l.length cx] 33) ((HRd.out.below ((Below.refl _ wd).alloc (Nat.le_refl _) (.cells #[.int .i64 x.kind, .int .i64 x.n, .string x.s, .slice Ax x.l.length cx] 33)) hBd))))
           go_wp2_with ((
             at_builtin
             refine wpList_append_R (R := TmR d) (e := 33) (base := w.heap.size + 3) (B := B) (xs := out) (ys := [x]) rfl (.tmp 50) (.tmp 52) 26 rfl (bytes := 56) Tryz.underlying26 hi0 hz0 hz1 hz2 rfl (show 0 < 4 by omega) (single_tm d) rfl HOW.out.1 rfl HOW.out.2 rfl (by omega) (by have := HJL.out; simp only [List.length_cons, List.length_nil]; omega) (by omega) (by rw [World.size_alloc]; omega) ?_
             intro v2 w7 hown2 hb2
             obtain ⟨A3, c3, rfl⟩ := hown2.form
             have H7 := Lib.hid (And.intro hown2 (HBd.out.trans (((Below.refl (w.heap.size + 3) wd).alloc (by omega) (.cells #[.int .i64 x.kind, .int .i64 x.n, .string x.s, .slice Ax x.l.length cx] 33)).trans hb2)))
             clear hown2 hb2 k_x l_x b_x5))
           go_roundw
           case rel => exact ⟨k + 1, A3, c3, by omega, by rw [HE.out, List.length_append]; rfl, by go_num, Lib.hid H7.out.2, Lib.hid (by rw [HE.out]; exact H7.out.1), HALL2⟩
           case measure => simp [intOf]; omega
   · have HE := Lib.hid (show joinK a b k = joinAll a b from joinK_end (by omega))
     have HOK := Lib.hid (joinR_ok (show b.l.length ≤ k by omega) HALL.out)
     rw [HE.out] at HOW HJL ⊢
     generalize hout : joinAll a b = all at *
     have kR := b_r2.cell
     have fR := b_r2.free
     clear hout
     by_cases h16 : 16 < all.length
     · have hg : (16 : Int) < (all.length : Int) := by omega
       have HR16 := Lib.hid (show joinR a b = (noT, 4) by rw [HOK.out, if_pos h16])
       go_wp2_with fail
       have hbr := put4b b_r2 (.int .i64 0) (.int .i64 0) (.string ⟨#[]⟩) (.slice none 0 0)
       refine bodyPost_ret (ret_tm2 rfl rfl hbr rfl) rfl ?_
       rw [HR16.out]
       exact ⟨⟨_, _, rfl, TmOwn.no⟩, put4u HBr.out (by omega) _ _ _ _⟩
     · have hg : ¬ (16 : Int) < (all.length : Int) := by omega
       have HR16 := Lib.hid (show joinR a b = setR all by rw [HOK.out, if_neg h16])
       obtain ⟨A3, c3, e3, r1, r2, r3⟩ := HOW.out.reads hBr (by have := HJL.out; show all.length * (8 * 4) ≤ _; omega)
       simp only [Value.slice.injEq] at e3
       obtain ⟨rfl, _, rfl⟩ := e3
       have HRL := Lib.hid r3
       clear r1 r2 r3 kR fR
       go_wp2_with fail
       refine (set_any (d := d) (B := wr.heap.size) (l := all) (A := A2) (c := c2) HRL.out (Nat.le_refl _) (by have := HJL.out; omega)).mono ?_
       rintro e w9 ⟨⟨A4, c4, rfl, hrd⟩, hb9⟩
       have b_r9 := b_r2.later hb9
       have HB9 := Lib.hid (bthen HBr.out hb9)
       have HRD := Lib.hid hrd
       have kR := b_r9.cell
       have fR := b_r9.free
       clear hrd hb9
       go_wp2_with fail
       have hbr := put4b b_r9 (.int .i64 (setR all).1.kind) (.int .i64 (setR all).1.n) (.string (setR all).1.s) (.slice A4 (setR all).1.l.length c4)
       refine bodyPost_ret (ret_tm2 rfl rfl hbr rfl) rfl ?_
       rw [HR16.out]
       exact ⟨⟨A4, c4, rfl, (HRD.out.put4 (by omega) _ _ _ _).lower (by omega)⟩, put4u HB9.out (by omega) _ _ _ _⟩
end Go.Proofs.YtiplipdigabidaaGreat
