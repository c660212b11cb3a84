/- The document's store at awake's one fact; Made. -/
import Derived.Test.YtkdonhhbpacgmaaGreatJoAw2
import Derived.Test.YtkdonhhbpacgmaaGreatRefFix
set_option linter.unusedVariables false
set_option linter.unusedSimpArgs false
namespace Go.Proofs.YtkdonhhbpacgmaaGreat
open Go.ChangeShapes Go.WideShapes Go.ChangeAt Go.RowKit
set_option maxRecDepth 100000 in
set_option maxHeartbeats 4000000 in
theorem place0_any {M : Nat} {a b c : Value} {w : World} (hM : Blk w M #[.slice none 0 0]) : Calls Tryz.prog 67 #[.pointer (some ⟨M, 0, none⟩), .agg #[a, b, c]] w fun z w' => z = .returned (.tuple #[.int .i64 0, .bool false]) ∧ Below w.heap.size w w' := by
 have HM := Lib.hid hM
 clear hM
 go_enter Tryz.func67, Tryz.ntmps67
 go_upto_region 2 with fail
 generalize hW : World.alloc _ _ = w1
 obtain ⟨hb1, hz⟩ := al1 hW
 have HM1 := Lib.hid (HM.out.later hb1)
 have HB1 := Lib.hid hb1
 clear hW hb1
 go_loopw [6] (fun i wr => i = .int .i64 0 ∧ Hid (Below w1.heap.size w1 wr)) (fun _ _ => 0)
 case atStart => exact ⟨rfl, Lib.hid (Below.refl _ _)⟩
 case round =>
   obtain ⟨rfl, HWR⟩ := hrel
   have q_m := (HM1.out.later HWR.out).regrown
   go_upto_region 2 with fail
   refine wp_region_quiet_below (by kernel_rfl) (by kernel_rfl) ?_
   repeat (go_big_quiet_step (fail))
   refine wpQuiet_nil ?_
   intro w3 hw_
   have hb : Below wr.heap.size wr w3 := by obtain ⟨p_, rfl⟩ := hw_; exact below_regrown _ _ _
   clear hw_ q_m
   have HB3 := Lib.hid (bthen HWR.out hb)
   clear hb
   go_upto_region 4 with fail
   have q_m := (HM1.out.later HB3.out).regrown
   refine wp_region_quiet_below (by kernel_rfl) (by kernel_rfl) ?_
   repeat (go_big_quiet_step (fail))
   refine wpQuiet_nil ?_
   intro w4 hw_
   have hb : Below w3.heap.size w3 w4 := by obtain ⟨p_, rfl⟩ := hw_; exact below_regrown _ _ _
   clear hw_ q_m
   go_wp2_with fail
   go_ret2
   exact ⟨rfl, bthen HB1.out (bthen HB3.out hb)⟩
set_option maxRecDepth 100000 in
set_option maxHeartbeats 4000000 in
theorem mf1_any {T c0 : Nat} {w : World} (ht : T1 w T) : Calls Tryz.prog 68 #[.agg #[.string pS, .slice (some ⟨T, 0, none⟩) 1 c0, .int .u32 1]] w fun z w' => z = .returned (.bool true) ∧ Below w.heap.size w w' := by
 have HT := Lib.hid ht
 clear ht
 go_enter Tryz.func68, Tryz.ntmps68
 go_upto_region 2 with fail
 generalize hW : World.alloc _ _ = w1
 obtain ⟨hb1, hz⟩ := al1 hW
 have HF1 := Lib.hid (n11 hW)
 have HB1 := Lib.hid hb1
 clear hW hb1
 have hnm : nameB (bs pS) = true := by decide
 have hfx : fixedB p1 = true := by decide
 go_loopw [9] (fun i wr => (i = .int .i64 0 ∨ i = .int .i64 1) ∧ Hid (Below w1.heap.size w1 wr)) (fun i _ => 1 - (intOf i).toNat)
 case atStart => exact ⟨.inl rfl, Lib.hid (Below.refl _ _)⟩
 case round =>
   obtain ⟨hi, HWR⟩ := hrel
   have HBw := Lib.hid (bthen HB1.out HWR.out)
   have HTr := Lib.hid (HT.out.later HBw.out)
   have HFr := Lib.hid (HF1.out.later HWR.out)
   rcases hi with rfl | rfl
   · obtain ⟨A, c, hc, h0, h1, h2, h3⟩ := HTr.out.cells
     go_wp2_with fail
     generalize hW : World.alloc _ _ = w2
     obtain ⟨hb2, hz2⟩ := al1 hW
     have HB2 := Lib.hid hb2
     have HB2w := Lib.hid (bthen HWR.out hb2)
     clear hW hb2 hz2 h0 h1 h2 h3
     have hr : RTm w2 w2.heap.size 2 p1 [.int .i64 2, .int .i64 1, .string ⟨#[]⟩, .slice A 0 c] := ⟨A, c, rfl, by simp [p1], ⟨by simp [p1], hc⟩, by decide, by simp [p1, I64], by simp [p1, I64], fun h => absurd h (by simp [p1])⟩
     refine (refFixed_any (vs := [_, _, _, _]) hr (Nat.le_refl _)).mono ?_
     rintro e w3 ⟨rfl, hb3⟩
     rw [hfx]
     have HB3 := Lib.hid (bthen HB2w.out hb3)
     clear hb3
     go_wp2_with fail
     go_roundw
     case rel => exact ⟨.inr rfl, HB3⟩
     case measure => simp [intOf]
   · have k_f := HFr.out.cell
     have l_f := HFr.out.lt
     go_wp2_with fail
     refine (refName_any pS wr (by decide)).mono ?_
     rintro e w2 ⟨rfl, rfl⟩
     rw [hnm]
     go_wp2_with fail
     go_ret
     exact ⟨rfl, HBw.out⟩
set_option maxRecDepth 100000 in
set_option maxHeartbeats 4000000 in
theorem radd_any {M T c0 : Nat} {w : World} (hM : Blk w M #[.slice none 0 0]) (ht : T1 w T) : Calls Tryz.prog 38 #[.pointer (some ⟨M, 0, none⟩), .agg #[.string pS, .slice (some ⟨T, 0, none⟩) 1 c0, .int .u32 1]] w fun z w' => z = .returned (.bool true) ∧ Exc M w w' := by
 have HM := Lib.hid hM
 have HT := Lib.hid ht
 have hml := hM.lt
 clear hM ht
 obtain ⟨i0, hi0, hz0, hz1, hz2⟩ := info_parts infoFc
 go_enter Tryz.func38, Tryz.ntmps38
 go_wp2_with fail
 generalize hW : World.alloc _ _ = w1
 obtain ⟨hb1, hz⟩ := al1 hW
 have HF1 := Lib.hid (n11 hW)
 have HM1 := Lib.hid (HM.out.later hb1)
 have HB1 := Lib.hid hb1
 clear hW hb1
 refine (place0_any HM1.out).mono ?_
 rintro e w2 ⟨rfl, hb⟩
 have HF2 := Lib.hid (HF1.out.later hb)
 have HM2 := Lib.hid (HM1.out.later hb)
 have HB2 := Lib.hid (bthen HB1.out hb)
 clear hb
 have k_f := HF2.out.cell
 have l_f := HF2.out.lt
 go_wp2_with fail
 refine (mf1_any (c0 := c0) (HT.out.later HB2.out)).mono ?_
 rintro e w3 ⟨rfl, hb⟩
 have HF3 := Lib.hid (HF2.out.later hb)
 have HM3 := Lib.hid (HM2.out.later hb)
 have HB3 := Lib.hid (bthen HB2.out hb)
 have hsz3 := HB3.out.size
 clear hb k_f l_f
 go_upto_region 4 with fail
 have HSL : Hid (∀ {w' : World}, Below w3.heap.size w3 w' → (w'.cell? ⟨M, 0, none⟩ = some (.slice none 0 0) ∧ w'.cell? ⟨w.heap.size, 0, none⟩ = some (.string pS) ∧ w'.cell? ⟨w.heap.size, 1, none⟩ = some (.slice (some ⟨T, 0, none⟩) 1 c0) ∧ w'.cell? ⟨w.heap.size, 2, none⟩ = some (.int .u32 1))) := Lib.hid (fun hb => have h := (HF3.out.later hb).cell; ⟨(HM3.out.later hb).cell 0, h 0, h 1, h 2⟩)
 have mixed : Tryz.prog.follows .mixedOrders = true := by kernel_rfl
 refine wp_region_upto (S := fun w' => w'.cell? ⟨M, 0, none⟩ = some (.slice none 0 0) ∧ w'.cell? ⟨w.heap.size, 0, none⟩ = some (.string pS) ∧ w'.cell? ⟨w.heap.size, 1, none⟩ = some (.slice (some ⟨T, 0, none⟩) 1 c0) ∧ w'.cell? ⟨w.heap.size, 2, none⟩ = some (.int .u32 1)) 20 (by kernel_rfl) (by kernel_rfl) (by kernel_rfl) (by kernel_rfl) (HSL.out (Below.refl _ _).drew) ?_
 refine upto_take (i := 0) (v := ?v1_) (by simp only [List.getElem?_toArray, List.getElem?_cons_succ, List.getElem?_cons_zero]; rfl) (by kernel_rfl) (by kernel_rfl) (by kernel_rfl) (by kernel_rfl) ?hq1_ ?hw1_ ?hy1_ ?rest1_
 case hq1_ => exact fun _ _ _ h => h
 case hw1_ => rfl
 case hy1_ => (intro w' hS'; (try dsimp only at hS'); go_simp; (try with_reducible rfl))
 (try simp only [Act.put, List.setIfInBounds_toArray, List.set_cons_zero, List.set_cons_succ])
 refine upto_take (i := 1) (v := ?v2_) (by simp only [List.getElem?_toArray, List.getElem?_cons_succ, List.getElem?_cons_zero]; rfl) (by kernel_rfl) (by kernel_rfl) (by kernel_rfl) (by kernel_rfl) ?hq2_ ?hw2_ ?hy2_ ?rest2_
 case hq2_ => exact fun _ _ _ h => h
 case hw2_ => rfl
 case hy2_ => (intro w' hS'; (try dsimp only at hS'); go_simp; (try with_reducible rfl))
 (try simp only [Act.put, List.setIfInBounds_toArray, List.set_cons_zero, List.set_cons_succ])
 refine upto_take (i := 2) (v := ?v3_) (by simp only [List.getElem?_toArray, List.getElem?_cons_succ, List.getElem?_cons_zero]; rfl) (by kernel_rfl) (by kernel_rfl) (by kernel_rfl) (by kernel_rfl) ?hq3_ ?hw3_ ?hy3_ ?rest3_
 case hq3_ => exact fun _ _ _ h => h
 case hw3_ => rfl
 case hy3_ => (intro w' hS'; (try dsimp only at hS'); go_simp; (try with_reducible rfl))
 (try simp only [Act.put, List.setIfInBounds_toArray, List.set_cons_zero, List.set_cons_succ])
 refine upto_take (i := 3) (v := ?v4_) (by simp only [List.getElem?_toArray, List.getElem?_cons_succ, List.getElem?_cons_zero]; rfl) (by kernel_rfl) (by kernel_rfl) (by kernel_rfl) (by kernel_rfl) ?hq4_ ?hw4_ ?hy4_ ?rest4_
 case hq4_ => exact fun _ _ _ h => h
 case hw4_ => rfl
 case hy4_ => (intro w' hS'; (try dsimp only at hS'); go_simp; (try with_reducible rfl))
 (try simp only [Act.put, List.setIfInBounds_toArray, List.set_cons_zero, List.set_cons_succ])
 refine upto_take (i := 4) (v := ?v5_) (by simp only [List.getElem?_toArray, List.getElem?_cons_succ, List.getElem?_cons_zero]; rfl) (by kernel_rfl) (by kernel_rfl) (by kernel_rfl) (by kernel_rfl) ?hq5_ ?hw5_ ?hy5_ ?rest5_
 case hq5_ => exact fun _ _ _ h => h
 case hw5_ => rfl
 case hy5_ => (intro w' hS'; (try dsimp only at hS'); go_simp; (try with_reducible rfl))
 (try simp only [Act.put, List.setIfInBounds_toArray, List.set_cons_zero, List.set_cons_succ])
 refine upto_take (i := 5) (v := ?v6_) (by simp only [List.getElem?_toArray, List.getElem?_cons_succ, List.getElem?_cons_zero]; rfl) (by kernel_rfl) (by kernel_rfl) (by kernel_rfl) (by kernel_rfl) ?hq6_ ?hw6_ ?hy6_ ?rest6_
 case hq6_ => exact fun _ _ _ h => h
 case hw6_ => rfl
 case hy6_ => (intro w' hS'; (try dsimp only at hS'); go_simp; (try with_reducible rfl))
 (try simp only [Act.put, List.setIfInBounds_toArray, List.set_cons_zero, List.set_cons_succ])
 refine upto_take (i := 6) (v := ?v7_) (by simp only [List.getElem?_toArray, List.getElem?_cons_succ, List.getElem?_cons_zero]; rfl) (by kernel_rfl) (by kernel_rfl) (by kernel_rfl) (by kernel_rfl) ?hq7_ ?hw7_ ?hy7_ ?rest7_
 case hq7_ => exact fun _ _ _ h => h
 case hw7_ => rfl
 case hy7_ => (intro w' hS'; (try dsimp only at hS'); go_simp; (try with_reducible rfl))
 (try simp only [Act.put, List.setIfInBounds_toArray, List.set_cons_zero, List.set_cons_succ])
 refine upto_take (i := 8) (v := ?v8_) (by simp only [List.getElem?_toArray, List.getElem?_cons_succ, List.getElem?_cons_zero]; rfl) (by kernel_rfl) (by kernel_rfl) (by kernel_rfl) (by kernel_rfl) ?hq8_ ?hw8_ ?hy8_ ?rest8_
 case hq8_ => exact fun _ _ _ h => h
 case hw8_ => rfl
 case hy8_ => (intro w' hS'; (try dsimp only at hS'); go_simp; (try with_reducible rfl))
 (try simp only [Act.put, List.setIfInBounds_toArray, List.set_cons_zero, List.set_cons_succ])
 refine upto_take (i := 11) (v := ?v9_) (by simp only [List.getElem?_toArray, List.getElem?_cons_succ, List.getElem?_cons_zero]; rfl) (by kernel_rfl) (by kernel_rfl) (by kernel_rfl) (by kernel_rfl) ?hq9_ ?hw9_ ?hy9_ ?rest9_
 case hq9_ => exact fun _ _ _ h => h
 case hw9_ => rfl
 case hy9_ => (intro w' hS'; (try dsimp only at hS'); go_simp; (try with_reducible rfl))
 (try simp only [Act.put, List.setIfInBounds_toArray, List.set_cons_zero, List.set_cons_succ])
 refine upto_take (i := 12) (v := ?v10_) (by simp only [List.getElem?_toArray, List.getElem?_cons_succ, List.getElem?_cons_zero]; rfl) (by kernel_rfl) (by kernel_rfl) (by kernel_rfl) (by kernel_rfl) ?hq10_ ?hw10_ ?hy10_ ?rest10_
 case hq10_ => exact fun _ _ _ h => h
 case hw10_ => rfl
 case hy10_ => (intro w' hS'; (try dsimp only at hS'); go_simp; (try with_reducible rfl))
 (try simp only [Act.put, List.setIfInBounds_toArray, List.set_cons_zero, List.set_cons_succ])
 refine upto_take (i := 13) (v := ?v11_) (by simp only [List.getElem?_toArray, List.getElem?_cons_succ, List.getElem?_cons_zero]; rfl) (by kernel_rfl) (by kernel_rfl) (by kernel_rfl) (by kernel_rfl) ?hq11_ ?hw11_ ?hy11_ ?rest11_
 case hq11_ => exact fun _ _ _ h => h
 case hw11_ => rfl
 case hy11_ => (intro w' hS'; (try dsimp only at hS'); go_simp; (try with_reducible rfl))
 (try simp only [Act.put, List.setIfInBounds_toArray, List.set_cons_zero, List.set_cons_succ])
 refine upto_take (i := 14) (v := ?v12_) (by simp only [List.getElem?_toArray, List.getElem?_cons_succ, List.getElem?_cons_zero]; rfl) (by kernel_rfl) (by kernel_rfl) (by kernel_rfl) (by kernel_rfl) ?hq12_ ?hw12_ ?hy12_ ?rest12_
 case hq12_ => exact fun _ _ _ h => h
 case hw12_ => rfl
 case hy12_ => (intro w' hS'; (try dsimp only at hS'); go_simp; (try with_reducible rfl))
 (try simp only [Act.put, List.setIfInBounds_toArray, List.set_cons_zero, List.set_cons_succ])
 refine upto_take (i := 15) (v := ?v13_) (by simp only [List.getElem?_toArray, List.getElem?_cons_succ, List.getElem?_cons_zero]; rfl) (by kernel_rfl) (by kernel_rfl) (by kernel_rfl) (by kernel_rfl) ?hq13_ ?hw13_ ?hy13_ ?rest13_
 case hq13_ => exact fun _ _ _ h => h
 case hw13_ => rfl
 case hy13_ => (intro w' hS'; (try dsimp only at hS'); go_simp; (try with_reducible rfl))
 (try simp only [Act.put, List.setIfInBounds_toArray, List.set_cons_zero, List.set_cons_succ])
 refine upto_take (i := 16) (v := ?v14_) (by simp only [List.getElem?_toArray, List.getElem?_cons_succ, List.getElem?_cons_zero]; rfl) (by kernel_rfl) (by kernel_rfl) (by kernel_rfl) (by kernel_rfl) ?hq14_ ?hw14_ ?hy14_ ?rest14_
 case hq14_ => exact fun _ _ _ h => h
 case hw14_ => rfl
 case hy14_ => (intro w' hS'; (try dsimp only at hS'); go_simp; (try with_reducible rfl))
 (try simp only [Act.put, List.setIfInBounds_toArray, List.set_cons_zero, List.set_cons_succ])
 generalize hD : World.drew w3 = u_0
 have HU_0 : Hid (Below w3.heap.size w3 u_0) := Lib.hid (hD ▸ (Below.refl _ _).drew)
 have hs_0 := HU_0.out.size
 clear hD
 refine upto_ready (rs := [7, 9]) (by kernel_rfl) rfl (by kernel_rfl) ?_
 refine AllUpto.cons (by simp only [List.getElem?_toArray, List.getElem?_cons_succ, List.getElem?_cons_zero]; rfl) (fun K hK => ?_) (AllUpto.cons (by simp only [List.getElem?_toArray, List.getElem?_cons_succ, List.getElem?_cons_zero]; rfl) (fun K hK => ?_) AllUpto.nil)
 ·
  refine step_append_FB (R := FcR) (e := 60) rfl (.const (.slice none 0 0)) (.tmp 25) 61 rfl (bytes := 48) Tryz.underlying61 hi0 hz0 hz1 hz2 rfl (show 0 < 3 by omega) single_fc rfl (xs := []) (base := w3.heap.size) (B := 0) (OwnR.nil _ _ _ _ _) rfl (ys := []) (SrcR.none rfl) rfl (Nat.zero_le _) (by simp) (by omega) HU_0.out.size ?_
  intro v_1 u_1 hown hb hg hf
  have HU_1 : Hid (Below w3.heap.size w3 u_1) := Lib.hid (HU_0.out.trans hb)
  have HO_1 := Lib.hid hown
  clear hown hb hg hf
  refine hK.out _ _ (HSL.out HU_1.out) ?_
  clear hK
  (try simp only [Act.put, List.setIfInBounds_toArray, List.set_cons_zero, List.set_cons_succ])
  refine upto_ready (rs := [9]) (by kernel_rfl) rfl (by kernel_rfl) ?_
  refine AllUpto.cons (by simp only [List.getElem?_toArray, List.getElem?_cons_succ, List.getElem?_cons_zero]; rfl) (fun K hK => ?_) AllUpto.nil
  ·
   go_simp
   generalize hW : World.alloc _ _ = u_2
   obtain ⟨hb, hz⟩ := al1 hW
   have HU_2 : Hid (Below w3.heap.size w3 u_2) := Lib.hid (HU_1.out.trans (hb.mono HU_1.out.size))
   have HP_2 : Hid (u_2.heap[u_1.heap.size]? = some (.cells #[.string pS, .slice (some ⟨T, 0, none⟩) 1 c0, .int .u32 1] 60 (0, 0))) := Lib.hid (hW ▸ heap_alloc_new _ _)
   have HO_2 := Lib.hid (HO_1.out.later hb (Nat.zero_le _))
   have HK_2 : Hid (KeepB u_2 _ (u_1.heap.size) _ _) := Lib.hid (KeepB.mk' HP_2.out (HO_1.out.own_lt (Nat.le_refl _)))
   clear hW hb hz
   refine hK.out _ _ (HSL.out HU_2.out) ?_
   clear hK
   (try simp only [Act.put, List.setIfInBounds_toArray, List.set_cons_zero, List.set_cons_succ])
   refine upto_ready (rs := [10]) (by kernel_rfl) rfl (by kernel_rfl) ?_
   refine AllUpto.cons (by simp only [List.getElem?_toArray, List.getElem?_cons_succ, List.getElem?_cons_zero]; rfl) (fun K hK => ?_) AllUpto.nil
   ·
    refine step_append_FB (R := FcR) (e := 60) rfl (.tmp 26) (.tmp 28) 61 rfl (bytes := 48) Tryz.underlying61 hi0 hz0 hz1 hz2 rfl (show 0 < 3 by omega) single_fc rfl (xs := []) (base := w3.heap.size) (B := 0) HO_2.out rfl (ys := [(T, c0)]) (src0 HK_2.out.1 (Flat.one rfl)) rfl (Nat.zero_le _) (by simp) (by omega) HU_2.out.size ?_
    intro v_3 u_3 hown hb hg hf
    have HU_3 : Hid (Below w3.heap.size w3 u_3) := Lib.hid (HU_2.out.trans hb)
    have HO_3 := Lib.hid hown
    clear hown hb hg hf
    refine hK.out _ _ (HSL.out HU_3.out) ?_
    clear hK
    (try simp only [Act.put, List.setIfInBounds_toArray, List.set_cons_zero, List.set_cons_succ])
    refine upto_ready (rs := [17]) (by kernel_rfl) rfl (by kernel_rfl) ?_
    refine AllUpto.cons (by simp only [List.getElem?_toArray, List.getElem?_cons_succ, List.getElem?_cons_zero]; rfl) (fun K hK => ?_) AllUpto.nil
    ·
     refine step_append_FB (R := FcR) (e := 60) rfl (.tmp 29) (.tmp 35) 61 rfl (bytes := 48) Tryz.underlying61 hi0 hz0 hz1 hz2 rfl (show 0 < 3 by omega) single_fc rfl (xs := [(T, c0)]) (base := w3.heap.size) (B := 0) HO_3.out rfl (ys := []) (SrcR.none rfl) rfl (Nat.zero_le _) (by simp) (by omega) HU_3.out.size ?_
     intro v_4 u_4 hown hb hg hf
     have HU_4 : Hid (Below w3.heap.size w3 u_4) := Lib.hid (HU_3.out.trans hb)
     obtain ⟨A2, c2, rfl⟩ := hown.form
     have HO_4 := Lib.hid hown
     clear hown hb hg hf
     refine hK.out _ _ (HSL.out HU_4.out) ?_
     clear hK
     (try simp only [Act.put, List.setIfInBounds_toArray, List.set_cons_zero, List.set_cons_succ])
     refine upto_take (i := 18) (v := ?v15_) (by simp only [List.getElem?_toArray, List.getElem?_cons_succ, List.getElem?_cons_zero]; rfl) (by kernel_rfl) (by kernel_rfl) (by kernel_rfl) (by kernel_rfl) ?hq15_ ?hw15_ ?hy15_ ?rest15_
     case hq15_ => exact fun _ _ _ h => h
     case hw15_ => rfl
     case hy15_ => (intro w' hS'; (try dsimp only at hS'); go_simp; (try with_reducible rfl))
     (try simp only [Act.put, List.setIfInBounds_toArray, List.set_cons_zero, List.set_cons_succ])
     refine upto_take (i := 19) (v := ?v16_) (by simp only [List.getElem?_toArray, List.getElem?_cons_succ, List.getElem?_cons_zero]; rfl) (by kernel_rfl) (by kernel_rfl) (by kernel_rfl) (by kernel_rfl) ?hq16_ ?hw16_ ?hy16_ ?rest16_
     case hq16_ => exact fun _ _ _ h => h
     case hw16_ => rfl
     case hy16_ => (intro w' hS'; (try dsimp only at hS'); go_simp; (try with_reducible rfl))
     (try simp only [Act.put, List.setIfInBounds_toArray, List.set_cons_zero, List.set_cons_succ])
     have k_m := (HM3.out.later HU_4.out).cell
     have f_m := (HM3.out.later HU_4.out).free
     refine upto_last (by kernel_rfl) (by kernel_rfl) (by simp only [List.getElem?_toArray, List.getElem?_cons_succ, List.getElem?_cons_zero]; rfl) (fun K hK => ?_)
     go_simp
     refine hK.out _ _ ?_
     (try simp only [Act.put, List.setIfInBounds_toArray, List.set_cons_zero, List.set_cons_succ])
     go_wp2_with fail
     go_ret
     exact ⟨rfl, (Exc.of (Nat.le_of_lt hml) (HB3.out.trans (HU_4.out.mono hsz3))).set 0 _⟩
 ·
  go_simp
  generalize hW : World.alloc _ _ = u_5
  obtain ⟨hb, hz⟩ := al1 hW
  have HU_5 : Hid (Below w3.heap.size w3 u_5) := Lib.hid (HU_0.out.trans (hb.mono HU_0.out.size))
  have HP_5 : Hid (u_5.heap[u_0.heap.size]? = some (.cells #[.string pS, .slice (some ⟨T, 0, none⟩) 1 c0, .int .u32 1] 60 (0, 0))) := Lib.hid (hW ▸ heap_alloc_new _ _)
  clear hW hb hz
  refine hK.out _ _ (HSL.out HU_5.out) ?_
  clear hK
  (try simp only [Act.put, List.setIfInBounds_toArray, List.set_cons_zero, List.set_cons_succ])
  refine upto_ready (rs := [7]) (by kernel_rfl) rfl (by kernel_rfl) ?_
  refine AllUpto.cons (by simp only [List.getElem?_toArray, List.getElem?_cons_succ, List.getElem?_cons_zero]; rfl) (fun K hK => ?_) AllUpto.nil
  ·
   refine step_append_FB (R := FcR) (e := 60) rfl (.const (.slice none 0 0)) (.tmp 25) 61 rfl (bytes := 48) Tryz.underlying61 hi0 hz0 hz1 hz2 rfl (show 0 < 3 by omega) single_fc rfl (xs := []) (base := w3.heap.size) (B := 0) (OwnR.nil _ _ _ _ _) rfl (ys := []) (SrcR.none rfl) rfl (Nat.zero_le _) (by simp) (by omega) HU_5.out.size ?_
   intro v_6 u_6 hown hb hg hf
   have HU_6 : Hid (Below w3.heap.size w3 u_6) := Lib.hid (HU_5.out.trans hb)
   have HK_6 : Hid (KeepB u_6 v_6 (u_0.heap.size) _ _) := Lib.hid ((KeepB.mk' (v := .slice none 0 0) HP_5.out (fun e => by cases e)).app hg hf)
   have HO_6 := Lib.hid hown
   clear hown hb hg hf
   refine hK.out _ _ (HSL.out HU_6.out) ?_
   clear hK
   (try simp only [Act.put, List.setIfInBounds_toArray, List.set_cons_zero, List.set_cons_succ])
   refine upto_ready (rs := [10]) (by kernel_rfl) rfl (by kernel_rfl) ?_
   refine AllUpto.cons (by simp only [List.getElem?_toArray, List.getElem?_cons_succ, List.getElem?_cons_zero]; rfl) (fun K hK => ?_) AllUpto.nil
   ·
    refine step_append_FB (R := FcR) (e := 60) rfl (.tmp 26) (.tmp 28) 61 rfl (bytes := 48) Tryz.underlying61 hi0 hz0 hz1 hz2 rfl (show 0 < 3 by omega) single_fc rfl (xs := []) (base := w3.heap.size) (B := 0) HO_6.out rfl (ys := [(T, c0)]) (src0 HK_6.out.1 (Flat.one rfl)) rfl (Nat.zero_le _) (by simp) (by omega) HU_6.out.size ?_
    intro v_7 u_7 hown hb hg hf
    have HU_7 : Hid (Below w3.heap.size w3 u_7) := Lib.hid (HU_6.out.trans hb)
    have HO_7 := Lib.hid hown
    clear hown hb hg hf
    refine hK.out _ _ (HSL.out HU_7.out) ?_
    clear hK
    (try simp only [Act.put, List.setIfInBounds_toArray, List.set_cons_zero, List.set_cons_succ])
    refine upto_ready (rs := [17]) (by kernel_rfl) rfl (by kernel_rfl) ?_
    refine AllUpto.cons (by simp only [List.getElem?_toArray, List.getElem?_cons_succ, List.getElem?_cons_zero]; rfl) (fun K hK => ?_) AllUpto.nil
    ·
     refine step_append_FB (R := FcR) (e := 60) rfl (.tmp 29) (.tmp 35) 61 rfl (bytes := 48) Tryz.underlying61 hi0 hz0 hz1 hz2 rfl (show 0 < 3 by omega) single_fc rfl (xs := [(T, c0)]) (base := w3.heap.size) (B := 0) HO_7.out rfl (ys := []) (SrcR.none rfl) rfl (Nat.zero_le _) (by simp) (by omega) HU_7.out.size ?_
     intro v_8 u_8 hown hb hg hf
     have HU_8 : Hid (Below w3.heap.size w3 u_8) := Lib.hid (HU_7.out.trans hb)
     obtain ⟨A2, c2, rfl⟩ := hown.form
     have HO_8 := Lib.hid hown
     clear hown hb hg hf
     refine hK.out _ _ (HSL.out HU_8.out) ?_
     clear hK
     (try simp only [Act.put, List.setIfInBounds_toArray, List.set_cons_zero, List.set_cons_succ])
     refine upto_take (i := 18) (v := ?v17_) (by simp only [List.getElem?_toArray, List.getElem?_cons_succ, List.getElem?_cons_zero]; rfl) (by kernel_rfl) (by kernel_rfl) (by kernel_rfl) (by kernel_rfl) ?hq17_ ?hw17_ ?hy17_ ?rest17_
     case hq17_ => exact fun _ _ _ h => h
     case hw17_ => rfl
     case hy17_ => (intro w' hS'; (try dsimp only at hS'); go_simp; (try with_reducible rfl))
     (try simp only [Act.put, List.setIfInBounds_toArray, List.set_cons_zero, List.set_cons_succ])
     refine upto_take (i := 19) (v := ?v18_) (by simp only [List.getElem?_toArray, List.getElem?_cons_succ, List.getElem?_cons_zero]; rfl) (by kernel_rfl) (by kernel_rfl) (by kernel_rfl) (by kernel_rfl) ?hq18_ ?hw18_ ?hy18_ ?rest18_
     case hq18_ => exact fun _ _ _ h => h
     case hw18_ => rfl
     case hy18_ => (intro w' hS'; (try dsimp only at hS'); go_simp; (try with_reducible rfl))
     (try simp only [Act.put, List.setIfInBounds_toArray, List.set_cons_zero, List.set_cons_succ])
     have k_m := (HM3.out.later HU_8.out).cell
     have f_m := (HM3.out.later HU_8.out).free
     refine upto_last (by kernel_rfl) (by kernel_rfl) (by simp only [List.getElem?_toArray, List.getElem?_cons_succ, List.getElem?_cons_zero]; rfl) (fun K hK => ?_)
     go_simp
     refine hK.out _ _ ?_
     (try simp only [Act.put, List.setIfInBounds_toArray, List.set_cons_zero, List.set_cons_succ])
     go_wp2_with fail
     go_ret
     exact ⟨rfl, (Exc.of (Nat.le_of_lt hml) (HB3.out.trans (HU_8.out.mono hsz3))).set 0 _⟩
set_option maxRecDepth 100000 in
set_option maxHeartbeats 1000000 in
theorem new_any {w : World} : Calls Tryz.prog 36 #[] w fun z w' => z = .returned (.pointer (some ⟨w.heap.size, 0, none⟩)) ∧ Blk w' w.heap.size #[.slice none 0 0] ∧ Below w.heap.size w w' := by
 go_enter Tryz.func36, Tryz.ntmps36
 go_wp2_with fail
 generalize hW : World.alloc _ _ = w1
 obtain ⟨hb1, hz⟩ := al1 hW
 have HS1 := Lib.hid (n11 hW)
 have HB1 := Lib.hid hb1
 clear hW hb1 hz
 go_wp2_with fail
 go_ret
 exact ⟨rfl, HS1.out, HB1.out⟩
set_option maxRecDepth 100000 in
set_option maxHeartbeats 4000000 in
theorem made_any {G T c0 : Nat} {w : World} (h0 : w.cell? ⟨G, 0, none⟩ = some (.string pS)) (h1 : w.cell? ⟨G, 1, none⟩ = some (.slice (some ⟨T, 0, none⟩) 1 c0)) (h2 : w.cell? ⟨G, 2, none⟩ = some (.int .u32 1)) (hG : G < w.heap.size) (ht : T1 w T) :
   Calls Tryz.prog 18 #[.slice (some ⟨G, 0, none⟩) 1 1] w fun z w' => (∃ S M L cL, z = .returned (.tuple #[.pointer (some ⟨S, 0, none⟩), .pointer (some ⟨M, 0, none⟩)]) ∧ Blk w' S #[.slice (some ⟨L, 0, none⟩) 1 cL] ∧ 1 ≤ cL ∧ cL ≤ 9223372036854775807 ∧ w.heap.size ≤ S ∧ S < L ∧ FC w.heap.size w' L) ∧ Below w.heap.size w w' := by
 have HC := Lib.hid (And.intro h0 (And.intro h1 h2))
 have HT := Lib.hid ht
 clear h0 h1 h2 ht
 go_enter Tryz.func18, Tryz.ntmps18
 go_wp2_with fail
 refine new_any.mono ?_
 rintro e w1 ⟨rfl, hs, hb1⟩
 have HS1 := Lib.hid hs
 have HB1 := Lib.hid hb1
 have hsl := hs.lt
 clear hs hb1
 go_upto_region 3 with fail
 generalize hW : World.alloc _ _ = w2
 obtain ⟨hb2, hz2⟩ := al1 hW
 have HM2 := Lib.hid (n11 hW)
 have HS2 := Lib.hid (HS1.out.later hb2)
 have HB2 := Lib.hid (bthen HB1.out hb2)
 have hsz1 := HB1.out.size
 have hsz2 := HB2.out.size
 have hml := HM2.out.lt
 clear hW hb2 hz2
 go_loopw [13] (fun i wr => Hid (Below w.heap.size w wr) ∧ ((i = .int .i64 0 ∧ Hid (Blk wr w.heap.size #[.slice none 0 0]) ∧ Hid (Blk wr w1.heap.size #[.slice none 0 0]) ∧ Hid (w2.heap.size ≤ wr.heap.size)) ∨ (i = .int .i64 1 ∧ ∃ L cL, Hid (Blk wr w.heap.size #[.slice (some ⟨L, 0, none⟩) 1 cL] ∧ 1 ≤ cL ∧ cL ≤ 9223372036854775807 ∧ w.heap.size < L ∧ FC w.heap.size wr L)))) (fun i _ => 1 - (intOf i).toNat)
 case atStart => exact ⟨HB2, .inl ⟨rfl, HS2, HM2, Lib.hid (Nat.le_refl _)⟩⟩
 case round =>
   obtain ⟨HWR, hrel⟩ := hrel
   rcases hrel with ⟨rfl, HS, HM, HZ⟩ | ⟨rfl, L, cL, HE⟩
   · have c0' := (HWR.out.cell (p := ⟨G, 0, none⟩) hG).trans HC.out.1
     have c1' := (HWR.out.cell (p := ⟨G, 1, none⟩) hG).trans HC.out.2.1
     have c2' := (HWR.out.cell (p := ⟨G, 2, none⟩) hG).trans HC.out.2.2
     have HTr := Lib.hid (HT.out.later HWR.out)
     have hTl := HT.out.lt
     go_upto_region 5 with fail
     generalize hW : World.alloc _ _ = w3
     obtain ⟨hb3, hz3⟩ := al1 hW
     have HF3 := Lib.hid (n11 hW)
     have HS3 := Lib.hid (HS.out.later hb3)
     have HM3 := Lib.hid (HM.out.later hb3)
     have HT3 := Lib.hid (HTr.out.later hb3)
     have HB3 := Lib.hid (HWR.out.trans (hb3.mono HWR.out.size))
     have hszr := HZ.out
     have hsz3 := hb3.size
     clear hW hb3 hz3 c0' c1' c2'
     have k_f := HF3.out.cell
     have l_f := HF3.out.lt
     go_wp2_with fail
     refine (add_any (c0 := c0) HS3.out HT3.out).mono ?_
     rintro e w4 ⟨rfl, ⟨L, cL, hs, hc1, hc2, hL, hfc⟩, hex⟩
     have HX := Lib.hid hex
     have HS4 := Lib.hid hs
     have HFC4 := Lib.hid hfc
     have HM4 := Lib.hid (hex.blk (by omega) HM3.out)
     have HF4 := Lib.hid (hex.blk (by omega) HF3.out)
     have HT4 := Lib.hid (HT3.out.exc hex (by omega))
     have hsz4 := hex.1.size
     clear k_f l_f hs hfc hex
     have k_f := HF4.out.cell
     have l_f := HF4.out.lt
     go_wp2_with fail
     refine (radd_any (c0 := c0) HM4.out HT4.out).mono ?_
     rintro e w5 ⟨rfl, hex⟩
     have HS5 := Lib.hid (hex.blk (by omega) HS4.out)
     have HFC5 := Lib.hid (hex.2)
     have HF5 := Lib.hid (HFC4.out.exc hex (by omega))
     have HB5 : Hid (Below w.heap.size w w5) := Lib.hid (HB3.out.trans ((HX.out.1).trans (hex.1.mono (by omega))))
     clear k_f l_f hex
     go_wp2_with fail
     go_roundw
     case rel => exact ⟨HB5, .inr ⟨rfl, L, cL, Lib.hid ⟨HS5.out, hc1, hc2, by omega, by
       obtain ⟨T, c, q1, q2, r⟩ := HF5.out
       exact ⟨T, c, by omega, by omega, r⟩⟩⟩⟩
     case measure => simp [intOf]
   · go_wp2_with fail
     go_ret2
     exact ⟨⟨w.heap.size, w1.heap.size, L, cL, rfl, HE.out.1, HE.out.2.1, HE.out.2.2.1, Nat.le_refl _, HE.out.2.2.2.1, HE.out.2.2.2.2⟩, HWR.out⟩
end Go.Proofs.YtkdonhhbpacgmaaGreat
