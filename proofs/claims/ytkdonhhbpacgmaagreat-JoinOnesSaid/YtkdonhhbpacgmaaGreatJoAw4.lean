/- store.all, (*store.Store).Named at awake's one fact. -/
import Derived.Test.YtkdonhhbpacgmaaGreatJoAw3
set_option linter.unusedVariables false
set_option linter.unusedSimpArgs false
namespace Go.Proofs.YtkdonhhbpacgmaaGreat
open Go.ChangeShapes Go.WideShapes Go.ChangeAt Go.RowKit
theorem make_fc (w : World) : (Instr.makeSlice 61 (.int .i64 1) (.int .i64 1)).run Tryz.prog w = .ok (.slice (some ⟨w.heap.size, 0, none⟩) 1 1) (w.alloc (.cells #[.string ⟨#[]⟩, .slice none 0 0, .int .u32 0] 60)) := by
 obtain ⟨i0, hi0, hz0, hz1, hz2⟩ := info_parts infoFc
 have hr := run_make (P := Tryz.prog) w 61 60 i0 _ Tryz.underlying61 hi0 hz0 .i64 .i64 1 1 (by omega) (Int.le_refl _) (by rw [hz2]; omega) (by omega)
 rw [hz1] at hr
 rw [hr]
 have e : madeCells (Value.agg #[Value.string ⟨#[]⟩, Value.slice none 0 0, Value.int IntKind.u32 0]).cells (Int.toNat 1 * 3) = #[Value.string ⟨#[]⟩, Value.slice none 0 0, Value.int IntKind.u32 0] := by kernel_rfl
 rw [e]
 rfl
set_option maxRecDepth 100000 in
set_option maxHeartbeats 4000000 in
theorem all1_any {base L cL : Nat} {w : World} (hf : FC base w L) : Calls Tryz.prog 115 #[.slice (some ⟨L, 0, none⟩) 1 cL] w fun z w' => (∃ N, z = .returned (.slice (some ⟨N, 0, none⟩) 1 1) ∧ FC w.heap.size w' N) ∧ Below w.heap.size w w' := by
 have HF := Lib.hid hf
 clear hf
 have hmk := make_fc w
 go_enter Tryz.func115, Tryz.ntmps115
 go_upto_region 3 with fail
 generalize hW : World.alloc _ _ = w1
 obtain ⟨hb1, hz⟩ := al1 hW
 have HN1 := Lib.hid (n11 hW)
 have HB1 := Lib.hid hb1
 have hnl := HN1.out.lt
 clear hW hb1 hz
 go_loopw [11] (fun i wr => Hid (Below w.heap.size w wr) ∧ ((i = .int .i64 0 ∧ Hid (Blk wr w.heap.size #[.string ⟨#[]⟩, .slice none 0 0, .int .u32 0])) ∨ (i = .int .i64 1 ∧ Hid (FC w.heap.size wr w.heap.size)))) (fun i _ => 1 - (intOf i).toNat)
 case atStart => exact ⟨HB1, .inl ⟨rfl, HN1⟩⟩
 case round =>
   obtain ⟨HWR, hrel⟩ := hrel
   rcases hrel with ⟨rfl, HN⟩ | ⟨rfl, HE⟩
   · obtain ⟨T, c, q1, q2, c0', c1', c2', ht, hc1, hc2, hl⟩ := HF.out.later HWR.out
     have HT := Lib.hid ht
     clear ht
     go_upto_region 5 with fail
     generalize hW : World.alloc _ _ = w3
     obtain ⟨hb3, hz3⟩ := al1 hW
     have HQ3 := Lib.hid (n11 hW)
     have HN3 := Lib.hid (HN.out.later hb3)
     have HT3 := Lib.hid (HT.out.later hb3)
     have HB3 := Lib.hid (HWR.out.trans (hb3.mono HWR.out.size))
     have hsz3 := HB3.out.size
     have hnl3 := HN3.out.lt
     clear hW hb3 hz3 c0' c1' c2'
     have k_q := HQ3.out.cell
     have l_q := HQ3.out.lt
     go_upto_region 6 with ((
       go_at_call 66
       refine (fcopied (c0 := c) HT3.out).mono ?_
       rintro e w4 ⟨⟨T', c', rfl, ht', hd1, hd2, hT'⟩, hb4⟩
       have HT4 := Lib.hid ht'
       have HN4 := Lib.hid (HN3.out.later hb4)
       have HB4 := Lib.hid (HB3.out.trans (hb4.mono hsz3))
       have hnl4 := HN4.out.lt
       clear k_q l_q ht' hb4
       have k_n := HN4.out.cell
       have l_n := HN4.out.lt
       have f_n := HN4.out.free))
     clear k_n l_n f_n
     go_wp2_with fail
     go_roundw
     case rel =>
       have hw : Below w.heap.size w (((w4.setCell ⟨w.heap.size, 0, none⟩ (.string pS)).setCell ⟨w.heap.size, 1, none⟩ (.slice (some ⟨T', 0, none⟩) 1 c')).setCell ⟨w.heap.size, 2, none⟩ (.int .u32 1)) := ((HB4.out.setCell (p := ⟨w.heap.size, 0, none⟩) (Nat.le_refl _) _).setCell (p := ⟨w.heap.size, 1, none⟩) (Nat.le_refl _) _).setCell (p := ⟨w.heap.size, 2, none⟩) (Nat.le_refl _) _
       have hn : Blk (((w4.setCell ⟨w.heap.size, 0, none⟩ (.string pS)).setCell ⟨w.heap.size, 1, none⟩ (.slice (some ⟨T', 0, none⟩) 1 c')).setCell ⟨w.heap.size, 2, none⟩ (.int .u32 1)) w.heap.size #[.string pS, .slice (some ⟨T', 0, none⟩) 1 c', .int .u32 1] := ((HN4.out.set_ 0 _).set_ 1 _).set_ 2 _
       have hwr := HWR.out.size
       exact ⟨Lib.hid hw, .inr ⟨rfl, Lib.hid ⟨T', c', by omega, Nat.le_refl _, hn.cell 0, hn.cell 1, hn.cell 2, (((HT4.out.set_ (by omega)).set_ (by omega)).set_ (by omega)), hd1, hd2, hn.lt⟩⟩⟩
     case measure => simp [intOf]
   · go_wp2_with fail
     go_ret
     exact ⟨⟨w.heap.size, rfl, HE.out⟩, HWR.out⟩
theorem cmpStr_p (w : World) : Calls Tryz.prog 95 #[.string pS, .string pS] w fun e w' => e = .returned (.int .i64 0) ∧ w = w' := by
 have h := cmpStr_any pS pS w
 have e : cmpS (bs pS) (bs pS) = 0 := by simp [cmpS, List.lt_irrefl]
 rwa [e] at h
theorem cmpInt_1 (w : World) : Calls Tryz.prog 96 #[.int .i64 1, .int .i64 1] w fun e w' => e = .returned (.int .i64 0) ∧ w = w' := cmpInt_any 1 1 w
theorem or2_any (b : Nat) (w : World) (h0 : w.cell? ⟨b, 0, none⟩ = some (.int .i64 0)) (h1 : w.cell? ⟨b, 1, none⟩ = some (.int .i64 0)) :
   Calls Tryz.prog 76 #[.slice (some ⟨b, 0, none⟩) 2 2] w fun e w' => e = .returned (.int .i64 0) ∧ w = w' := by
 go_enter Tryz.func76, Tryz.ntmps76
 go_wp2_with fail
 go_loop [8] (fun i => i = .int .i64 0 ∨ i = .int .i64 1 ∨ i = .int .i64 2) (fun i => 2 - (intOf i).toNat)
 case atStart => exact .inl rfl
 case round =>
   rcases hrel with rfl | rfl | rfl
   · go_wp2_with fail
     go_round
     case rel => exact .inr (.inl rfl)
     case measure => simp [intOf]
   · go_wp2_with fail
     go_round
     case rel => exact .inr (.inr rfl)
     case measure => simp [intOf]
   · go_wp2_with fail
     go_ret
     exact ⟨rfl, rfl⟩
set_option maxRecDepth 100000 in
set_option maxHeartbeats 4000000 in
theorem at1_any {P T c : Nat} {w : World} (hP : Blk w P #[.string pS]) : Calls Tryz.prog 113 #[.agg #[.string pS, .slice (some ⟨T, 0, none⟩) 1 c, .int .u32 1], .int .i64 1, .pointer (some ⟨P, 0, none⟩)] w fun z w' => z = .returned (.int .i64 0) ∧ Below w.heap.size w w' := by
 have HP := Lib.hid hP
 clear hP
 go_enter Tryz.func113, Tryz.ntmps113
 go_upto_region 1 with fail
 generalize hW : World.alloc _ _ = w1
 obtain ⟨hb1, hz⟩ := al1 hW
 have HF1 := Lib.hid (n11 hW)
 have HP1 := Lib.hid (HP.out.later hb1)
 have HB1 := Lib.hid hb1
 clear hW hb1
 have HSL : Hid (∀ {w' : World}, Below w1.heap.size w1 w' → (w'.cell? ⟨P, 0, none⟩ = some (.string pS) ∧ w'.cell? ⟨w.heap.size, 0, none⟩ = some (.string pS) ∧ w'.cell? ⟨w.heap.size, 1, none⟩ = some (.slice (some ⟨T, 0, none⟩) 1 c))) := Lib.hid (fun hb => have h := (HF1.out.later hb).cell; ⟨(HP1.out.later hb).cell 0, h 0, h 1⟩)
 refine wp_region_upto (S := fun w' => w'.cell? ⟨P, 0, none⟩ = some (.string pS) ∧ w'.cell? ⟨w.heap.size, 0, none⟩ = some (.string pS) ∧ w'.cell? ⟨w.heap.size, 1, none⟩ = some (.slice (some ⟨T, 0, none⟩) 1 c)) 13 (by kernel_rfl) (by kernel_rfl) (by kernel_rfl) (by kernel_rfl) (HSL.out (Below.refl _ _).drew) ?_
 refine upto_take (i := 0) (v := ?v1_) (by simp only [List.getElem?_toArray, List.getElem?_cons_succ, List.getElem?_cons_zero]; rfl) (by kernel_rfl) (by kernel_rfl) (by kernel_rfl) (by kernel_rfl) ?hq1_ ?hw1_ ?hy1_ ?rest1_
 case hq1_ => exact fun _ _ _ h => h
 case hw1_ => rfl
 case hy1_ => (intro w' hS'; (try dsimp only at hS'); go_simp; (try with_reducible rfl))
 (try simp only [Act.put, List.setIfInBounds_toArray, List.set_cons_zero, List.set_cons_succ])
 refine upto_take (i := 1) (v := ?v2_) (by simp only [List.getElem?_toArray, List.getElem?_cons_succ, List.getElem?_cons_zero]; rfl) (by kernel_rfl) (by kernel_rfl) (by kernel_rfl) (by kernel_rfl) ?hq2_ ?hw2_ ?hy2_ ?rest2_
 case hq2_ => exact fun _ _ _ h => h
 case hw2_ => rfl
 case hy2_ => (intro w' hS'; (try dsimp only at hS'); go_simp; (try with_reducible rfl))
 (try simp only [Act.put, List.setIfInBounds_toArray, List.set_cons_zero, List.set_cons_succ])
 refine upto_take (i := 2) (v := ?v3_) (by simp only [List.getElem?_toArray, List.getElem?_cons_succ, List.getElem?_cons_zero]; rfl) (by kernel_rfl) (by kernel_rfl) (by kernel_rfl) (by kernel_rfl) ?hq3_ ?hw3_ ?hy3_ ?rest3_
 case hq3_ => exact fun _ _ _ h => h
 case hw3_ => rfl
 case hy3_ => (intro w' hS'; (try dsimp only at hS'); go_simp; (try with_reducible rfl))
 (try simp only [Act.put, List.setIfInBounds_toArray, List.set_cons_zero, List.set_cons_succ])
 refine upto_take (i := 3) (v := ?v4_) (by simp only [List.getElem?_toArray, List.getElem?_cons_succ, List.getElem?_cons_zero]; rfl) (by kernel_rfl) (by kernel_rfl) (by kernel_rfl) (by kernel_rfl) ?hq4_ ?hw4_ ?hy4_ ?rest4_
 case hq4_ => exact fun _ _ _ h => h
 case hw4_ => rfl
 case hy4_ => (intro w' hS'; (try dsimp only at hS'); go_simp; (try with_reducible rfl))
 (try simp only [Act.put, List.setIfInBounds_toArray, List.set_cons_zero, List.set_cons_succ])
 refine upto_take (i := 5) (v := ?v5_) (by simp only [List.getElem?_toArray, List.getElem?_cons_succ, List.getElem?_cons_zero]; rfl) (by kernel_rfl) (by kernel_rfl) (by kernel_rfl) (by kernel_rfl) ?hq5_ ?hw5_ ?hy5_ ?rest5_
 case hq5_ => exact fun _ _ _ h => h
 case hw5_ => rfl
 case hy5_ => (intro w' hS'; (try dsimp only at hS'); go_simp; (try with_reducible rfl))
 (try simp only [Act.put, List.setIfInBounds_toArray, List.set_cons_zero, List.set_cons_succ])
 refine upto_take (i := 6) (v := ?v6_) (by simp only [List.getElem?_toArray, List.getElem?_cons_succ, List.getElem?_cons_zero]; rfl) (by kernel_rfl) (by kernel_rfl) (by kernel_rfl) (by kernel_rfl) ?hq6_ ?hw6_ ?hy6_ ?rest6_
 case hq6_ => exact fun _ _ _ h => h
 case hw6_ => rfl
 case hy6_ => (intro w' hS'; (try dsimp only at hS'); go_simp; (try with_reducible rfl))
 (try simp only [Act.put, List.setIfInBounds_toArray, List.set_cons_zero, List.set_cons_succ])
 refine upto_take (i := 7) (v := ?v7_) (by simp only [List.getElem?_toArray, List.getElem?_cons_succ, List.getElem?_cons_zero]; rfl) (by kernel_rfl) (by kernel_rfl) (by kernel_rfl) (by kernel_rfl) ?hq7_ ?hw7_ ?hy7_ ?rest7_
 case hq7_ => exact fun _ _ _ h => h
 case hw7_ => rfl
 case hy7_ => (intro w' hS'; (try dsimp only at hS'); go_simp; (try with_reducible rfl))
 (try simp only [Act.put, List.setIfInBounds_toArray, List.set_cons_zero, List.set_cons_succ])
 refine upto_take (i := 8) (v := ?v8_) (by simp only [List.getElem?_toArray, List.getElem?_cons_succ, List.getElem?_cons_zero]; rfl) (by kernel_rfl) (by kernel_rfl) (by kernel_rfl) (by kernel_rfl) ?hq8_ ?hw8_ ?hy8_ ?rest8_
 case hq8_ => exact fun _ _ _ h => h
 case hw8_ => rfl
 case hy8_ => (intro w' hS'; (try dsimp only at hS'); go_simp; (try with_reducible rfl))
 (try simp only [Act.put, List.setIfInBounds_toArray, List.set_cons_zero, List.set_cons_succ])
 refine upto_take (i := 9) (v := ?v9_) (by simp only [List.getElem?_toArray, List.getElem?_cons_succ, List.getElem?_cons_zero]; rfl) (by kernel_rfl) (by kernel_rfl) (by kernel_rfl) (by kernel_rfl) ?hq9_ ?hw9_ ?hy9_ ?rest9_
 case hq9_ => exact fun _ _ _ h => h
 case hw9_ => rfl
 case hy9_ => (intro w' hS'; (try dsimp only at hS'); go_simp; (try with_reducible rfl))
 (try simp only [Act.put, List.setIfInBounds_toArray, List.set_cons_zero, List.set_cons_succ])
 generalize hD : World.drew w1 = u_0
 have HU_0 : Hid (Below w1.heap.size w1 u_0) := Lib.hid (hD ▸ (Below.refl _ _).drew)
 clear hD
 refine upto_ready (rs := [4]) (by kernel_rfl) rfl (by kernel_rfl) ?_
 refine AllUpto.cons (by simp only [List.getElem?_toArray, List.getElem?_cons_succ, List.getElem?_cons_zero]; rfl) (fun K hK => ?_) AllUpto.nil
 go_simp
 refine (cmpStr_p u_0).mono ?_
 rintro e u_x ⟨rfl, rfl⟩
 refine hK.out _ _ (HSL.out HU_0.out) ?_
 clear hK
 (try simp only [Act.put, List.setIfInBounds_toArray, List.set_cons_zero, List.set_cons_succ])
 refine upto_ready (rs := [10]) (by kernel_rfl) rfl (by kernel_rfl) ?_
 refine AllUpto.cons (by simp only [List.getElem?_toArray, List.getElem?_cons_succ, List.getElem?_cons_zero]; rfl) (fun K hK => ?_) AllUpto.nil
 go_simp
 refine (cmpInt_1 u_0).mono ?_
 rintro e u_x ⟨rfl, rfl⟩
 refine hK.out _ _ (HSL.out HU_0.out) ?_
 clear hK
 (try simp only [Act.put, List.setIfInBounds_toArray, List.set_cons_zero, List.set_cons_succ])
 refine upto_ready (rs := [11]) (by kernel_rfl) rfl (by kernel_rfl) ?_
 refine AllUpto.cons (by simp only [List.getElem?_toArray, List.getElem?_cons_succ, List.getElem?_cons_zero]; rfl) (fun K hK => ?_) AllUpto.nil
 go_simp
 generalize hW : World.alloc _ _ = w2
 obtain ⟨hb2, hz2⟩ := al1 hW
 have HU2 : Hid (Below w1.heap.size w1 w2) := Lib.hid (HU_0.out.trans (hb2.mono HU_0.out.size))
 have HR2 := Lib.hid (n11 hW)
 clear hW hb2 hz2
 refine hK.out _ _ (HSL.out HU2.out) ?_
 clear hK
 (try simp only [Act.put, List.setIfInBounds_toArray, List.set_cons_zero, List.set_cons_succ])
 refine upto_ready (rs := [12]) (by kernel_rfl) rfl (by kernel_rfl) ?_
 refine AllUpto.cons (by simp only [List.getElem?_toArray, List.getElem?_cons_succ, List.getElem?_cons_zero]; rfl) (fun K hK => ?_) AllUpto.nil
 go_simp
 refine (or2_any _ w2 (HR2.out.cell 0) (HR2.out.cell 1)).mono ?_
 rintro e w3 ⟨rfl, rfl⟩
 refine hK.out _ _ (HSL.out HU2.out) ?_
 clear hK
 (try simp only [Act.put, List.setIfInBounds_toArray, List.set_cons_zero, List.set_cons_succ])
 refine upto_last (by kernel_rfl) (by kernel_rfl) (by simp only [List.getElem?_toArray, List.getElem?_cons_succ, List.getElem?_cons_zero]; rfl) (fun K hK => ?_)
 go_simp
 refine hK.out _ _ ?_
 (try simp only [Act.put, List.setIfInBounds_toArray, List.set_cons_zero, List.set_cons_succ])
 go_wp2_with fail
 go_ret
 exact ⟨rfl, bthen HB1.out HU2.out⟩
set_option maxRecDepth 100000 in
set_option maxHeartbeats 4000000 in
theorem bsf1_any {base L cL P : Nat} {w : World} (hf : FC base w L) (hP : Blk w P #[.string pS]) : Calls Tryz.prog 114 #[.slice (some ⟨L, 0, none⟩) 1 cL, .int .i64 1, .func (.func 113) #[] #[.pointer (some ⟨P, 0, none⟩)]] w fun z w' => (∃ q, z = .returned (.tuple #[.int .i64 0, .bool q])) ∧ Below w.heap.size w w' := by
 have HF := Lib.hid hf
 have HP := Lib.hid hP
 clear hf hP
 go_enter Tryz.func114, Tryz.ntmps114
 go_wp2_with fail
 go_loopw [9, 10] (fun i j wr => i = .int .i64 0 ∧ Hid (Below w.heap.size w wr) ∧ (j = .int .i64 1 ∨ j = .int .i64 0)) (fun _ j _ => (intOf j).toNat)
 case atStart => exact ⟨rfl, Lib.hid (Below.refl _ _), .inl rfl⟩
 case round =>
   obtain ⟨rfl, HWR, hj⟩ := hrel
   have HPr := Lib.hid (HP.out.later HWR.out)
   rcases hj with rfl | rfl
   · obtain ⟨T, c, q1, q2, c0', c1', c2', ht, hc1, hc2, hl⟩ := HF.out.later HWR.out
     clear ht
     go_wp2_with fail
     refine (at1_any HPr.out).mono ?_
     rintro e w2 ⟨rfl, hb⟩
     have HB2 := Lib.hid (bthen HWR.out hb)
     clear hb c0' c1' c2'
     go_wp2_with fail
     go_roundw
     case rel => exact ⟨rfl, HB2, .inr rfl⟩
     case measure => simp [intOf]
   · obtain ⟨T, c, q1, q2, c0', c1', c2', ht, hc1, hc2, hl⟩ := HF.out.later HWR.out
     clear ht
     go_wp2_with fail
     refine (at1_any HPr.out).mono ?_
     rintro e w2 ⟨rfl, hb⟩
     have HB2 := Lib.hid (bthen HWR.out hb)
     clear hb c0' c1' c2'
     go_wp2_with fail
     go_ret2
     exact ⟨⟨_, rfl⟩, HB2.out⟩
set_option maxRecDepth 100000 in
set_option maxHeartbeats 4000000 in
theorem named1_any {base S L cL : Nat} {w : World} (hS : Blk w S #[.slice (some ⟨L, 0, none⟩) 1 cL]) (hc : 1 ≤ cL) (hc2 : cL ≤ 9223372036854775807) (hf : FC base w L) : Calls Tryz.prog 73 #[.pointer (some ⟨S, 0, none⟩), .string pS, .int .i64 1] w fun z w' => (∃ N, z = .returned (.slice (some ⟨N, 0, none⟩) 1 1) ∧ FC w.heap.size w' N) ∧ Below w.heap.size w w' := by
 have HS := Lib.hid hS
 have HF := Lib.hid hf
 clear hS hf
 go_enter Tryz.func73, Tryz.ntmps73
 go_upto_region 1 with fail
 generalize hW : World.alloc _ _ = w1
 obtain ⟨hb1, hz⟩ := al1 hW
 have HP1 := Lib.hid (n11 hW)
 have HS1 := Lib.hid (HS.out.later hb1)
 have HF1 := Lib.hid (HF.out.later hb1)
 have HB1 := Lib.hid hb1
 clear hW hb1 hz
 have k_s := HS1.out.cell
 have l_s := HS1.out.lt
 go_wp2_with fail
 refine (bsf1_any HF1.out HP1.out).mono ?_
 rintro e w2 ⟨⟨q, rfl⟩, hb⟩
 have HP2 := Lib.hid (HP1.out.later hb)
 have HS2 := Lib.hid (HS1.out.later hb)
 have HF2 := Lib.hid (HF1.out.later hb)
 have HB2 := Lib.hid (bthen HB1.out hb)
 clear hb k_s l_s
 go_upto_region 6 with fail
 go_loopw [10] (fun i wr => Hid (Below w2.heap.size w2 wr) ∧ (i = .int .i64 0 ∨ i = .int .i64 1)) (fun i _ => 1 - (intOf i).toNat)
 case atStart => exact ⟨Lib.hid (Below.refl _ _), .inl rfl⟩
 case round =>
   obtain ⟨HWR, hi⟩ := hrel
   have HPr := Lib.hid (HP2.out.later HWR.out)
   have HSr := Lib.hid (HS2.out.later HWR.out)
   have k_s := HSr.out.cell
   have l_s := HSr.out.lt
   rcases hi with rfl | rfl
   · obtain ⟨T, c, q1, q2, c0', c1', c2', ht, hd1, hd2, hl⟩ := HF2.out.later HWR.out
     clear ht
     go_wp2_with fail
     refine (at1_any HPr.out).mono ?_
     rintro e w3 ⟨rfl, hb⟩
     have HB3 := Lib.hid (bthen HWR.out hb)
     clear hb c0' c1' c2' k_s l_s
     go_wp2_with fail
     go_roundw
     case rel => exact ⟨HB3, .inr rfl⟩
     case measure => simp [intOf]
   · go_wp2_with fail
     refine (all1_any (HF2.out.later HWR.out)).mono ?_
     rintro e w3 ⟨⟨N, rfl, hfc⟩, hb⟩
     have HFC := Lib.hid hfc
     have HWRs := HWR.out.size
     have HB2s := HB2.out.size
     have HB3 := Lib.hid (bthen (bthen HB2.out HWR.out) hb)
     clear hfc hb k_s l_s
     go_wp2_with fail
     go_ret
     refine ⟨⟨N, rfl, ?_⟩, HB3.out⟩
     obtain ⟨T, c, q1, q2, r⟩ := HFC.out
     exact ⟨T, c, by omega, by omega, r⟩
end Go.Proofs.YtkdonhhbpacgmaaGreat
