/- (*store.Store).Add at awake's one fact. -/
import Derived.Test.YtkdonhhbpacgmaaGreatJoAw1
set_option linter.unusedVariables false
set_option linter.unusedSimpArgs false
namespace Go.Proofs.YtkdonhhbpacgmaaGreat
open Go.ChangeShapes Go.WideShapes Go.ChangeAt Go.RowKit
def FcR : Reader (Nat × Nat) where
 k := 3
 rd := fun _ _ x vs => vs = [.string pS, .slice (some ⟨x.1, 0, none⟩) 1 x.2, .int .u32 1]
 keep := fun _ _ h => h
 wide := fun _ h => h
 len := fun h => by subst h; rfl
theorem single_fc : Single FcR := fun {w B x vs} h u hu => by
 obtain rfl : vs = [.string pS, .slice (some ⟨x.1, 0, none⟩) 1 x.2, .int .u32 1] := h
 simp only [List.mem_cons, List.not_mem_nil, or_false] at hu
 rcases hu with rfl | rfl | rfl <;> rfl
theorem infoFc : (Tryz.prog.info? 60).map (fun i => (i.zero, i.size, i.bytes)) = some (some (.agg #[.string ⟨#[]⟩, .slice none 0 0, .int .u32 0]), 3, 48) := by kernel_rfl
def FC (base : Nat) (w : World) (L : Nat) : Prop := ∃ T c, base ≤ T ∧ base ≤ L ∧ w.cell? ⟨L, 0, none⟩ = some (.string pS) ∧ w.cell? ⟨L, 1, none⟩ = some (.slice (some ⟨T, 0, none⟩) 1 c) ∧ w.cell? ⟨L, 2, none⟩ = some (.int .u32 1) ∧ T1 w T ∧ 1 ≤ c ∧ c ≤ 9223372036854775807 ∧ L < w.heap.size
theorem FC.later {base : Nat} {w w' : World} {L : Nat} (h : FC base w L) (hb : Below w.heap.size w w') : FC base w' L := by
 obtain ⟨T, c, q1, q2, h0, h1, h2, ht, hc1, hc2, hl⟩ := h
 exact ⟨T, c, q1, q2, (hb.cell (p := ⟨L, 0, none⟩) hl).trans h0, (hb.cell (p := ⟨L, 1, none⟩) hl).trans h1, (hb.cell (p := ⟨L, 2, none⟩) hl).trans h2, ht.later hb, hc1, hc2, Nat.lt_of_lt_of_le hl hb.size⟩
theorem cell_exc {g : Nat} {a b : World} (h : Exc g a b) {x o : Nat} (hx : x < a.heap.size) (hne : x ≠ g) : b.cell? ⟨x, o, none⟩ = a.cell? ⟨x, o, none⟩ := World.cell?_of_block (a := ⟨x, o, none⟩) (h.2 x hx hne)
theorem T1.exc {g T : Nat} {a b : World} (h : T1 a T) (e : Exc g a b) (hne : T ≠ g) : T1 b T := by
 have hlt := h.lt
 obtain ⟨A, c, hc, h0, h1, h2, h3⟩ := h.cells
 exact T1.of (Nat.lt_of_lt_of_le hlt e.1.size) hc ((cell_exc e hlt hne).trans h0) ((cell_exc e hlt hne).trans h1) ((cell_exc e hlt hne).trans h2) ((cell_exc e hlt hne).trans h3)
theorem FC.exc {base g L : Nat} {a b : World} (h : FC base a L) (e : Exc g a b) (hg : g < base) : FC base b L := by
 obtain ⟨T, c, q1, q2, h0, h1, h2, ht, hc1, hc2, hl⟩ := h
 exact ⟨T, c, q1, q2, (cell_exc e hl (by omega)).trans h0, (cell_exc e hl (by omega)).trans h1, (cell_exc e hl (by omega)).trans h2, ht.exc e (by omega), hc1, hc2, Nat.lt_of_lt_of_le hl e.1.size⟩
set_option maxRecDepth 100000 in
set_option maxHeartbeats 2000000 in
theorem addLit_any {B : Nat} {w : World} (hB : B ≤ w.heap.size) : Tells Tryz.prog (TmR 2) aggOf B w 62 #[] (fun x => !fixedB x) := by
 intro x vs w1 hb hr
 have HR : Hid (RTm w1 B 2 x vs) := Lib.hid hr
 obtain ⟨A, c, rfl, _⟩ := RTm.cells (show RTm w1 B 2 x vs from hr)
 have hB1 := Nat.le_trans hB hb.size
 clear hr hb
 show Calls Tryz.prog 62 #[.agg #[_, _, _, _]] w1 _
 go_enter Tryz.func62, Tryz.ntmps62
 go_wp2_with fail
 generalize hW : World.alloc _ _ = w2
 obtain ⟨hb, hz⟩ := al1 hW
 have HB2 := Lib.hid hb
 clear hW hb hz
 refine (fixed_any (d := 2) (vs := [_, _, _, _]) (RTm.below HB2.out hB1 HR.out) (Nat.le_trans hB1 HB2.out.size)).mono ?_
 rintro e w3 ⟨rfl, hb⟩
 have HB3 := Lib.hid (bthen HB2.out hb)
 clear hb
 go_wp2_with fail
 go_ret
 exact ⟨rfl, HB3.out⟩
set_option maxRecDepth 100000 in
set_option maxHeartbeats 2000000 in
theorem bsf0_any {a b c F : Value} {w : World} : Calls Tryz.prog 63 #[.slice none 0 0, .agg #[a, b, c], F] w fun z w' => z = .returned (.tuple #[.int .i64 0, .bool false]) ∧ Below w.heap.size w w' := by
 go_enter Tryz.func63, Tryz.ntmps63
 go_wp2_with fail
 go_loopw [9, 10] (fun i j wr => i = .int .i64 0 ∧ j = .int .i64 0 ∧ Below w.heap.size w wr) (fun _ _ _ => 0)
 case atStart => exact ⟨rfl, rfl, below_new rfl⟩
 case round =>
   obtain ⟨rfl, rfl, hbw⟩ := hrel
   go_wp2_with fail
   refine wp_region_quiet_below (by kernel_rfl) (by kernel_rfl) ?_
   repeat (go_big_quiet_step (fail))
   refine wpQuiet_nil ?_
   intro w3 hw_
   have hb : Below wr.heap.size wr w3 := by obtain ⟨p_, rfl⟩ := hw_; exact below_regrown _ _ _
   clear hw_
   go_wp2_with fail
   go_ret2
   exact ⟨rfl, bthen hbw hb⟩
set_option maxRecDepth 100000 in
set_option maxHeartbeats 2000000 in
theorem insF0_any {G T c : Nat} {w : World} (hG : BlkT w G #[.string pS, .slice (some ⟨T, 0, none⟩) 1 c, .int .u32 1] 60) :
   Calls Tryz.prog 65 #[.slice none 0 0, .int .i64 0, .slice (some ⟨G, 0, none⟩) 1 1] w fun z w' => (∃ A' c', z = .returned (.slice A' 1 c') ∧ OwnR FcR 60 w' w.heap.size 0 (.slice A' 1 c') [(T, c)]) ∧ Below w.heap.size w w' := by
 obtain ⟨i0, hi0, hz0, hz1, hz2⟩ := info_parts infoFc
 have HSRC : Hid (SrcR FcR w 0 (some ⟨G, 0, none⟩) [(T, c)]) := Lib.hid (src0 hG (Flat.one rfl))
 clear hG
 go_enter Tryz.func65, Tryz.ntmps65
 go_wp2_with ((
   at_builtin
   refine wpList_append_F (R := FcR) (e := 60) (base := w.heap.size) (xs := []) (ys := [(T, c)]) rfl (.tmp 23) (.tmp 24) 61 rfl (bytes := 48) Tryz.underlying61 hi0 hz0 hz1 hz2 rfl (show 0 < 3 by omega) single_fc rfl (OwnR.nil _ _ _ _ _) rfl HSRC.out rfl (by simp) (by omega) (Nat.le_refl _) ?_
   intro v wn hown hg hf
   obtain ⟨A2, c2, hv⟩ : ∃ A2 c2, v = .slice A2 1 c2 := by have := hown.form; rwa [List.nil_append] at this
   subst hv
   have HOUT : Hid (_ ∧ _) := Lib.hid (And.intro hown ((Below.refl w.heap.size w).grown hg (Nat.le_refl _) (fun k hk => by cases hk)))
   clear hown hg hf))
 go_ret
 exact ⟨⟨A2, c2, rfl, HOUT.out.1⟩, HOUT.out.2⟩
theorem own_f1 {w : World} {base T c c' : Nat} {A : Option Addr} (h : OwnR FcR 60 w base 0 (.slice A 1 c') [(T, c)]) : ∃ g, A = some ⟨g, 0, none⟩ ∧ base ≤ g ∧ g < w.heap.size ∧ 1 ≤ c' ∧ c' ≤ 9223372036854775807 ∧ w.cell? ⟨g, 0, none⟩ = some (.string pS) ∧ w.cell? ⟨g, 1, none⟩ = some (.slice (some ⟨T, 0, none⟩) 1 c) ∧ w.cell? ⟨g, 2, none⟩ = some (.int .u32 1) := by
 obtain ⟨cells, ⟨hl, h⟩, hf⟩ := h
 rcases h with ⟨_, h2⟩ | ⟨g, cap, cur, hv, hg, hh, k1, k2, k3, k4⟩
 · simp at h2
 · simp only [Value.slice.injEq] at hv
   obtain ⟨rfl, _, rfl⟩ := hv
   have h0 : (cells.drop (0 * FcR.k)).take FcR.k = _ := hf.2 0 (by simp)
   have h3 : cells.length = 3 := by simpa [FcR] using hl
   rw [Nat.zero_mul, List.drop_zero, List.take_of_length_le (by rw [h3]; exact Nat.le_refl 3)] at h0
   have hc : ∀ j u, cells[j]? = some u → w.cell? ⟨g, j, none⟩ = some u := fun j u hj => by
     refine (cell_of_row w g j cur _ (0, 0) hh).trans ?_
     rw [← k4, List.getElem?_take] at hj
     split at hj
     · simpa using hj
     · cases hj
   rw [h0] at hc
   exact ⟨g, rfl, hg, (Array.getElem?_eq_some_iff.1 hh).1, k1, k2, hc 0 _ rfl, hc 1 _ rfl, hc 2 _ rfl⟩
set_option maxRecDepth 100000 in
set_option maxHeartbeats 4000000 in
theorem add_any {S T c0 : Nat} {w : World} (hS : Blk w S #[.slice none 0 0]) (ht : T1 w T) :
   Calls Tryz.prog 37 #[.pointer (some ⟨S, 0, none⟩), .agg #[.string pS, .slice (some ⟨T, 0, none⟩) 1 c0, .int .u32 1]] w fun z w' => z = .returned (.bool true) ∧ (∃ L cL, Blk w' S #[.slice (some ⟨L, 0, none⟩) 1 cL] ∧ 1 ≤ cL ∧ cL ≤ 9223372036854775807 ∧ w.heap.size ≤ L ∧ FC w.heap.size w' L) ∧ Exc S w w' := by
 have HS := Lib.hid hS
 have HT := Lib.hid ht
 clear hS ht
 go_enter Tryz.func37, Tryz.ntmps37
 go_upto_region 1 with fail
 generalize hW : World.alloc _ _ = w1
 obtain ⟨hb, hz⟩ := al1 hW
 have HBA1 := Lib.hid (n11 hW)
 have HS1 := Lib.hid (HS.out.later hb)
 have HB1 := Lib.hid hb
 have hsl := HS.out.lt
 clear hW hb
 have k_a := HBA1.out.cell
 have l_a := HBA1.out.lt
 have hnm : nameB (bs pS) = true := by decide
 have HC := Lib.hid (containsFuncTerm_any 2 62 #[] (fun x => !fixedB x) [p1] (some ⟨T, 0, none⟩) c0 w1.heap.size w1 (ent Tryz.func62 (by kernel_rfl) rfl) (HT.out.later HB1.out) (Nat.le_refl _) (by simp) (addLit_any (Nat.le_refl _)))
 have hany : ([p1].any fun x => !fixedB x) = false := by decide
 rw [hany] at HC
 clear hany
 go_upto_region 3 with (first
   | (go_at_call 46
      refine (name_any pS w1 (by decide)).mono ?_
      rintro e w2 ⟨rfl, rfl⟩)
   | (go_at_call 61
      refine HC.out.mono ?_
      rintro e w2 ⟨rfl, hb⟩
      have HB2 := Lib.hid hb
      have HBA2 := Lib.hid (HBA1.out.later hb)
      have HS2 := Lib.hid (HS1.out.later hb)
      have hsz2 := hb.size
      clear k_a l_a hb
      have k_a := HBA2.out.cell
      have l_a := HBA2.out.lt))
 have HCL := Lib.hid (Nat.lt_of_lt_of_le hsl (Nat.le_refl w.heap.size))
 have q_s := HS2.out.regrown
 have q_a := HBA2.out.regrown
 refine wp_region_quiet_below (by kernel_rfl) (by kernel_rfl) ?_
 repeat (go_big_quiet_step ((go_at_call 63; exact Calls.regrown_of bsf0_any)))
 refine wpQuiet_nil ?_
 intro w3 hw_
 have hb : Below w2.heap.size w2 w3 := by obtain ⟨p_, rfl⟩ := hw_; exact below_regrown _ _ _
 clear hw_ q_s q_a k_a l_a
 have HBA3 := Lib.hid (HBA2.out.later hb)
 have HS3 := Lib.hid (HS2.out.later hb)
 have HB3 : Hid (Below w.heap.size w w3) := Lib.hid (bthen (bthen HB1.out HB2.out) hb)
 have hsz3 := HB3.out.size
 clear hb
 have HT3 := Lib.hid (HT.out.later HB3.out)
 go_upto_region 6 with fail
 have HSL : Hid (∀ {w' : World}, Below w3.heap.size w3 w' → (w'.cell? ⟨S, 0, none⟩ = some (.slice none 0 0) ∧ w'.cell? ⟨w.heap.size, 0, none⟩ = some (.string pS) ∧ w'.cell? ⟨w.heap.size, 1, none⟩ = some (.slice (some ⟨T, 0, none⟩) 1 c0) ∧ w'.cell? ⟨w.heap.size, 2, none⟩ = some (.int .u32 1))) := Lib.hid (fun hb => have h := (HBA3.out.later hb).cell; ⟨(HS3.out.later hb).cell 0, h 0, h 1, h 2⟩)
 refine wp_region_upto (S := fun w' => w'.cell? ⟨S, 0, none⟩ = some (.slice none 0 0) ∧ w'.cell? ⟨w.heap.size, 0, none⟩ = some (.string pS) ∧ w'.cell? ⟨w.heap.size, 1, none⟩ = some (.slice (some ⟨T, 0, none⟩) 1 c0) ∧ w'.cell? ⟨w.heap.size, 2, none⟩ = some (.int .u32 1)) 12 (by kernel_rfl) (by kernel_rfl) (by kernel_rfl) (by kernel_rfl) (HSL.out (Below.refl _ _).drew) ?_
 refine upto_take (i := 0) (v := ?v1_) rfl (by kernel_rfl) (by kernel_rfl) (by kernel_rfl) (by kernel_rfl) ?hq1_ ?hw1_ ?hy1_ ?rest1_
 case hq1_ => exact fun _ _ _ h => h
 case hw1_ => rfl
 case hy1_ => (intro w' hS'; (try dsimp only at hS'); go_simp; (try with_reducible rfl))
 refine upto_take (i := 1) (v := ?v2_) rfl (by kernel_rfl) (by kernel_rfl) (by kernel_rfl) (by kernel_rfl) ?hq2_ ?hw2_ ?hy2_ ?rest2_
 case hq2_ => exact fun _ _ _ h => h
 case hw2_ => rfl
 case hy2_ => (intro w' hS'; (try dsimp only at hS'); go_simp; (try with_reducible rfl))
 refine upto_take (i := 2) (v := ?v3_) rfl (by kernel_rfl) (by kernel_rfl) (by kernel_rfl) (by kernel_rfl) ?hq3_ ?hw3_ ?hy3_ ?rest3_
 case hq3_ => exact fun _ _ _ h => h
 case hw3_ => rfl
 case hy3_ => (intro w' hS'; (try dsimp only at hS'); go_simp; (try with_reducible rfl))
 refine upto_take (i := 3) (v := ?v4_) rfl (by kernel_rfl) (by kernel_rfl) (by kernel_rfl) (by kernel_rfl) ?hq4_ ?hw4_ ?hy4_ ?rest4_
 case hq4_ => exact fun _ _ _ h => h
 case hw4_ => rfl
 case hy4_ => (intro w' hS'; (try dsimp only at hS'); go_simp; (try with_reducible rfl))
 refine upto_take (i := 4) (v := ?v5_) rfl (by kernel_rfl) (by kernel_rfl) (by kernel_rfl) (by kernel_rfl) ?hq5_ ?hw5_ ?hy5_ ?rest5_
 case hq5_ => exact fun _ _ _ h => h
 case hw5_ => rfl
 case hy5_ => (intro w' hS'; (try dsimp only at hS'); go_simp; (try with_reducible rfl))
 refine upto_take (i := 5) (v := ?v6_) rfl (by kernel_rfl) (by kernel_rfl) (by kernel_rfl) (by kernel_rfl) ?hq6_ ?hw6_ ?hy6_ ?rest6_
 case hq6_ => exact fun _ _ _ h => h
 case hw6_ => rfl
 case hy6_ => (intro w' hS'; (try dsimp only at hS'); go_simp; (try with_reducible rfl))
 refine upto_take (i := 6) (v := ?v7_) rfl (by kernel_rfl) (by kernel_rfl) (by kernel_rfl) (by kernel_rfl) ?hq7_ ?hw7_ ?hy7_ ?rest7_
 case hq7_ => exact fun _ _ _ h => h
 case hw7_ => rfl
 case hy7_ => (intro w' hS'; (try dsimp only at hS'); go_simp; (try with_reducible rfl))
 refine upto_ready (rs := [7]) (by kernel_rfl) rfl (by kernel_rfl) ?_
 refine AllUpto.cons rfl (fun K hK => ?_) AllUpto.nil
 go_simp
 refine (fcopied (c0 := c0) (HT3.out.later (Below.refl w3.heap.size w3).drew)).mono ?_
 rintro e w4 ⟨⟨T', c', rfl, ht', hc1, hc2, hT'⟩, hb4⟩
 have hTw : w.heap.size ≤ T' := Nat.le_trans hsz3 hT'
 have HT4 := Lib.hid ht'
 have HB4 : Hid (Below w3.heap.size w3 w4) := Lib.hid ((Below.refl w3.heap.size w3).drew.trans hb4)
 have hsz4 := HB4.out.size
 clear ht' hb4
 refine hK.out _ _ (HSL.out HB4.out) ?_
 clear hK
 refine upto_ready (rs := [8]) (by kernel_rfl) rfl (by kernel_rfl) ?_
 refine AllUpto.cons rfl (fun K hK => ?_) AllUpto.nil
 go_simp
 refine hK.out _ _ (HSL.out (HB4.out.alloc hsz4 _)) ?_
 clear hK
 refine upto_ready (rs := [9]) (by kernel_rfl) rfl (by kernel_rfl) ?_
 refine AllUpto.cons rfl (fun K hK => ?_) AllUpto.nil
 go_simp
 refine (insF0_any (T := T') (c := c') (heap_alloc_new w4 _)).mono ?_
 rintro e w5 ⟨⟨A5, c5, rfl, hown⟩, hb5⟩
 obtain ⟨L, rfl, hl1, hl2, hl3, hl4, d0, d1, d2⟩ := own_f1 hown
 have HB5 : Hid (Below w3.heap.size w3 w5) := Lib.hid ((HB4.out.alloc hsz4 _).trans (hb5.mono (by rw [World.size_alloc]; omega)))
 have HFC := Lib.hid ((HT4.out.later ((Below.refl w4.heap.size w4).alloc (Nat.le_refl _) (.cells #[.string pS, .slice (some ⟨T', 0, none⟩) 1 c', .int .u32 1] 60))).later hb5)
 have HDS := Lib.hid (And.intro d0 (And.intro d1 d2))
 have HS5 := Lib.hid (HS3.out.later HB5.out)
 have f_s := HS5.out.free
 have k_s := HS5.out.cell
 rw [World.size_alloc] at hl1
 have hsz5 := HB5.out.size
 clear hown hb5 d0 d1 d2
 refine hK.out _ _ (HSL.out HB5.out) ?_
 clear hK
 refine upto_take (i := 10) (v := ?v8_) rfl (by kernel_rfl) (by kernel_rfl) (by kernel_rfl) (by kernel_rfl) ?hq8_ ?hw8_ ?hy8_ ?rest8_
 case hq8_ => exact fun _ _ _ h => h
 case hw8_ => rfl
 case hy8_ => (intro w' hS'; (try dsimp only at hS'); go_simp; (try with_reducible rfl))
 refine upto_take (i := 11) (v := ?v9_) rfl (by kernel_rfl) (by kernel_rfl) (by kernel_rfl) (by kernel_rfl) ?hq9_ ?hw9_ ?hy9_ ?rest9_
 case hq9_ => exact fun _ _ _ h => h
 case hw9_ => rfl
 case hy9_ => (intro w' hS'; (try dsimp only at hS'); go_simp; (try with_reducible rfl))
 refine upto_last (by kernel_rfl) (by kernel_rfl) rfl (fun K hK => ?_)
 go_simp
 refine hK.out _ _ ?_
 go_wp2_with fail
 go_ret
 have HE : Exc S w (w5.setCell ⟨S, 0, none⟩ (.slice (some ⟨L, 0, none⟩) 1 c5)) := (Exc.of (Nat.le_of_lt hsl) (HB3.out.trans (HB5.out.mono hsz3))).set 0 _
 refine ⟨rfl, ⟨L, c5, HS5.out.set_ 0 _, hl3, hl4, by omega, ?_⟩, HE⟩
 exact ⟨T', c', hTw, by omega, (World.cell?_setCell_far w5 ⟨S, 0, none⟩ ⟨L, 0, none⟩ _ (by show S ≠ L; omega)).trans HDS.out.1, (World.cell?_setCell_far w5 ⟨S, 0, none⟩ ⟨L, 1, none⟩ _ (by show S ≠ L; omega)).trans HDS.out.2.1, (World.cell?_setCell_far w5 ⟨S, 0, none⟩ ⟨L, 2, none⟩ _ (by show S ≠ L; omega)).trans HDS.out.2.2, HFC.out.set_ (by omega), hc1, hc2, by rw [World.size_setCell]; exact hl2⟩
end Go.Proofs.YtkdonhhbpacgmaaGreat
