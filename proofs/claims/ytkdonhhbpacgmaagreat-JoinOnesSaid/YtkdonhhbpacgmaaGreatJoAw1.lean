/- The one fact of join's awake; store.copied. -/
import Derived.Test.YtkdonhhbpacgmaaGreatJoFill
set_option linter.unusedVariables false
set_option linter.unusedSimpArgs false
namespace Go.Proofs.YtkdonhhbpacgmaaGreat
open Go.ChangeShapes Go.WideShapes Go.ChangeAt Go.RowKit
def p1 : Tm := ⟨2, 1, ⟨#[]⟩, []⟩
def pS : ByteArray := ⟨#[112]⟩
def T1 (w : World) (T : Nat) : Prop := RL (TmR 2) w w.heap.size [p1] (some ⟨T, 0, none⟩)
theorem T1.later {w w' : World} {T : Nat} (h : T1 w T) (hb : Below w.heap.size w w') : T1 w' T := by
 have := (h.keep hb (Nat.le_refl _))
 exact this.wide hb.size
theorem T1.lt {w : World} {T : Nat} (h : T1 w T) : T < w.heap.size := by
 obtain ⟨b, off, e, hb, _⟩ := h (by simp)
 simp only [Option.some.injEq, Addr.mk.injEq] at e
 omega
theorem own_p1 {w : World} {base B : Nat} {v : Value} (h : OwnR (TmR 2) 44 w base B v [p1]) : ∃ g c A c' cur, v = .slice (some ⟨g, 0, none⟩) 1 c ∧ base ≤ g ∧ g < w.heap.size ∧ 1 ≤ c ∧ c ≤ 9223372036854775807 ∧ Blk w g cur ∧ cur[0]? = some (.int .i64 2) ∧ cur[1]? = some (.int .i64 1) ∧ cur[2]? = some (.string ⟨#[]⟩) ∧ cur[3]? = some (.slice A 0 c') ∧ c' ≤ 9223372036854775807 := by
 obtain ⟨cells, ⟨hl, h⟩, hf⟩ := h
 rcases h with ⟨_, h2⟩ | ⟨g, cap, cur, rfl, hg, hh, k1, k2, k3, k4⟩
 · simp at h2
 · have h0 := hf.2 0 (by simp)
   obtain ⟨A, c', e, _, hcc, _⟩ := RTm.cells (show RTm w B 2 p1 _ from h0)
   have h4 : cells.length = 4 := by simpa [TmR] using hl
   have e : cells = [.int .i64 2, .int .i64 1, .string ⟨#[]⟩, .slice A 0 c'] := by
     have e1 : (cells.drop (0 * (TmR 2).k)).take (TmR 2).k = cells := by
       rw [Nat.zero_mul, List.drop_zero, List.take_of_length_le (by rw [h4]; exact Nat.le_refl 4)]
     rw [e1] at e
     exact e
   have hc : ∀ j u, cells[j]? = some u → cur[j]? = some u := fun j u hj => by
     rw [← k4, List.getElem?_take] at hj
     split at hj
     · simpa using hj
     · cases hj
   have hlt : g < w.heap.size := (Array.getElem?_eq_some_iff.1 hh).1
   rw [e] at hc
   exact ⟨g, cap, A, c', cur, rfl, hg, hlt, k1, k2, ⟨_, hh⟩, hc 0 _ rfl, hc 1 _ rfl, hc 2 _ rfl, hc 3 _ rfl, hcc.2⟩
theorem T1.of {w : World} {g c' : Nat} {A : Option Addr} (hlt : g < w.heap.size) (hc : c' ≤ 9223372036854775807) (h0 : w.cell? ⟨g, 0, none⟩ = some (.int .i64 2)) (h1 : w.cell? ⟨g, 1, none⟩ = some (.int .i64 1)) (h2 : w.cell? ⟨g, 2, none⟩ = some (.string ⟨#[]⟩)) (h3 : w.cell? ⟨g, 3, none⟩ = some (.slice A 0 c')) : T1 w g := by
 intro _
 refine ⟨g, 0, rfl, hlt, fun i hi => ?_⟩
 obtain rfl : i = 0 := by simp at hi; exact hi
 refine ⟨[.int .i64 2, .int .i64 1, .string ⟨#[]⟩, .slice A 0 c'], rfl, ⟨p1, rfl, ⟨A, c', rfl, by simp [p1], ⟨by simp [p1], hc⟩, by decide, by simp [p1, I64], by simp [p1, I64], fun h => absurd h (by simp [p1])⟩⟩, fun j u hj => ?_⟩
 match j, hj with
 | 0, hj => simp only [List.getElem?_cons_zero, Option.some.injEq] at hj; subst hj; simpa using h0
 | 1, hj => simp only [List.getElem?_cons_succ, List.getElem?_cons_zero, Option.some.injEq] at hj; subst hj; simpa using h1
 | 2, hj => simp only [List.getElem?_cons_succ, List.getElem?_cons_zero, Option.some.injEq] at hj; subst hj; simpa using h2
 | 3, hj => simp only [List.getElem?_cons_succ, List.getElem?_cons_zero, Option.some.injEq] at hj; subst hj; simpa using h3
 | j + 4, hj => simp at hj
theorem T1.cells {w : World} {T : Nat} (h : T1 w T) : ∃ A c, c ≤ 9223372036854775807 ∧ w.cell? ⟨T, 0, none⟩ = some (.int .i64 2) ∧ w.cell? ⟨T, 1, none⟩ = some (.int .i64 1) ∧ w.cell? ⟨T, 2, none⟩ = some (.string ⟨#[]⟩) ∧ w.cell? ⟨T, 3, none⟩ = some (.slice A 0 c) := by
 obtain ⟨b, off, e, hb, hc⟩ := h (by simp)
 simp only [Option.some.injEq, Addr.mk.injEq, and_true] at e
 obtain ⟨rfl, rfl⟩ := e
 obtain ⟨vs, hl, ⟨x, hx, hr⟩, hcell⟩ := hc 0 (by simp)
 obtain rfl : x = p1 := by simpa using hx.symm
 obtain ⟨A, c, rfl, _, hcc, _⟩ := RTm.cells (show RTm w w.heap.size 2 p1 vs from hr)
 exact ⟨A, c, hcc.2, by simpa [p1] using hcell 0 _ rfl, by simpa [p1] using hcell 1 _ rfl, by simpa [p1] using hcell 2 _ rfl, by simpa [p1] using hcell 3 _ rfl⟩
theorem T1.set_ {w : World} {T S i : Nat} {u : Value} (h : T1 w T) (hne : T ≠ S) : T1 (w.setCell ⟨S, i, none⟩ u) T := by
 have hlt := h.lt
 obtain ⟨A, c, hc, h0, h1, h2, h3⟩ := h.cells
 exact T1.of (by rw [World.size_setCell]; exact hlt) hc ((World.cell?_setCell_far w ⟨S, i, none⟩ ⟨T, 0, none⟩ u (Ne.symm hne)).trans h0) ((World.cell?_setCell_far w ⟨S, i, none⟩ ⟨T, 1, none⟩ u (Ne.symm hne)).trans h1) ((World.cell?_setCell_far w ⟨S, i, none⟩ ⟨T, 2, none⟩ u (Ne.symm hne)).trans h2) ((World.cell?_setCell_far w ⟨S, i, none⟩ ⟨T, 3, none⟩ u (Ne.symm hne)).trans h3)
theorem ret_fc {fn : Func} {tmps : Array Value} {p : Tmp} {g : Nat} {w : World} {cs : Array Value} (h : fn.results = #[.cell p 60]) (hp : tmps.getD p undef = .pointer (some ⟨g, 0, none⟩)) (hb : Blk w g cs) (hn : cs.size = 3) :
   (results fn tmps).run Tryz.prog w = .ok (.agg cs) w := by
 obtain ⟨T, hb⟩ := hb
 exact results_cell_row h tmps w g T cs (0, 0) _ hp hb Tryz.underlying60 rfl (by rw [hn]; kernel_rfl)
set_option maxRecDepth 100000 in
set_option maxHeartbeats 4000000 in
theorem fcopied {T c0 : Nat} {w : World} (ht : T1 w T) :
   Calls Tryz.prog 66 #[.agg #[.string pS, .slice (some ⟨T, 0, none⟩) 1 c0, .int .u32 1]] w fun z w' => (∃ T' c', z = .returned (.agg #[.string pS, .slice (some ⟨T', 0, none⟩) 1 c', .int .u32 1]) ∧ T1 w' T' ∧ 1 ≤ c' ∧ c' ≤ 9223372036854775807 ∧ w.heap.size ≤ T') ∧ Below w.heap.size w w' := by
 have HT := Lib.hid ht
 clear ht
 go_enter Tryz.func66, Tryz.ntmps66
 go_upto_region 1 with fail
 generalize hW : World.alloc _ _ = w1
 obtain ⟨hb, hz⟩ := al2 hW
 have HBA1 := Lib.hid (n21 hW)
 have HBR1 := Lib.hid (n22 hW)
 have HB1 := Lib.hid hb
 have hsz1 := hb.size
 clear hW hb
 have k_a := HBA1.out.cell
 have l_a := HBA1.out.lt
 have HCL := Lib.hid (cloneTm_any (d := 2) (c := c0) (xs := [p1]) (HT.out.later HB1.out) (Nat.le_refl _) (by simp))
 go_upto_region 2 with ((
   go_at_call 57
   refine HCL.out.mono ?_
   rintro e w2 ⟨⟨v, rfl, hown⟩, hb⟩
   obtain ⟨g, c, A, c', cur, rfl, hg1, hg2, hc1, hc2, hbg, d0, d1, d2, d3, dc⟩ := own_p1 hown
   have HDC := Lib.hid dc
   have HG2 := Lib.hid hbg
   have HD := Lib.hid (And.intro d0 (And.intro d1 (And.intro d2 d3)))
   have HB2 := Lib.hid hb
   have HBA2 := Lib.hid (HBA1.out.later hb)
   have HBR2 := Lib.hid (HBR1.out.later hb)
   have hsz2 := hb.size
   clear k_a l_a hown hb hbg d0 d1 d2 d3 dc
   have k_a := HBA2.out.cell
   have l_a := HBA2.out.lt
   have f_a := HBA2.out.free))
 have HBA3 : Hid (Blk (w2.setCell ⟨w.heap.size, 1, none⟩ (.slice (some ⟨g, 0, none⟩) 1 c)) w.heap.size #[.string pS, .slice (some ⟨g, 0, none⟩) 1 c, .int .u32 1]) := Lib.hid (HBA2.out.set_ 1 _)
 have HBR3 := Lib.hid (HBR2.out.far (c := w.heap.size) (by omega) 1 (.slice (some ⟨g, 0, none⟩) 1 c))
 have HG3 := Lib.hid (HG2.out.far (c := w.heap.size) (by omega) 1 (.slice (some ⟨g, 0, none⟩) 1 c))
 have HB3 : Hid (Below w.heap.size w (w2.setCell ⟨w.heap.size, 1, none⟩ (.slice (some ⟨g, 0, none⟩) 1 c))) := Lib.hid ((HB1.out.trans (HB2.out.mono hsz1)).setCell (Nat.le_refl _) _)
 clear k_a l_a f_a
 generalize w2.setCell ⟨w.heap.size, 1, none⟩ (.slice (some ⟨g, 0, none⟩) 1 c) = w3 at *
 have hg3 : w.heap.size + 1 < g := by omega
 clear hg1 hg2
 have k_a := HBA3.out.cell
 have l_a := HBA3.out.lt
 go_upto_region 3 with fail
 clear k_a l_a
 go_loopw [14] (fun i wr => ∃ (cu : Array Value) (A' : Option Addr) (c2 : Nat), (i = .int .i64 0 ∨ i = .int .i64 1) ∧ Hid (Below w.heap.size w wr) ∧ Hid (Blk wr w.heap.size #[.string pS, .slice (some ⟨g, 0, none⟩) 1 c, .int .u32 1]) ∧ Hid (Blk wr (w.heap.size + 1) #[.string ⟨#[]⟩, .slice none 0 0, .int .u32 0]) ∧ Hid (Blk wr g cu) ∧ Hid (c2 ≤ 9223372036854775807) ∧ Hid (cu[0]? = some (.int .i64 2) ∧ cu[1]? = some (.int .i64 1) ∧ cu[2]? = some (.string ⟨#[]⟩) ∧ cu[3]? = some (.slice A' 0 c2))) (fun i _ => 1 - (intOf i).toNat)
 case atStart => exact ⟨cur, A, c', .inl rfl, HB3, HBA3, HBR3, HG3, HDC, HD⟩
 case round =>
   obtain ⟨cu, A', c2, hi, HWR, HBA, HBR, HG, HC2, HDD⟩ := hrel
   have hszr := HWR.out.size
   rcases hi with rfl | rfl
   · have hI0 : (0 : Int) < (1 : Int) := by decide
     have HKA := Lib.hid HBA.out.cell
     have HGL := Lib.hid HG.out.lt
     have hgl := HGL.out
     have HGC : Hid (∀ j, wr.cell? ⟨g, j, none⟩ = cu[j]?) := Lib.hid (fun j => HG.out.cell j)
     have HCL2 := Lib.hid (cloneTm_any (d := 2) (B := 0) (c := c2) (xs := []) (A := A') (w := wr.drew) (fun h => absurd h (by simp)) (Nat.zero_le _) (by simp))
     go_upto_region 5 with fail
     refine wp_region_upto (S := fun w' => w'.cell? ⟨w.heap.size, 1, none⟩ = some (.slice (some ⟨g, 0, none⟩) 1 c) ∧ w'.cell? ⟨g, 3, none⟩ = some (.slice A' 0 c2)) 14 (by kernel_rfl) (by kernel_rfl) (by kernel_rfl) (by kernel_rfl) (⟨HBA.out.drew.cell 1, (HGC.out 3).trans HDD.out.2.2.2⟩) ?_
     refine upto_take (i := 0) (v := ?v1_) rfl (by kernel_rfl) (by kernel_rfl) (by kernel_rfl) (by kernel_rfl) ?hq1_ ?hw1_ ?hy1_ ?rest1_
     case hq1_ => exact fun _ _ _ h => h
     case hw1_ => rfl
     case hy1_ => (intro w' hS'; (try dsimp only at hS'); go_simp; (try with_reducible rfl))
     refine upto_take (i := 1) (v := ?v2_) rfl (by kernel_rfl) (by kernel_rfl) (by kernel_rfl) (by kernel_rfl) ?hq2_ ?hw2_ ?hy2_ ?rest2_
     case hq2_ => exact fun _ _ _ h => h
     case hw2_ => rfl
     case hy2_ => (intro w' hS'; (try dsimp only at hS'); go_simp; (try with_reducible rfl))
     refine upto_take (i := 2) (v := ?v3_) rfl (by kernel_rfl) (by kernel_rfl) (by kernel_rfl) (by kernel_rfl) ?hq3_ ?hw3_ ?hy3_ ?rest3_
     case hq3_ => exact fun _ _ _ h => h
     case hw3_ => rfl
     case hy3_ => (intro w' hS'; (try dsimp only at hS'); go_simp; (try with_reducible rfl))
     refine upto_take (i := 3) (v := ?v4_) rfl (by kernel_rfl) (by kernel_rfl) (by kernel_rfl) (by kernel_rfl) ?hq4_ ?hw4_ ?hy4_ ?rest4_
     case hq4_ => exact fun _ _ _ h => h
     case hw4_ => rfl
     case hy4_ => (intro w' hS'; (try dsimp only at hS'); go_simp; (try with_reducible rfl))
     refine upto_take (i := 4) (v := ?v5_) rfl (by kernel_rfl) (by kernel_rfl) (by kernel_rfl) (by kernel_rfl) ?hq5_ ?hw5_ ?hy5_ ?rest5_
     case hq5_ => exact fun _ _ _ h => h
     case hw5_ => rfl
     case hy5_ => (intro w' hS'; (try dsimp only at hS'); go_simp; (try with_reducible rfl))
     refine upto_take (i := 5) (v := ?v6_) rfl (by kernel_rfl) (by kernel_rfl) (by kernel_rfl) (by kernel_rfl) ?hq6_ ?hw6_ ?hy6_ ?rest6_
     case hq6_ => exact fun _ _ _ h => h
     case hw6_ => rfl
     case hy6_ => (intro w' hS'; (try dsimp only at hS'); go_simp; (try with_reducible rfl))
     refine upto_take (i := 6) (v := ?v7_) rfl (by kernel_rfl) (by kernel_rfl) (by kernel_rfl) (by kernel_rfl) ?hq7_ ?hw7_ ?hy7_ ?rest7_
     case hq7_ => exact fun _ _ _ h => h
     case hw7_ => rfl
     case hy7_ => (intro w' hS'; (try dsimp only at hS'); go_simp; (try with_reducible rfl))
     refine upto_take (i := 7) (v := ?v8_) rfl (by kernel_rfl) (by kernel_rfl) (by kernel_rfl) (by kernel_rfl) ?hq8_ ?hw8_ ?hy8_ ?rest8_
     case hq8_ => exact fun _ _ _ h => h
     case hw8_ => rfl
     case hy8_ => (intro w' hS'; (try dsimp only at hS'); go_simp; (try with_reducible rfl))
     refine upto_take (i := 8) (v := ?v9_) rfl (by kernel_rfl) (by kernel_rfl) (by kernel_rfl) (by kernel_rfl) ?hq9_ ?hw9_ ?hy9_ ?rest9_
     case hq9_ => exact fun _ _ _ h => h
     case hw9_ => rfl
     case hy9_ => (intro w' hS'; (try dsimp only at hS'); go_simp; (try with_reducible rfl))
     refine upto_take (i := 9) (v := ?v10_) rfl (by kernel_rfl) (by kernel_rfl) (by kernel_rfl) (by kernel_rfl) ?hq10_ ?hw10_ ?hy10_ ?rest10_
     case hq10_ => exact fun _ _ _ h => h
     case hw10_ => rfl
     case hy10_ => (intro w' hS'; (try dsimp only at hS'); go_simp; (try with_reducible rfl))
     refine upto_take (i := 10) (v := ?v11_) rfl (by kernel_rfl) (by kernel_rfl) (by kernel_rfl) (by kernel_rfl) ?hq11_ ?hw11_ ?hy11_ ?rest11_
     case hq11_ => exact fun _ _ _ h => h
     case hw11_ => rfl
     case hy11_ => (intro w' hS'; (try dsimp only at hS'); go_simp; (try with_reducible rfl))
     refine upto_ready (rs := [11]) (by kernel_rfl) rfl (by kernel_rfl) ?_
     refine AllUpto.cons rfl (fun K hK => ?_) AllUpto.nil
     go_simp
     refine HCL2.out.mono ?_
     rintro e w4 ⟨⟨v, rfl, hown⟩, hb4⟩
     obtain ⟨A5, c5, hv⟩ : ∃ A c, v = .slice A 0 c := hown.form
     subst hv
     have HC5 : Hid (c5 ≤ 9223372036854775807) := Lib.hid (by
       obtain ⟨A9, c9, e9, _, h9, _⟩ := hown.reads (Nat.zero_le _) (by simp)
       simp only [Value.slice.injEq] at e9
       rw [e9.2.2]; exact h9.2)
     have HB4 : Hid (Below wr.heap.size wr w4) := Lib.hid ((Below.refl wr.heap.size wr).drew.trans hb4)
     have HBA4 := Lib.hid (HBA.out.later HB4.out)
     have HBR4 := Lib.hid (HBR.out.later HB4.out)
     have HG4 := Lib.hid (HG.out.later HB4.out)
     have f_g := HG4.out.free
     have hgc3 : w4.cell? ⟨g, 3, none⟩ = some (.slice A' 0 c2) := (HG4.out.cell 3).trans HDD.out.2.2.2
     clear hown hb4
     refine hK.out _ _ (⟨HBA4.out.cell 1, hgc3⟩) ?_
     clear hK
     refine upto_take (i := 12) (v := ?v12_) rfl (by kernel_rfl) (by kernel_rfl) (by kernel_rfl) (by kernel_rfl) ?hq12_ ?hw12_ ?hy12_ ?rest12_
     case hq12_ => exact fun _ _ _ h => h
     case hw12_ => rfl
     case hy12_ => (intro w' hS'; (try dsimp only at hS'); go_simp; (try with_reducible rfl))
     refine upto_take (i := 13) (v := ?v13_) rfl (by kernel_rfl) (by kernel_rfl) (by kernel_rfl) (by kernel_rfl) ?hq13_ ?hw13_ ?hy13_ ?rest13_
     case hq13_ => exact fun _ _ _ h => h
     case hw13_ => rfl
     case hy13_ => (intro w' hS'; (try dsimp only at hS'); go_simp; (try with_reducible rfl))
     refine upto_last (by kernel_rfl) (by kernel_rfl) rfl (fun K hK => ?_)
     go_simp
     refine hK.out _ _ ?_
     go_wp2_with fail
     go_roundw
     case rel => exact ⟨cu.setIfInBounds 3 (.slice A5 0 c5), A5, c5, .inr rfl, Lib.hid ((HWR.out.trans (HB4.out.mono hszr)).setCell (p := ⟨g, 3, none⟩) (by show w.heap.size ≤ g; omega) _), Lib.hid (HBA4.out.far (by omega) 3 _), Lib.hid (HBR4.out.far (by omega) 3 _), Lib.hid (HG4.out.set_ 3 _), HC5, Lib.hid (by
       have h3 : 3 < cu.size := by
         have := HDD.out.2.2.2
         rcases Nat.lt_or_ge 3 cu.size with h | h
         · exact h
         · rw [Array.getElem?_eq_none h] at this; cases this
       obtain ⟨q0, q1, q2, q3⟩ := HDD.out
       refine ⟨?_, ?_, ?_, ?_⟩
       · rw [Array.getElem?_setIfInBounds_ne (by decide)]; exact q0
       · rw [Array.getElem?_setIfInBounds_ne (by decide)]; exact q1
       · rw [Array.getElem?_setIfInBounds_ne (by decide)]; exact q2
       · simp [h3])⟩
     case measure => simp [intOf]
   · have k_a := HBA.out.cell
     have l_a := HBA.out.lt
     have k_r := HBR.out.cell
     have f_r := HBR.out.free
     have l_r := HBR.out.lt
     go_wp2_with fail
     have hbr : Blk (((wr.setCell ⟨w.heap.size + 1, 0, none⟩ (.string pS)).setCell ⟨w.heap.size + 1, 1, none⟩ (.slice (some ⟨g, 0, none⟩) 1 c)).setCell ⟨w.heap.size + 1, 2, none⟩ (.int .u32 1)) (w.heap.size + 1) #[.string pS, .slice (some ⟨g, 0, none⟩) 1 c, .int .u32 1] := ((HBR.out.set_ 0 _).set_ 1 _).set_ 2 _
     refine bodyPost_ret (ret_fc rfl rfl hbr rfl) rfl ?_
     have hgg := (((HG.out.far (c := w.heap.size + 1) (by omega) 0 (.string pS)).far (c := w.heap.size + 1) (by omega) 1 (.slice (some ⟨g, 0, none⟩) 1 c)).far (c := w.heap.size + 1) (by omega) 2 (.int .u32 1))
     exact ⟨⟨g, c, rfl, T1.of hgg.lt HC2.out ((hgg.cell 0).trans HDD.out.1) ((hgg.cell 1).trans HDD.out.2.1) ((hgg.cell 2).trans HDD.out.2.2.1) ((hgg.cell 3).trans HDD.out.2.2.2), hc1, hc2, by omega⟩, ((HWR.out.setCell (p := ⟨w.heap.size + 1, 0, none⟩) (by show w.heap.size ≤ w.heap.size + 1; omega) _).setCell (p := ⟨w.heap.size + 1, 1, none⟩) (by show w.heap.size ≤ w.heap.size + 1; omega) _).setCell (p := ⟨w.heap.size + 1, 2, none⟩) (by show w.heap.size ≤ w.heap.size + 1; omega) _⟩
end Go.Proofs.YtkdonhhbpacgmaaGreat
