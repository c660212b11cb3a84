/- (*join.walk).goes at awake's one fact. -/
import Derived.Test.YtkdonhhbpacgmaaGreatHeldA
set_option linter.unusedVariables false
set_option linter.unusedSimpArgs false
namespace Go.Proofs.YtkdonhhbpacgmaaGreat
open Go.ChangeShapes Go.WideShapes Go.ChangeAt Go.RowKit
def pv : Tm := ⟨1, 0, ⟨#[120]⟩, []⟩
def pP : Pr := ⟨pS, [pv]⟩
def fP : Pr := ⟨pS, [p1]⟩
def bX : Bd := ⟨[[120]], [p1]⟩
theorem fit_x : fitPR pP fP noBd = some bX := by kernel_rfl
set_option maxRecDepth 100000 in
set_option maxHeartbeats 4000000 in
theorem goes1_any {W D cD S : Nat} {held : Int} {x : An1} {w : World} (hW : Blk w W (wkV D cD S held (.slice none 0 0))) : Calls Tryz.prog 41 #[.pointer (some ⟨W, 0, none⟩), .int .i64 1, .agg #[.slice x.an 1 x.cn, .slice x.at_ 1 x.ct, .int .u32 1]] w fun z w' => z = .returned (.tuple #[]) ∧ Exc W w w' ∧ ∃ A c, Blk w' W (wkV D cD S held (.slice A 1 c)) ∧ OwnR AnR 68 w' w.heap.size 0 (.slice A 1 c) [x] := by
 have HW := Lib.hid hW
 have hwl := hW.lt
 clear hW
 go_enter Tryz.func41, Tryz.ntmps41
 go_upto_region 1 with fail
 generalize hWW : World.alloc _ _ = w1
 obtain ⟨hb1, hz⟩ := al1 hWW
 have HA1 := Lib.hid (n11 hWW)
 have HW1 := Lib.hid (HW.out.later hb1)
 have HB1 := Lib.hid hb1
 have hsz1 := hb1.size
 clear hWW hb1 hz
 have HWc := Lib.hid (show Blk w1 W #[.string ⟨#[]⟩, .slice none 0 0, .slice (some ⟨D, 0, none⟩) 1 cD, .slice none 0 0, .slice none 0 0, .pointer (some ⟨S, 0, none⟩), .int .u32 1, .int .i64 held, .slice none 0 0, .int .i64 0] from HW1.out)
 have k_w := HWc.out.cell
 have l_w := HWc.out.lt
 have k_a := HA1.out.cell
 have l_a := HA1.out.lt
 go_wp2_with fail
 refine (ends1_any (x := x) HW1.out).mono ?_
 rintro e w2 ⟨rfl, hex, A, c, hb, ho⟩
 have HE := Lib.hid (And.intro hex (And.intro hb ho))
 clear hex hb ho k_w l_w k_a l_a
 go_wp2_with fail
 refine bodyPost_ret (results_none rfl _ _ _) rfl ?_
 exact ⟨rfl, (Exc.of (Nat.le_of_lt hwl) HB1.out).trans HE.out.1, A, c, HE.out.2.1, HE.out.2.2.lower hsz1⟩
theorem fits1_any {W V cV T c : Nat} {w : World} (hV : RL (TmR 2) w W [pv] (some ⟨V, 0, none⟩)) (hcV : 1 ≤ cV ∧ cV ≤ 9223372036854775807) (hW : W ≤ w.heap.size) (hT : T1 w T) (hc : 1 ≤ c ∧ c ≤ 9223372036854775807) :
   Calls Tryz.prog 24 #[.agg #[.string pS, .slice (some ⟨V, 0, none⟩) 1 cV], .agg #[.string pS, .slice (some ⟨T, 0, none⟩) 1 c], .agg #[.slice none 0 0, .slice none 0 0]] w fun z w' => (∃ An cn h ct, z = .returned (.tuple #[.agg #[.slice An 1 cn, .slice (some ⟨h, 0, none⟩) 1 ct], .bool true]) ∧ w.heap.size ≤ h ∧ T1 w' h) ∧ Below w.heap.size w w' := by
 refine (fits_any (d := 1) (B := w.heap.size) (p := pP) (f := fP) (b := noBd) (vp := [.string pS, .slice (some ⟨V, 0, none⟩) 1 cV]) (vf := [.string pS, .slice (some ⟨T, 0, none⟩) 1 c]) (An := none) (At := none) (cn := 0) (ct := 0) ⟨_, rfl, by decide, _, cV, rfl, hcV.1, ⟨by simp [pP, TmR], hcV.2⟩, hV.wide hW⟩ ⟨_, rfl, by decide, _, c, rfl, hc.1, ⟨by simp [fP, TmR], hc.2⟩, hT⟩ (fun h => absurd h (by simp [noBd])) (fun h => absurd h (by simp [noBd])) (by kernel_rfl) (by kernel_rfl) (by kernel_rfl) (Nat.le_refl _)).mono ?_
 intro z w' h
 unfold BindE at h
 rw [fit_x] at h
 obtain ⟨⟨An, cn, At, ct, xs, rfl, hq⟩, hb⟩ := h
 obtain ⟨_, hr⟩ := hq.reads (by decide) (by decide)
 have hx1 : xs.length = 1 := by have := congrArg List.length hq.tms; simpa [bX] using this
 obtain ⟨y, rfl⟩ := List.length_eq_one_iff.1 hx1
 obtain ⟨h, rfl, _, h2, _⟩ := StkQ.top (xs := []) hq.st
 exact ⟨⟨An, cn, h, ct, rfl, h2, hr⟩, hb⟩
set_option maxRecDepth 100000 in
set_option maxHeartbeats 8000000 in
theorem goes0_any {W D cD S L cL V cV base : Nat} {w : World} (hW : Blk w W (wkV D cD S 0 (.slice none 0 0))) (hD0 : w.cell? ⟨D, 0, none⟩ = some (.string pS)) (hD1 : w.cell? ⟨D, 1, none⟩ = some (.slice (some ⟨V, 0, none⟩) 1 cV)) (hDW : D < W) (hV : RL (TmR 2) w W [pv] (some ⟨V, 0, none⟩)) (hcV : 1 ≤ cV ∧ cV ≤ 9223372036854775807) (hS : Blk w S #[.slice (some ⟨L, 0, none⟩) 1 cL]) (hc : 1 ≤ cL) (hc2 : cL ≤ 9223372036854775807) (hf : FC base w L) :
   Calls Tryz.prog 41 #[.pointer (some ⟨W, 0, none⟩), .int .i64 0, .agg #[.slice none 0 0, .slice none 0 0, .int .u32 0]] w fun z w' => z = .returned (.tuple #[]) ∧ Exc W w w' ∧ ∃ (g c : Nat) (x : An1) (h : Nat), Blk w' W (wkV D cD S 1 (.slice (some ⟨g, 0, none⟩) 1 c)) ∧ W < g ∧ g < w'.heap.size ∧ 1 ≤ c ∧ c ≤ 9223372036854775807 ∧ (w'.cell? ⟨g, 0, none⟩ = some (.slice x.an 1 x.cn) ∧ w'.cell? ⟨g, 1, none⟩ = some (.slice x.at_ 1 x.ct) ∧ w'.cell? ⟨g, 2, none⟩ = some (.int .u32 1)) ∧ x.at_ = some ⟨h, 0, none⟩ ∧ W < h ∧ T1 w' h := by
 have HW := Lib.hid hW
 have hwl := hW.lt
 have HD := Lib.hid (And.intro hD0 hD1)
 have HV := Lib.hid hV
 have HS := Lib.hid hS
 have HF := Lib.hid hf
 clear hW hD0 hD1 hV hS hf
 go_enter Tryz.func41, Tryz.ntmps41
 go_upto_region 1 with fail
 generalize hWW : World.alloc _ _ = w1
 obtain ⟨hb1, hz⟩ := al1 hWW
 have HA1 := Lib.hid (n11 hWW)
 have HW1 := Lib.hid (show Blk w1 W #[.string ⟨#[]⟩, .slice none 0 0, .slice (some ⟨D, 0, none⟩) 1 cD, .slice none 0 0, .slice none 0 0, .pointer (some ⟨S, 0, none⟩), .int .u32 1, .int .i64 0, .slice none 0 0, .int .i64 0] from HW.out.later hb1)
 have HS1 := Lib.hid (HS.out.later hb1)
 have HF1 := Lib.hid (HF.out.later hb1)
 have HB1 := Lib.hid hb1
 have hsz1 := hb1.size
 have d0 := (hb1.cell (p := ⟨D, 0, none⟩) (by show D < w.heap.size; omega)).trans HD.out.1
 have d1 := (hb1.cell (p := ⟨D, 1, none⟩) (by show D < w.heap.size; omega)).trans HD.out.2
 clear hWW hb1 hz
 have k_w := HW1.out.cell
 have l_w := HW1.out.lt
 go_upto_region 4 with fail
 generalize hWW : World.alloc _ _ = w2
 obtain ⟨hb2, hz⟩ := al1 hWW
 have HP2 := Lib.hid (n11 hWW)
 have HA2 := Lib.hid (HA1.out.later hb2)
 have HW2 := Lib.hid (HW1.out.later hb2)
 have HS2 := Lib.hid (HS1.out.later hb2)
 have HF2 := Lib.hid (HF1.out.later hb2)
 have HB2 := Lib.hid (bthen HB1.out hb2)
 have hsz2 := hb2.size
 clear hWW hb2 hz k_w l_w d0 d1
 have HSL : Hid (∀ {w' : World}, Below w2.heap.size w2 w' → (w'.cell? ⟨W, 5, none⟩ = some (.pointer (some ⟨S, 0, none⟩)) ∧ w'.cell? ⟨w1.heap.size, 0, none⟩ = some (.string pS) ∧ w'.cell? ⟨w1.heap.size, 1, none⟩ = some (.slice (some ⟨V, 0, none⟩) 1 cV))) := Lib.hid (fun hb => have h := (HP2.out.later hb).cell; ⟨(HW2.out.later hb).cell 5, h 0, h 1⟩)
 refine wp_region_uptoA (fun w' => w'.cell? ⟨W, 5, none⟩ = some (.pointer (some ⟨S, 0, none⟩)) ∧ w'.cell? ⟨w1.heap.size, 0, none⟩ = some (.string pS) ∧ w'.cell? ⟨w1.heap.size, 1, none⟩ = some (.slice (some ⟨V, 0, none⟩) 1 cV)) (by kernel_rfl) (HSL.out (Below.refl _ _).drew) ?_
 refine uptoA_take (i := 0) (v := ?v1_) (by simp only [List.getElem?_toArray, List.getElem?_cons_succ, List.getElem?_cons_zero]; rfl) (by kernel_rfl) (by kernel_rfl) (by kernel_rfl) ?hq1_ ?hw1_ ?hy1_ ?rest1_
 case hq1_ => exact fun _ _ _ h => h
 case hw1_ => rfl
 case hy1_ => (intro w' hS'; (try dsimp only at hS'); go_simp; (try with_reducible rfl))
 (try simp only [Act.put, List.setIfInBounds_toArray, List.set_cons_zero, List.set_cons_succ])
 refine uptoA_take (i := 1) (v := ?v2_) (by simp only [List.getElem?_toArray, List.getElem?_cons_succ, List.getElem?_cons_zero]; rfl) (by kernel_rfl) (by kernel_rfl) (by kernel_rfl) ?hq2_ ?hw2_ ?hy2_ ?rest2_
 case hq2_ => exact fun _ _ _ h => h
 case hw2_ => rfl
 case hy2_ => (intro w' hS'; (try dsimp only at hS'); go_simp; (try with_reducible rfl))
 (try simp only [Act.put, List.setIfInBounds_toArray, List.set_cons_zero, List.set_cons_succ])
 refine uptoA_take (i := 2) (v := ?v3_) (by simp only [List.getElem?_toArray, List.getElem?_cons_succ, List.getElem?_cons_zero]; rfl) (by kernel_rfl) (by kernel_rfl) (by kernel_rfl) ?hq3_ ?hw3_ ?hy3_ ?rest3_
 case hq3_ => exact fun _ _ _ h => h
 case hw3_ => rfl
 case hy3_ => (intro w' hS'; (try dsimp only at hS'); go_simp; (try with_reducible rfl))
 (try simp only [Act.put, List.setIfInBounds_toArray, List.set_cons_zero, List.set_cons_succ])
 refine uptoA_take (i := 3) (v := ?v4_) (by simp only [List.getElem?_toArray, List.getElem?_cons_succ, List.getElem?_cons_zero]; rfl) (by kernel_rfl) (by kernel_rfl) (by kernel_rfl) ?hq4_ ?hw4_ ?hy4_ ?rest4_
 case hq4_ => exact fun _ _ _ h => h
 case hw4_ => rfl
 case hy4_ => (intro w' hS'; (try dsimp only at hS'); go_simp; (try with_reducible rfl))
 (try simp only [Act.put, List.setIfInBounds_toArray, List.set_cons_zero, List.set_cons_succ])
 refine uptoA_take (i := 4) (v := ?v5_) (by simp only [List.getElem?_toArray, List.getElem?_cons_succ, List.getElem?_cons_zero]; rfl) (by kernel_rfl) (by kernel_rfl) (by kernel_rfl) ?hq5_ ?hw5_ ?hy5_ ?rest5_
 case hq5_ => exact fun _ _ _ h => h
 case hw5_ => rfl
 case hy5_ => (intro w' hS'; (try dsimp only at hS'); go_simp; (try with_reducible rfl))
 (try simp only [Act.put, List.setIfInBounds_toArray, List.set_cons_zero, List.set_cons_succ])
 refine uptoA_take (i := 5) (v := ?v6_) (by simp only [List.getElem?_toArray, List.getElem?_cons_succ, List.getElem?_cons_zero]; rfl) (by kernel_rfl) (by kernel_rfl) (by kernel_rfl) ?hq6_ ?hw6_ ?hy6_ ?rest6_
 case hq6_ => exact fun _ _ _ h => h
 case hw6_ => rfl
 case hy6_ => (intro w' hS'; (try dsimp only at hS'); go_simp; (try with_reducible rfl))
 (try simp only [Act.put, List.setIfInBounds_toArray, List.set_cons_zero, List.set_cons_succ])
 refine uptoA_take (i := 6) (v := ?v7_) (by simp only [List.getElem?_toArray, List.getElem?_cons_succ, List.getElem?_cons_zero]; rfl) (by kernel_rfl) (by kernel_rfl) (by kernel_rfl) ?hq7_ ?hw7_ ?hy7_ ?rest7_
 case hq7_ => exact fun _ _ _ h => h
 case hw7_ => rfl
 case hy7_ => (intro w' hS'; (try dsimp only at hS'); go_simp; (try with_reducible rfl))
 (try simp only [Act.put, List.setIfInBounds_toArray, List.set_cons_zero, List.set_cons_succ])
 refine uptoA_take (i := 7) (v := ?v8_) (by simp only [List.getElem?_toArray, List.getElem?_cons_succ, List.getElem?_cons_zero]; rfl) (by kernel_rfl) (by kernel_rfl) (by kernel_rfl) ?hq8_ ?hw8_ ?hy8_ ?rest8_
 case hq8_ => exact fun _ _ _ h => h
 case hw8_ => rfl
 case hy8_ => (intro w' hS'; (try dsimp only at hS'); go_simp; (try with_reducible rfl))
 (try simp only [Act.put, List.setIfInBounds_toArray, List.set_cons_zero, List.set_cons_succ])
 refine uptoA_take (i := 8) (v := ?v9_) (by simp only [List.getElem?_toArray, List.getElem?_cons_succ, List.getElem?_cons_zero]; rfl) (by kernel_rfl) (by kernel_rfl) (by kernel_rfl) ?hq9_ ?hw9_ ?hy9_ ?rest9_
 case hq9_ => exact fun _ _ _ h => h
 case hw9_ => rfl
 case hy9_ => (intro w' hS'; (try dsimp only at hS'); go_simp; (try with_reducible rfl))
 (try simp only [Act.put, List.setIfInBounds_toArray, List.set_cons_zero, List.set_cons_succ])
 refine uptoA_take (i := 11) (v := ?v10_) (by simp only [List.getElem?_toArray, List.getElem?_cons_succ, List.getElem?_cons_zero]; rfl) (by kernel_rfl) (by kernel_rfl) (by kernel_rfl) ?hq10_ ?hw10_ ?hy10_ ?rest10_
 case hq10_ => exact fun _ _ _ h => h
 case hw10_ => rfl
 case hy10_ => (intro w' hS'; (try dsimp only at hS'); go_simp; (try with_reducible rfl))
 (try simp only [Act.put, List.setIfInBounds_toArray, List.set_cons_zero, List.set_cons_succ])
 generalize hD : World.drew w2 = u_0
 have HU_0 : Hid (Below w2.heap.size w2 u_0) := Lib.hid (hD ▸ (Below.refl _ _).drew)
 have hs_0 := HU_0.out.size
 clear hD
 refine uptoA_ready (rs := [9]) (by kernel_rfl) rfl ?_
 refine AllUptoA.cons (by simp only [List.getElem?_toArray, List.getElem?_cons_succ, List.getElem?_cons_zero]; rfl) (fun K hK => ?_) AllUptoA.nil
 go_simp
 refine (named1_any (HS2.out.later HU_0.out) hc hc2 (HF2.out.later HU_0.out)).mono ?_
 rintro e w3 ⟨⟨N, rfl, hfc⟩, hb3⟩
 have HN3 : Hid (FC w2.heap.size w3 N) := Lib.hid (by
   obtain ⟨T, c, q1, q2, r⟩ := hfc
   exact ⟨T, c, by omega, by omega, r⟩)
 have HU_1 : Hid (Below w2.heap.size w2 w3) := Lib.hid (HU_0.out.trans (hb3.mono hs_0))
 clear hfc hb3
 refine hK.out _ _ (HSL.out HU_1.out) ?_
 clear hK
 (try simp only [Act.put, List.setIfInBounds_toArray, List.set_cons_zero, List.set_cons_succ])
 refine uptoA_take (i := 10) (v := ?v11_) (by simp only [List.getElem?_toArray, List.getElem?_cons_succ, List.getElem?_cons_zero]; rfl) (by kernel_rfl) (by kernel_rfl) (by kernel_rfl) ?hq11_ ?hw11_ ?hy11_ ?rest11_
 case hq11_ => exact fun _ _ _ h => h
 case hw11_ => rfl
 case hy11_ => (intro w' hS'; (try dsimp only at hS'); go_simp; (try with_reducible rfl))
 (try simp only [Act.put, List.setIfInBounds_toArray, List.set_cons_zero, List.set_cons_succ])
 refine uptoA_done (by kernel_rfl) ?_
 go_wp2_with fail
 go_loopw [44] (fun i wr => (i = .int .i64 0 ∧ Hid (w3 = wr)) ∨ (i = .int .i64 1 ∧ Hid (Exc W w wr ∧ ∃ (g c : Nat) (x : An1) (h : Nat), Blk wr W (wkV D cD S 1 (.slice (some ⟨g, 0, none⟩) 1 c)) ∧ W < g ∧ g < wr.heap.size ∧ 1 ≤ c ∧ c ≤ 9223372036854775807 ∧ (wr.cell? ⟨g, 0, none⟩ = some (.slice x.an 1 x.cn) ∧ wr.cell? ⟨g, 1, none⟩ = some (.slice x.at_ 1 x.ct) ∧ wr.cell? ⟨g, 2, none⟩ = some (.int .u32 1)) ∧ x.at_ = some ⟨h, 0, none⟩ ∧ W < h ∧ T1 wr h))) (fun i _ => 1 - (intOf i).toNat)
 case atStart => exact .inl ⟨rfl, Lib.hid rfl⟩
 case round =>
   rcases hrel with ⟨rfl, HR⟩ | ⟨rfl, HR⟩
   · obtain rfl := HR.out
     clear HR
     obtain ⟨T, c, hT, hL, n0, n1, n2, ht, hc1, hc2, hnl⟩ := HN3.out
     go_upto_region 7 with fail
     generalize hWW : World.alloc _ _ = w4
     obtain ⟨hb4, hz⟩ := al1 hWW
     have HX4 := Lib.hid (n11 hWW)
     have HU_4 := Lib.hid (HU_1.out.trans (hb4.mono HU_1.out.size))
     have HA4 := Lib.hid (HA2.out.later HU_4.out)
     have HP4 := Lib.hid (HP2.out.later HU_4.out)
     have HW4 := Lib.hid (HW2.out.later HU_4.out)
     have HB4 := Lib.hid (bthen HB2.out HU_4.out)
     have HT4 := Lib.hid (T1.later ht hb4)
     have hsz3 := HU_1.out.size
     have hsz4 := hb4.size
     clear hWW hb4 hz n0 n1 n2 ht
     have q_w := HW4.out.regrown
     have q_x := HX4.out.regrown
     refine wp_region_quiet_below (by kernel_rfl) (by kernel_rfl) ?_
     repeat (go_big_quiet_step (fail))
     refine wpQuiet_nil ?_
     intro w5 hw_
     have hb5 : Below w4.heap.size w4 w5 := by obtain ⟨p_, rfl⟩ := hw_; exact below_regrown _ _ _
     clear hw_ q_w q_x
     have HX5 := Lib.hid (HX4.out.later hb5)
     have HA5 := Lib.hid (HA4.out.later hb5)
     have HP5 := Lib.hid (HP4.out.later hb5)
     have HW5 := Lib.hid (HW4.out.later hb5)
     have HT5 := Lib.hid (HT4.out.later hb5)
     have HB5 := Lib.hid (bthen HB4.out hb5)
     have hsz5 := hb5.size
     clear hb5
     have k_w := HW5.out.cell
     have l_w := HW5.out.lt
     have f_w := HW5.out.free
     go_upto_region 11 with fail
     have HW6 := Lib.hid (HW5.out.set_ 7 (.int .i64 1))
     have HX6 := Lib.hid (HX5.out.far (c := W) (by omega) 7 (.int .i64 1))
     have HA6 := Lib.hid (HA5.out.far (c := W) (by omega) 7 (.int .i64 1))
     have HP6 := Lib.hid (HP5.out.far (c := W) (by omega) 7 (.int .i64 1))
     have HT6 := Lib.hid (HT5.out.set_ (S := W) (i := 7) (u := .int .i64 1) (by omega))
     have HE6 : Hid (Exc W w (w5.setCell ⟨W, 7, none⟩ (.int .i64 1))) := Lib.hid ((Exc.of (Nat.le_of_lt hwl) HB5.out).set 7 _)
     have HBW6 : Hid (Below W w (w5.setCell ⟨W, 7, none⟩ (.int .i64 1))) := Lib.hid ((HB5.out.mono (Nat.le_of_lt hwl)).setCell (p := ⟨W, 7, none⟩) (Nat.le_refl _) _)
     have hsz6 : w5.heap.size ≤ (w5.setCell ⟨W, 7, none⟩ (.int .i64 1)).heap.size := by rw [World.size_setCell]; exact Nat.le_refl _
     clear k_w l_w f_w
     generalize w5.setCell ⟨W, 7, none⟩ (.int .i64 1) = w6 at *
     have k_x := HX6.out.cell
     have l_x := HX6.out.lt
     have k_a := HA6.out.cell
     have l_a := HA6.out.lt
     have k_p := HP6.out.cell
     have l_p := HP6.out.lt
     go_wp2_with fail
     refine (fits1_any (c := c) (HV.out.keep HBW6.out (Nat.le_refl _)) hcV (by omega) HT6.out ⟨hc1, hc2⟩).mono ?_
     rintro e w7 ⟨⟨An, cn, h, ct, rfl, hh, ht⟩, hb7⟩
     have HX7 := Lib.hid (HX6.out.later hb7)
     have HA7 := Lib.hid (HA6.out.later hb7)
     have HW7 := Lib.hid (HW6.out.later hb7)
     have HT7 := Lib.hid ht
     have hsz7 := hb7.size
     have HE7 := Lib.hid (HE6.out.trans (Exc.of (by omega) hb7))
     clear hb7 ht k_x l_x k_a l_a k_p l_p
     go_upto_region 12 with fail
     generalize hWW : World.alloc _ _ = w8
     obtain ⟨hb8, hz⟩ := al1 hWW
     have HO8 := Lib.hid (n11 hWW)
     have HX8 := Lib.hid (HX7.out.later hb8)
     have HA8 := Lib.hid (HA7.out.later hb8)
     have HW8 := Lib.hid (HW7.out.later hb8)
     have HT8 := Lib.hid (T1.later HT7.out hb8)
     have hsz8 := hb8.size
     have HE8 := Lib.hid (HE7.out.trans (Exc.of (by omega) hb8))
     clear hWW hb8 hz
     have k_x := HX8.out.cell
     have l_x := HX8.out.lt
     have k_a := HA8.out.cell
     have l_a := HA8.out.lt
     have k_o := HO8.out.cell
     have l_o := HO8.out.lt
     go_wp2_with fail
     refine (goes1_any (x := ⟨An, cn, some ⟨h, 0, none⟩, ct⟩) (held := 1) HW8.out).mono ?_
     rintro e w9 ⟨rfl, hex, A, cA, hblk, hown⟩
     obtain ⟨g, rfl, q1, q2, q3, q4, q5⟩ := own_a1 hown
     have HE9 := Lib.hid (HE8.out.trans hex)
     have HT9 := Lib.hid (T1.exc HT8.out hex (by omega))
     have HW9 := Lib.hid hblk
     have HQ9 := Lib.hid q5
     have hh2 : W < h := by omega
     have hg2 : W < g := by omega
     clear k_x l_x k_a l_a k_o l_o hex hblk hown q5
     have k_w := (show Blk w9 W #[.string ⟨#[]⟩, .slice none 0 0, .slice (some ⟨D, 0, none⟩) 1 cD, .slice none 0 0, .slice none 0 0, .pointer (some ⟨S, 0, none⟩), .int .u32 1, .int .i64 1, .slice (some ⟨g, 0, none⟩) 1 cA, .int .i64 0] from HW9.out).cell
     have l_w := HW9.out.lt
     go_wp2_with fail
     go_roundw
     case rel => exact .inr ⟨rfl, Lib.hid ⟨HE9.out, g, cA, ⟨An, cn, some ⟨h, 0, none⟩, ct⟩, h, HW9.out, hg2, q2, q3, q4, HQ9.out, rfl, hh2, HT9.out⟩⟩
     case measure => simp [intOf]
   · go_wp2_with fail
     go_end0
     exact ⟨rfl, HR.out⟩
end Go.Proofs.YtkdonhhbpacgmaaGreat
