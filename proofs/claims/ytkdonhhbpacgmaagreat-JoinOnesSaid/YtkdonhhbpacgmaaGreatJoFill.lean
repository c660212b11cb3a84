/- join.Fill. -/
import Derived.Test.YtkdonhhbpacgmaaGreatJoOne
set_option linter.unusedVariables false
set_option linter.unusedSimpArgs false
namespace Go.Proofs.YtkdonhhbpacgmaaGreat
open Go.ChangeShapes Go.WideShapes Go.ChangeAt Go.RowKit
def noPr : Pr := ⟨⟨#[]⟩, []⟩
def FillE (d : Nat) (w w' : World) (r : Option Pr) (z : Ending) : Prop := (∃ A c xs, z = .returned (.tuple #[.agg #[.string (r.getD noPr).name, .slice A (r.getD noPr).terms.length c], .bool r.isSome]) ∧ xs.map SV.t = (r.getD noPr).terms ∧ StkQ w.heap.size d w' xs A c) ∧ Below w.heap.size w w'
theorem FillE.no {d : Nat} {w w' : World} (h : Below w.heap.size w w') : FillE d w w' none (.returned (.tuple #[.agg #[.string ⟨#[]⟩, .slice none 0 0], .bool false])) :=
 ⟨⟨none, 0, [], rfl, rfl, StkQ.nil _ _ _⟩, h⟩
theorem ret_pr2 {fn : Func} {tmps : Array Value} {p u : Tmp} {g : Nat} {w : World} {cs : Array Value} (h : fn.results = #[.cell p 24, .tmp u]) (hp : tmps.getD p undef = .pointer (some ⟨g, 0, none⟩)) (hb : Blk w g cs) (hn : cs.size = 2) :
   (results fn tmps).run Tryz.prog w = .ok (.tuple #[.agg cs, tmps.getD u undef]) w := by
 obtain ⟨T, hb⟩ := hb
 rw [results_cell_tmp h]
 have e : tmps[p]?.getD undef = .pointer (some ⟨g, 0, none⟩) := by simpa using hp
 have e1 : ((asAddr (tmps.getD p undef)).run Tryz.prog w) = .ok ⟨g, 0, none⟩ w := by simp [e, asAddr]
 rw [e1, Result.andThen_ok, run_loadVar_row w g T 24 cs (0, 0) _ hb Tryz.underlying24 rfl (by rw [hn]; kernel_rfl), Result.andThen_ok]
theorem fillL_snoc {b : Bd} : ∀ {xs zs : List Tm} {x z : Tm}, fillL b xs = some zs → fill1 b x = some z → fillL b (xs ++ [x]) = some (zs ++ [z])
 | [], zs, x, z, h, hz => by
   simp only [fillL, Option.some.injEq] at h
   subst h
   simp [fillL, hz]
 | y :: xs, zs, x, z, h, hz => by
   simp only [fillL] at h
   split at h
   · rename_i u hu
     split at h
     · rename_i us hus
       simp only [Option.some.injEq] at h
       subst h
       simp only [List.cons_append, fillL, hu, fillL_snoc hus hz]
     · cases h
   · cases h
theorem fillL_none {b : Bd} : ∀ {xs : List Tm} {x : Tm}, x ∈ xs → fill1 b x = none → fillL b xs = none
 | y :: xs, x, hx, hz => by
   rcases List.mem_cons.1 hx with rfl | hx
   · simp [fillL, hz]
   · simp only [fillL]
     rw [fillL_none hx hz]
     split <;> rfl
set_option maxRecDepth 100000 in
set_option maxHeartbeats 4000000 in
theorem fill_any {d B cn ct : Nat} {p : Pr} {b : Bd} {vp : List Value} {An At : Option Addr} {w : World} (hp : (PrR (d + 1)).rd w B p vp) (hn : RL StrR w B (b.names.map mkS) An) (ht : RL (TmR (d + 1)) w B b.terms At) (hB : B ≤ w.heap.size) :
   Calls Tryz.prog 10 #[.agg vp.toArray, .agg (bdV An b.names.length cn At b.terms.length ct)] w fun z w' => FillE d w w' (fillR p b) z := by
 have HP := Lib.hid hp
 have HN := Lib.hid hn
 have HT := Lib.hid ht
 obtain ⟨_, rfl, hps, Ap, cp, rfl, hp1, hp2, hpl⟩ := hp
 have HPL := Lib.hid hpl
 obtain ⟨i0, hi0, hz0, hz1, hz2⟩ := info_parts infoTm
 clear hn ht hpl
 unfold bdV
 go_enter Tryz.func10, Tryz.ntmps10
 go_wp2_with fail
 generalize hW : World.alloc _ _ = w1
 obtain ⟨hb, hz⟩ := al3 hW
 have HBP1 := Lib.hid (n31 hW)
 have HBB1 := Lib.hid (n32 hW)
 have HBR1 := Lib.hid (n33 hW)
 have HB1 := Lib.hid hb
 have hsz1 := hb.size
 clear hW hb
 have hB1 := Nat.le_trans hB hsz1
 refine (mayPred_any (d := d + 1) (vs := [_, _]) ((PrR (d + 1)).keep HB1.out hB HP.out) hB1).mono ?_
 rintro e w1a ⟨rfl, hb⟩
 have HBPa := Lib.hid (HBP1.out.later hb)
 have HBBa := Lib.hid (HBB1.out.later hb)
 have HBRa := Lib.hid (HBR1.out.later hb)
 have HBa : Hid (Below w.heap.size w w1a) := Lib.hid (HB1.out.trans (hb.mono hsz1))
 have hsza := hb.size
 clear hb
 by_cases h1 : mayPredB p = true
 rotate_left
 · simp only [Bool.not_eq_true] at h1
   rw [h1]
   have HNO : Hid (fillR p b = none) := Lib.hid (by unfold fillR; rw [if_neg]; rintro ⟨q1, q2⟩; simp [h1] at *)
   clear h1
   have k_r := HBRa.out.cell
   have f_r := HBRa.out.free
   have l_r := HBRa.out.lt
   go_wp2_with fail
   refine bodyPost_ret (ret_pr2 rfl rfl (put2b HBRa.out (.string ⟨#[]⟩) (.slice none 0 0)) rfl) rfl ?_
   rw [HNO.out]
   exact FillE.no (put2u HBa.out (by omega) _ _)
 have H1 := Lib.hid h1
 rw [h1]
 clear h1
 have k_b := HBBa.out.cell
 have l_b := HBBa.out.lt
 go_wp2_with fail
 refine (maybind_any (d := d) (cn := cn) (ct := ct) (HN.out.keep HBa.out hB) (HT.out.keep HBa.out hB) (Nat.le_trans hB HBa.out.size)).mono ?_
 rintro e w2 ⟨rfl, hb⟩
 have HBP2 := Lib.hid (HBPa.out.later hb)
 have HBB2 := Lib.hid (HBBa.out.later hb)
 have HBR2 := Lib.hid (HBRa.out.later hb)
 have HB2 : Hid (Below w.heap.size w w2) := Lib.hid (HBa.out.trans (hb.mono HBa.out.size))
 have hsz2 := hb.size
 clear hb k_b l_b HBPa HBBa HBRa
 by_cases h2 : bindB b = true
 rotate_left
 · simp only [Bool.not_eq_true] at h2
   rw [h2]
   have HNO : Hid (fillR p b = none) := Lib.hid (by unfold fillR; rw [if_neg]; rintro ⟨q1, q2⟩; simp [h2] at *)
   clear h2
   have k_r := HBR2.out.cell
   have f_r := HBR2.out.free
   have l_r := HBR2.out.lt
   go_wp2_with fail
   refine bodyPost_ret (ret_pr2 rfl rfl (put2b HBR2.out (.string ⟨#[]⟩) (.slice none 0 0)) rfl) rfl ?_
   rw [HNO.out]
   exact FillE.no (put2u HB2.out (by omega) _ _)
 have H2 := Lib.hid h2
 rw [h2]
 clear h2
 have HMT := Lib.hid (may_terms H1.out)
 have hp8 := HMT.out.1
 have HOKN := Lib.hid (bindB_iff.1 H2.out)
 have HYES : Hid (∀ zs, fillL b p.terms = some zs → fillR p b = some ⟨p.name, zs⟩) := Lib.hid (fun zs hz => by unfold fillR; rw [if_pos ⟨H1.out, H2.out⟩, hz])
 have HNON : Hid (fillL b p.terms = none → fillR p b = none) := Lib.hid (fun hz => by unfold fillR; rw [if_pos ⟨H1.out, H2.out⟩, hz])
 have hlr2 := HBR2.out.lt
 have k_p := HBP2.out.cell
 have l_p := HBP2.out.lt
 go_upto_region 4 with fail
 generalize hW : World.alloc _ _ = w3
 obtain ⟨hb3, hz3⟩ := al1 hW
 have HBO3 := Lib.hid (n11 hW)
 have HB3 := Lib.hid hb3
 have HBP3 := Lib.hid (HBP2.out.later hb3)
 clear hW k_p l_p
 have k_p := HBP3.out.cell
 have l_p := HBP3.out.lt
 go_upto_region 5 with fail
 clear k_p l_p hb3
 go_loopw [25] (fun i wr => ∃ (k : Nat) (xs : List SV) (A : Option Addr) (c : Nat), k ≤ p.terms.length ∧ i = .int .i64 k ∧ xs.length = k ∧ Hid (fillL b (p.terms.take k) = some (xs.map SV.t)) ∧ Hid (Below w2.heap.size w2 wr) ∧ Hid (Blk wr w2.heap.size #[.string p.name, .slice A k c]) ∧ Hid (StkQ w3.heap.size d wr xs A c)) (fun i _ => p.terms.length - (intOf i).toNat)
 case atStart => exact ⟨0, [], none, 0, Nat.zero_le _, rfl, rfl, Lib.hid rfl, HB3, HBO3, Lib.hid (StkQ.nil _ _ _)⟩
 case round =>
   obtain ⟨k, xs, A, c, hk, rfl, hxl, HXT, HWR, HBO, HST⟩ := hrel
   subst hxl
   have hszr := HWR.out.size
   have HLO := Lib.hid HBO.out.lt
   have hlo := HLO.out
   have HBw : Hid (Below w.heap.size w wr) := Lib.hid (HB2.out.trans (HWR.out.mono HB2.out.size))
   have hBr : B ≤ wr.heap.size := Nat.le_trans hB HBw.out.size
   by_cases hlt : xs.length < p.terms.length
   · obtain ⟨b_, off, rfl, hob⟩ := (HPL.out.keep HBw.out hB).base (Below.refl _ _) hBr (by omega)
     obtain ⟨x, vs, hx, hlen, hcell, hr⟩ := (HPL.out.keep HBw.out hB).at_ (Below.refl _ _) hBr hlt
     have HX := Lib.hid hr
     obtain ⟨Ax, cx, rfl, g1, g2, g3, g4, g5, _⟩ := RTm.cells (show RTm wr B (d + 1) x vs from hr)
     have c0 : wr.cell? ⟨b_, off + xs.length * 4, none⟩ = some (.int .i64 x.kind) := hcell 0 _ rfl
     have c1 : wr.cell? ⟨b_, off + xs.length * 4 + 1, none⟩ = some (.int .i64 x.n) := hcell 1 _ rfl
     have c2 : wr.cell? ⟨b_, off + xs.length * 4 + 2, none⟩ = some (.string x.s) := hcell 2 _ rfl
     have c3 : wr.cell? ⟨b_, off + xs.length * 4 + 3, none⟩ = some (.slice Ax x.l.length cx) := hcell 3 _ rfl
     have HXE : Hid (p.terms[xs.length] = x) := Lib.hid (by rw [List.getElem?_eq_getElem hlt] at hx; simpa using hx)
     have HXI : Hid (x ∈ p.terms) := Lib.hid (List.mem_of_getElem? hx)
     have HXM : Hid (mayB x = true) := Lib.hid (HMT.out.2 x HXI.out)
     clear hcell hlen hx hr
     go_upto_region 7 with fail
     generalize hW : World.alloc _ _ = w4
     obtain ⟨hb4, hz4⟩ := al1 hW
     have HBT4 := Lib.hid (n11 hW)
     have HBO4 := Lib.hid (HBO.out.later hb4)
     have HST4 := Lib.hid (HST.out.later hb4)
     have HX4 := Lib.hid (RTm.below hb4 hBr HX.out)
     have HWR4 : Hid (Below w2.heap.size w2 w4) := Lib.hid (HWR.out.trans (hb4.mono hszr))
     have hsz4 := hb4.size
     have HLQ := Lib.hid HBT4.out.lt
     have hlq := HLQ.out
     clear hW hb4 c0 c1 c2 c3
     by_cases hv : x.kind = 1
     rotate_left
     · have hk1 : (x.kind == 1) = false := by simpa using hv
       have HFX : Hid (fixedB x = true) := Lib.hid (by unfold fixedB; rw [HXM.out]; simpa using hv)
       have HFILL : Hid (fill1 b p.terms[xs.length] = some x) := Lib.hid (by rw [HXE.out]; unfold fill1; rw [if_neg hv])
       clear hv
       obtain ⟨hle, hl16⟩ := fixed_leaves HFX.out
       have HLE := Lib.hid hle
       clear hle
       have k_t := HBT4.out.cell
       have l_t := HBT4.out.lt
       go_upto_region 12 with fail
       clear k_t l_t
       have HWR6 := Lib.hid (HWR4.out)
       have HBT6 := HBT4
       have HBO6 := HBO4
       have HST6 := HST4
       have HU6 := Lib.hid (RTm.more (show B ≤ w4.heap.size by omega) HX4.out)
       have hsz6 : wr.heap.size ≤ w4.heap.size := hsz4
       generalize w4 = w6 at *
       generalize x = u at *
       generalize Ax = Au at *
       generalize cx = cu at *
       have HSL : Hid (∀ {w' : World}, Below w6.heap.size w6 w' → (w'.cell? ⟨w2.heap.size, 1, none⟩ = some (.slice A xs.length c) ∧ w'.cell? ⟨wr.heap.size, 0, none⟩ = some (.int .i64 u.kind) ∧ w'.cell? ⟨wr.heap.size, 1, none⟩ = some (.int .i64 u.n) ∧ w'.cell? ⟨wr.heap.size, 2, none⟩ = some (.string u.s) ∧ w'.cell? ⟨wr.heap.size, 3, none⟩ = some (.slice Au u.l.length cu))) := Lib.hid (fun hb => have h := (HBT6.out.later hb).cell; ⟨(HBO6.out.later hb).cell 1, h 0, h 1, h 2, h 3⟩)
       refine wp_region_upto (S := fun w' => w'.cell? ⟨w2.heap.size, 1, none⟩ = some (.slice A xs.length c) ∧ w'.cell? ⟨wr.heap.size, 0, none⟩ = some (.int .i64 u.kind) ∧ w'.cell? ⟨wr.heap.size, 1, none⟩ = some (.int .i64 u.n) ∧ w'.cell? ⟨wr.heap.size, 2, none⟩ = some (.string u.s) ∧ w'.cell? ⟨wr.heap.size, 3, none⟩ = some (.slice Au u.l.length cu)) 7 (by kernel_rfl) (by kernel_rfl) (by kernel_rfl) (by kernel_rfl) (HSL.out (Below.refl _ _).drew) ?_
       refine upto_take (i := 0) (v := ?v1_) rfl (by kernel_rfl) (by kernel_rfl) (by kernel_rfl) (by kernel_rfl) ?hq1_ ?hw1_ ?hy1_ ?rest1_
       case hq1_ => exact fun _ _ _ h => h
       case hw1_ => rfl
       case hy1_ => (intro w' hS'; (try dsimp only at hS'); go_simp; (try with_reducible rfl))
       refine upto_take (i := 1) (v := ?v2_) rfl (by kernel_rfl) (by kernel_rfl) (by kernel_rfl) (by kernel_rfl) ?hq2_ ?hw2_ ?hy2_ ?rest2_
       case hq2_ => exact fun _ _ _ h => h
       case hw2_ => rfl
       case hy2_ => (intro w' hS'; (try dsimp only at hS'); go_simp; (try with_reducible rfl))
       refine upto_take (i := 2) (v := ?v3_) rfl (by kernel_rfl) (by kernel_rfl) (by kernel_rfl) (by kernel_rfl) ?hq3_ ?hw3_ ?hy3_ ?rest3_
       case hq3_ => exact fun _ _ _ h => h
       case hw3_ => rfl
       case hy3_ => (intro w' hS'; (try dsimp only at hS'); go_simp; (try with_reducible rfl))
       refine upto_ready (rs := [3]) (by kernel_rfl) rfl (by kernel_rfl) ?_
       refine AllUpto.cons rfl (fun K hK => ?_) AllUpto.nil
       go_simp
       refine (copied_any (B := w6.heap.size) (t := u) (vs := [_, _, _, _]) (RTm.below (Below.refl _ _).drew (Nat.le_refl _) HU6.out) (Nat.le_refl _) HLE.out hl16).mono ?_
       rintro e w7 ⟨⟨A5, c5, rfl, hown⟩, hb7⟩
       have HOWN : Hid (TmOwn d w6.heap.size w7 u A5 c5) := Lib.hid hown
       have HB7 : Hid (Below w6.heap.size w6 w7) := Lib.hid ((Below.refl w6.heap.size w6).drew.trans hb7)
       have hsz7 := HB7.out.size
       clear hown hb7
       refine hK.out _ _ (HSL.out HB7.out) ?_
       clear hK
       refine upto_ready (rs := [4]) (by kernel_rfl) rfl (by kernel_rfl) ?_
       refine AllUpto.cons rfl (fun K hK => ?_) AllUpto.nil
       go_simp
       refine hK.out _ _ (HSL.out (HB7.out.alloc hsz7 _)) ?_
       clear hK
       refine upto_ready (rs := [5]) (by kernel_rfl) rfl (by kernel_rfl) ?_
       refine AllUpto.cons rfl (fun K hK => ?_) AllUpto.nil
       refine step_append_F (R := SvR) (e := 44) rfl (.tmp 43) (.tmp 46) 22 rfl (bytes := 56) Tryz.underlying22 hi0 hz0 hz1 hz2 rfl (show 0 < 4 by omega) single_sv rfl (base := w3.heap.size) (xs := xs) (ys := [⟨u, A5, c5⟩]) (HST6.out.own.later (HB7.out.alloc hsz7 _) (Nat.zero_le _)) rfl (sv_src (x := ⟨u, A5, c5⟩) hp11) rfl (by simp only [List.length_cons, List.length_nil]; omega) (by omega) (by rw [World.size_alloc]; omega) ?_
       intro v wn_ hown hg hf
       obtain ⟨An2, cn2, hv⟩ : ∃ A c, v = .slice A (xs.length + 1) c := by have := hown.form; rwa [List.length_append, List.length_singleton] at this
       subst hv
       have happ := (HST6.out.later (HB7.out.alloc hsz7 _)).app (x := ⟨u, A5, c5⟩) (HOWN.out.at_.later ((Below.refl _ _).alloc (Nat.le_refl _) _)) (HST6.out.apart (Nat.le_refl _) fun a ha => (HOWN.out.blk a ha).1) (fun a ha => ⟨by have := (HOWN.out.blk a ha).1; omega, by have := (HOWN.out.blk a ha).2; rw [World.size_alloc]; omega⟩) (by rw [World.size_alloc]; omega) hown hg hf
       have HQB := Lib.hid (((HBT6.out.later (HB7.out.alloc hsz7 _)).grown hg (HST.out.own.own_lt (Nat.le_refl _)).symm).cell)
       have HBO9 := Lib.hid ((HBO6.out.later (HB7.out.alloc hsz7 _)).grown hg (HST.out.own_ge (by omega)).symm)
       have f_o := HBO9.out.free
       have k_o9 := HBO9.out.cell
       have HAP := Lib.hid happ.1
       have HWR9 : Hid (Below w2.heap.size w2 wn_) := Lib.hid (HWR6.out.trans (((HB7.out.alloc hsz7 _).mono (by omega)).trans (happ.2.mono (by omega))))
       clear hown hg hf happ
       refine hK.out _ _ (⟨HBO9.out.cell 1, HQB.out 0, HQB.out 1, HQB.out 2, HQB.out 3⟩) ?_
       clear hK
       refine upto_take (i := 6) (v := ?v4_) rfl (by kernel_rfl) (by kernel_rfl) (by kernel_rfl) (by kernel_rfl) ?hq4_ ?hw4_ ?hy4_ ?rest4_
       case hq4_ => exact fun _ _ _ h => h
       case hw4_ => rfl
       case hy4_ => (intro w' hS'; (try dsimp only at hS'); go_simp; (try with_reducible rfl))
       refine upto_last (by kernel_rfl) (by kernel_rfl) rfl (fun K hK => ?_)
       go_simp
       refine hK.out _ _ ?_
       go_wp2_with fail
       go_roundw
       case rel => exact ⟨xs.length + 1, xs ++ [⟨u, A5, c5⟩], An2, cn2, by omega, by go_num, by rw [List.length_append, List.length_singleton], Lib.hid (by rw [List.map_append, List.map_singleton, ← List.take_append_getElem hlt]; exact fillL_snoc HXT.out HFILL.out), Lib.hid (HWR9.out.setCell (p := ⟨w2.heap.size, 1, none⟩) (Nat.le_refl _) _), Lib.hid (HBO9.out.set_ 1 _), Lib.hid (HAP.out.under (by omega) 1 _)⟩
       case measure => simp [intOf]; omega
     · have hk1 : (x.kind == 1) = true := by simpa using hv
       have HV := Lib.hid hv
       clear hv
       have HBB4 := Lib.hid (HBB2.out.later HWR4.out)
       have k_t := HBT4.out.cell
       have l_t := HBT4.out.lt
       have k_b := HBB4.out.cell
       have l_b := HBB4.out.lt
       go_wp2_with fail
       refine (look_any (d := d) (cn := cn) (ct := ct) (HN.out.keep (HB2.out.trans (HWR4.out.mono HB2.out.size)) hB) (HT.out.keep (HB2.out.trans (HWR4.out.mono HB2.out.size)) hB) (by omega)).mono ?_
       rintro e w5 ⟨⟨Au, cu, rfl, htm⟩, hb5⟩
       have HTM := Lib.hid htm
       have HBT5 := Lib.hid (HBT4.out.later hb5)
       have HBO5 := Lib.hid (HBO4.out.later hb5)
       have HST5 := Lib.hid (HST4.out.later hb5)
       have HWR5 : Hid (Below w2.heap.size w2 w5) := Lib.hid (HWR4.out.trans (hb5.mono (by omega)))
       have HBR5 := Lib.hid (HBR2.out.later HWR5.out)
       have hsz5 := hb5.size
       clear k_t l_t k_b l_b htm hb5
       have HLK : Hid (fill1 b x = lookR b (bs x.s)) := Lib.hid (by unfold fill1; rw [if_pos HV.out])
       rw [if_pos H2.out] at HTM ⊢
       rcases hl : lookR b (bs x.s) with _ | u
       · have HNO : Hid (fillR p b = none) := Lib.hid (HNON.out (fillL_none HXI.out (HLK.out.trans hl)))
         simp only [Option.getD_none, Option.isSome_none]
         have k_t := HBT5.out.cell
         have l_t := HBT5.out.lt
         have f_t := HBT5.out.free
         go_upto_region 10 with fail
         clear k_t l_t f_t
         have HBR6 := Lib.hid ((((HBR5.out.far (c := wr.heap.size) (by omega) 0 (.int .i64 noT.kind)).far (c := wr.heap.size) (by omega) 1 (.int .i64 noT.n)).far (c := wr.heap.size) (by omega) 2 (.string noT.s)).far (c := wr.heap.size) (by omega) 3 (.slice Au noT.l.length cu))
         have HWR6 : Hid (Below w2.heap.size w2 ((((w5.setCell ⟨wr.heap.size, 0, none⟩ (.int .i64 noT.kind)).setCell ⟨wr.heap.size, 1, none⟩ (.int .i64 noT.n)).setCell ⟨wr.heap.size, 2, none⟩ (.string noT.s)).setCell ⟨wr.heap.size, 3, none⟩ (.slice Au noT.l.length cu))) := Lib.hid (put4u HWR5.out (by omega) (.int .i64 noT.kind) (.int .i64 noT.n) (.string noT.s) (.slice Au noT.l.length cu))
         have HBw6 : Hid (Below w.heap.size w ((((w5.setCell ⟨wr.heap.size, 0, none⟩ (.int .i64 noT.kind)).setCell ⟨wr.heap.size, 1, none⟩ (.int .i64 noT.n)).setCell ⟨wr.heap.size, 2, none⟩ (.string noT.s)).setCell ⟨wr.heap.size, 3, none⟩ (.slice Au noT.l.length cu))) := Lib.hid (put4u (HB2.out.trans (HWR5.out.mono HB2.out.size)) (by omega) (.int .i64 noT.kind) (.int .i64 noT.n) (.string noT.s) (.slice Au noT.l.length cu))
         generalize (((w5.setCell ⟨wr.heap.size, 0, none⟩ (.int .i64 noT.kind)).setCell ⟨wr.heap.size, 1, none⟩ (.int .i64 noT.n)).setCell ⟨wr.heap.size, 2, none⟩ (.string noT.s)).setCell ⟨wr.heap.size, 3, none⟩ (.slice Au noT.l.length cu) = w6 at *
         have k_r := HBR6.out.cell
         have l_r := HBR6.out.lt
         have f_r := HBR6.out.free
         go_wp2_with fail
         refine bodyPost_ret (ret_pr2 rfl rfl (put2b HBR6.out (.string ⟨#[]⟩) (.slice none 0 0)) rfl) rfl ?_
         rw [HNO.out]
         exact FillE.no (put2u HBw6.out (by omega) _ _)
       · rw [hl] at HTM
         have HFILL : Hid (fill1 b p.terms[xs.length] = some u) := Lib.hid (by rw [HXE.out]; exact HLK.out.trans hl)
         have HUF : Hid (fixedB u = true) := Lib.hid (look_fixed HOKN.out.1 hl)
         clear hl
         simp only [Option.getD_some, Option.isSome_some] at HTM ⊢
         obtain ⟨hle, hl16⟩ := fixed_leaves HUF.out
         have HLE := Lib.hid hle
         clear hle
         have k_t := HBT5.out.cell
         have l_t := HBT5.out.lt
         have f_t := HBT5.out.free
         go_upto_region 10 with fail
         clear k_t l_t f_t
         have HBR6 := Lib.hid ((((HBR5.out.far (c := wr.heap.size) (by omega) 0 (.int .i64 u.kind)).far (c := wr.heap.size) (by omega) 1 (.int .i64 u.n)).far (c := wr.heap.size) (by omega) 2 (.string u.s)).far (c := wr.heap.size) (by omega) 3 (.slice Au u.l.length cu))
         have HWR6 : Hid (Below w2.heap.size w2 ((((w5.setCell ⟨wr.heap.size, 0, none⟩ (.int .i64 u.kind)).setCell ⟨wr.heap.size, 1, none⟩ (.int .i64 u.n)).setCell ⟨wr.heap.size, 2, none⟩ (.string u.s)).setCell ⟨wr.heap.size, 3, none⟩ (.slice Au u.l.length cu))) := Lib.hid (put4u HWR5.out (by omega) (.int .i64 u.kind) (.int .i64 u.n) (.string u.s) (.slice Au u.l.length cu))
         have HBw6 : Hid (Below w.heap.size w ((((w5.setCell ⟨wr.heap.size, 0, none⟩ (.int .i64 u.kind)).setCell ⟨wr.heap.size, 1, none⟩ (.int .i64 u.n)).setCell ⟨wr.heap.size, 2, none⟩ (.string u.s)).setCell ⟨wr.heap.size, 3, none⟩ (.slice Au u.l.length cu))) := Lib.hid (put4u (HB2.out.trans (HWR5.out.mono HB2.out.size)) (by omega) (.int .i64 u.kind) (.int .i64 u.n) (.string u.s) (.slice Au u.l.length cu))
         have HBT6 := Lib.hid (put4b HBT5.out (.int .i64 u.kind) (.int .i64 u.n) (.string u.s) (.slice Au u.l.length cu))
         have HBO6 := Lib.hid ((((HBO5.out.far (c := wr.heap.size) (by omega) 0 (.int .i64 u.kind)).far (c := wr.heap.size) (by omega) 1 (.int .i64 u.n)).far (c := wr.heap.size) (by omega) 2 (.string u.s)).far (c := wr.heap.size) (by omega) 3 (.slice Au u.l.length cu))
         have HST6 : Hid (StkQ w3.heap.size d ((((w5.setCell ⟨wr.heap.size, 0, none⟩ (.int .i64 u.kind)).setCell ⟨wr.heap.size, 1, none⟩ (.int .i64 u.n)).setCell ⟨wr.heap.size, 2, none⟩ (.string u.s)).setCell ⟨wr.heap.size, 3, none⟩ (.slice Au u.l.length cu)) xs A c) := Lib.hid ((HST5.out).far4 (HST.out.low (Nat.le_refl _)) (.int .i64 u.kind) (.int .i64 u.n) (.string u.s) (.slice Au u.l.length cu))
         have HU6 := Lib.hid ((HTM.out.put4 (g := wr.heap.size) (by omega) (.int .i64 u.kind) (.int .i64 u.n) (.string u.s) (.slice Au u.l.length cu)).rtm)
         have hsz6 : wr.heap.size ≤ ((((w5.setCell ⟨wr.heap.size, 0, none⟩ (.int .i64 u.kind)).setCell ⟨wr.heap.size, 1, none⟩ (.int .i64 u.n)).setCell ⟨wr.heap.size, 2, none⟩ (.string u.s)).setCell ⟨wr.heap.size, 3, none⟩ (.slice Au u.l.length cu)).heap.size := by simp only [World.size_setCell]; omega
         generalize (((w5.setCell ⟨wr.heap.size, 0, none⟩ (.int .i64 u.kind)).setCell ⟨wr.heap.size, 1, none⟩ (.int .i64 u.n)).setCell ⟨wr.heap.size, 2, none⟩ (.string u.s)).setCell ⟨wr.heap.size, 3, none⟩ (.slice Au u.l.length cu) = w6 at *
         have k_t := HBT6.out.cell
         have l_t := HBT6.out.lt
         go_upto_region 12 with fail
         clear k_t l_t
         have HSL : Hid (∀ {w' : World}, Below w6.heap.size w6 w' → (w'.cell? ⟨w2.heap.size, 1, none⟩ = some (.slice A xs.length c) ∧ w'.cell? ⟨wr.heap.size, 0, none⟩ = some (.int .i64 u.kind) ∧ w'.cell? ⟨wr.heap.size, 1, none⟩ = some (.int .i64 u.n) ∧ w'.cell? ⟨wr.heap.size, 2, none⟩ = some (.string u.s) ∧ w'.cell? ⟨wr.heap.size, 3, none⟩ = some (.slice Au u.l.length cu))) := Lib.hid (fun hb => have h := (HBT6.out.later hb).cell; ⟨(HBO6.out.later hb).cell 1, h 0, h 1, h 2, h 3⟩)
         refine wp_region_upto (S := fun w' => w'.cell? ⟨w2.heap.size, 1, none⟩ = some (.slice A xs.length c) ∧ w'.cell? ⟨wr.heap.size, 0, none⟩ = some (.int .i64 u.kind) ∧ w'.cell? ⟨wr.heap.size, 1, none⟩ = some (.int .i64 u.n) ∧ w'.cell? ⟨wr.heap.size, 2, none⟩ = some (.string u.s) ∧ w'.cell? ⟨wr.heap.size, 3, none⟩ = some (.slice Au u.l.length cu)) 7 (by kernel_rfl) (by kernel_rfl) (by kernel_rfl) (by kernel_rfl) (HSL.out (Below.refl _ _).drew) ?_
         refine upto_take (i := 0) (v := ?v5_) rfl (by kernel_rfl) (by kernel_rfl) (by kernel_rfl) (by kernel_rfl) ?hq5_ ?hw5_ ?hy5_ ?rest5_
         case hq5_ => exact fun _ _ _ h => h
         case hw5_ => rfl
         case hy5_ => (intro w' hS'; (try dsimp only at hS'); go_simp; (try with_reducible rfl))
         refine upto_take (i := 1) (v := ?v6_) rfl (by kernel_rfl) (by kernel_rfl) (by kernel_rfl) (by kernel_rfl) ?hq6_ ?hw6_ ?hy6_ ?rest6_
         case hq6_ => exact fun _ _ _ h => h
         case hw6_ => rfl
         case hy6_ => (intro w' hS'; (try dsimp only at hS'); go_simp; (try with_reducible rfl))
         refine upto_take (i := 2) (v := ?v7_) rfl (by kernel_rfl) (by kernel_rfl) (by kernel_rfl) (by kernel_rfl) ?hq7_ ?hw7_ ?hy7_ ?rest7_
         case hq7_ => exact fun _ _ _ h => h
         case hw7_ => rfl
         case hy7_ => (intro w' hS'; (try dsimp only at hS'); go_simp; (try with_reducible rfl))
         refine upto_ready (rs := [3]) (by kernel_rfl) rfl (by kernel_rfl) ?_
         refine AllUpto.cons rfl (fun K hK => ?_) AllUpto.nil
         go_simp
         refine (copied_any (B := w6.heap.size) (t := u) (vs := [_, _, _, _]) (RTm.below (Below.refl _ _).drew (Nat.le_refl _) HU6.out) (Nat.le_refl _) HLE.out hl16).mono ?_
         rintro e w7 ⟨⟨A5, c5, rfl, hown⟩, hb7⟩
         have HOWN : Hid (TmOwn d w6.heap.size w7 u A5 c5) := Lib.hid hown
         have HB7 : Hid (Below w6.heap.size w6 w7) := Lib.hid ((Below.refl w6.heap.size w6).drew.trans hb7)
         have hsz7 := HB7.out.size
         clear hown hb7
         refine hK.out _ _ (HSL.out HB7.out) ?_
         clear hK
         refine upto_ready (rs := [4]) (by kernel_rfl) rfl (by kernel_rfl) ?_
         refine AllUpto.cons rfl (fun K hK => ?_) AllUpto.nil
         go_simp
         refine hK.out _ _ (HSL.out (HB7.out.alloc hsz7 _)) ?_
         clear hK
         refine upto_ready (rs := [5]) (by kernel_rfl) rfl (by kernel_rfl) ?_
         refine AllUpto.cons rfl (fun K hK => ?_) AllUpto.nil
         refine step_append_F (R := SvR) (e := 44) rfl (.tmp 43) (.tmp 46) 22 rfl (bytes := 56) Tryz.underlying22 hi0 hz0 hz1 hz2 rfl (show 0 < 4 by omega) single_sv rfl (base := w3.heap.size) (xs := xs) (ys := [⟨u, A5, c5⟩]) (HST6.out.own.later (HB7.out.alloc hsz7 _) (Nat.zero_le _)) rfl (sv_src (x := ⟨u, A5, c5⟩) hp11) rfl (by simp only [List.length_cons, List.length_nil]; omega) (by omega) (by rw [World.size_alloc]; omega) ?_
         intro v wn_ hown hg hf
         obtain ⟨An2, cn2, hv⟩ : ∃ A c, v = .slice A (xs.length + 1) c := by have := hown.form; rwa [List.length_append, List.length_singleton] at this
         subst hv
         have happ := (HST6.out.later (HB7.out.alloc hsz7 _)).app (x := ⟨u, A5, c5⟩) (HOWN.out.at_.later ((Below.refl _ _).alloc (Nat.le_refl _) _)) (HST6.out.apart (Nat.le_refl _) fun a ha => (HOWN.out.blk a ha).1) (fun a ha => ⟨by have := (HOWN.out.blk a ha).1; omega, by have := (HOWN.out.blk a ha).2; rw [World.size_alloc]; omega⟩) (by rw [World.size_alloc]; omega) hown hg hf
         have HQB := Lib.hid (((HBT6.out.later (HB7.out.alloc hsz7 _)).grown hg (HST.out.own.own_lt (Nat.le_refl _)).symm).cell)
         have HBO9 := Lib.hid ((HBO6.out.later (HB7.out.alloc hsz7 _)).grown hg (HST.out.own_ge (by omega)).symm)
         have f_o := HBO9.out.free
         have k_o9 := HBO9.out.cell
         have HAP := Lib.hid happ.1
         have HWR9 : Hid (Below w2.heap.size w2 wn_) := Lib.hid (HWR6.out.trans (((HB7.out.alloc hsz7 _).mono (by omega)).trans (happ.2.mono (by omega))))
         clear hown hg hf happ
         refine hK.out _ _ (⟨HBO9.out.cell 1, HQB.out 0, HQB.out 1, HQB.out 2, HQB.out 3⟩) ?_
         clear hK
         refine upto_take (i := 6) (v := ?v8_) rfl (by kernel_rfl) (by kernel_rfl) (by kernel_rfl) (by kernel_rfl) ?hq8_ ?hw8_ ?hy8_ ?rest8_
         case hq8_ => exact fun _ _ _ h => h
         case hw8_ => rfl
         case hy8_ => (intro w' hS'; (try dsimp only at hS'); go_simp; (try with_reducible rfl))
         refine upto_last (by kernel_rfl) (by kernel_rfl) rfl (fun K hK => ?_)
         go_simp
         refine hK.out _ _ ?_
         go_wp2_with fail
         go_roundw
         case rel => exact ⟨xs.length + 1, xs ++ [⟨u, A5, c5⟩], An2, cn2, by omega, by go_num, by rw [List.length_append, List.length_singleton], Lib.hid (by rw [List.map_append, List.map_singleton, ← List.take_append_getElem hlt]; exact fillL_snoc HXT.out HFILL.out), Lib.hid (HWR9.out.setCell (p := ⟨w2.heap.size, 1, none⟩) (Nat.le_refl _) _), Lib.hid (HBO9.out.set_ 1 _), Lib.hid (HAP.out.under (by omega) 1 _)⟩
         case measure => simp [intOf]; omega
   · have HXL : Hid (xs.length = p.terms.length) := Lib.hid (by omega)
     have HRS : Hid (fillR p b = some ⟨p.name, xs.map SV.t⟩) := Lib.hid (HYES.out _ (by have := HXT.out; rw [HXL.out, List.take_length] at this; exact this))
     have hlm : (xs.map SV.t).length = xs.length := List.length_map _
     have HBRr := Lib.hid (HBR2.out.later HWR.out)
     have k_o := HBO.out.cell
     have k_r := HBRr.out.cell
     have f_r := HBRr.out.free
     have l_r := HBRr.out.lt
     go_wp2_with fail
     refine bodyPost_ret (ret_pr2 rfl rfl (put2b HBRr.out (.string p.name) (.slice A xs.length c)) rfl) rfl ?_
     rw [HRS.out]
     exact ⟨⟨A, c, xs, by simp, rfl, ((HST.out.under (by omega) 0 _).under (by omega) 1 _).lower (by omega)⟩, put2u HBw.out (by omega) _ _⟩
end Go.Proofs.YtkdonhhbpacgmaaGreat
