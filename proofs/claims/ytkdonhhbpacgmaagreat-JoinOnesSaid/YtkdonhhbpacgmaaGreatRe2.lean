/- viaticumref11.Look. -/
import Derived.Test.YtkdonhhbpacgmaaGreatBind
import Derived.Test.YtkdonhhbpacgmaaGreatRefFix
import Derived.Test.YtkdonhhbpacgmaaGreatRef2
set_option linter.unusedVariables false
set_option linter.unusedSimpArgs false
namespace Go.Proofs.YtkdonhhbpacgmaaGreat
open Go.ChangeShapes Go.WideShapes Go.ChangeAt Go.RowKit
set_option maxRecDepth 100000 in
set_option maxHeartbeats 2000000 in
theorem refMayBind_any {d B cn ct : Nat} {b : Bd} {An At : Option Addr} {w : World} (hn : RL StrR w B (b.names.map mkS) An) (ht : RL (TmR (d + 1)) w B b.terms At) (hB : B ≤ w.heap.size) :
   Calls Tryz.prog 16 #[.agg (bdV An b.names.length cn At b.terms.length ct)] w fun e w' => e = .returned (.bool (bindB b)) ∧ Below w.heap.size w w' := by
 have HN := Lib.hid hn
 have HT := Lib.hid ht
 clear hn ht
 unfold bdV
 go_enter Tryz.func16, Tryz.ntmps16
 by_cases hlen : b.names.length = b.terms.length
 · have ql : ((b.names.length : Int) != b.terms.length) = false := by simp [hlen]
   have HLN := Lib.hid hlen
   clear hlen
   by_cases hfew : b.names.length ≤ 32
   · have qf : decide ((32 : Int) < b.names.length) = false := by simp; omega
     go_wp2_with fail
     generalize hW : World.alloc _ _ = w1
     obtain ⟨hb1, hz⟩ := al1 hW
     have HBB := Lib.hid (n11 hW)
     have HB1 := Lib.hid hb1
     clear hW hb1
     go_loopw [21] (fun i wr => ∃ k : Nat, k ≤ b.names.length ∧ i = .int .i64 k ∧ Below w1.heap.size w1 wr ∧ ∀ i, i < k → bindAt b i = true) (fun i _ => b.names.length - (intOf i).toNat)
     case atStart => exact ⟨0, Nat.zero_le _, rfl, Below.refl _ _, fun i h => absurd h (by omega)⟩
     case round =>
       obtain ⟨k, hk, rfl, hbw, hall⟩ := hrel
       have HA := Lib.hid hall
       have HWR := Lib.hid hbw
       have HBR := Lib.hid (HBB.out.later hbw)
       have HBw : Hid (Below w.heap.size w wr) := Lib.hid (bthen HB1.out hbw)
       have hB1 : B ≤ w1.heap.size := by omega
       have hsz := hbw.size
       clear hall hbw
       by_cases hlt : k < b.names.length
       · have HN1 := Lib.hid (HN.out.keep HBw.out hB)
         have HT1 := Lib.hid (HT.out.keep HBw.out hB)
         have hBr : B ≤ wr.heap.size := by omega
         have hlt2 : k < b.terms.length := by rw [← HLN.out]; exact hlt
         obtain ⟨bn_, offn, rfl, hobn, hcn⟩ := strs_at HN1.out (Below.refl _ _) hBr (by omega)
         obtain ⟨bt_, offt, rfl, hobt⟩ := HT1.out.base (Below.refl _ _) hBr (by omega)
         obtain ⟨x, vs, hx, hlen, hcell, hr⟩ := HT1.out.at_ (Below.refl _ _) hBr hlt2
         obtain ⟨Ax, cx, rfl, g1, g2, g3, g4, g5, _⟩ := RTm.cells (show RTm wr B (d + 1) x vs from hr)
         have c0 : wr.cell? ⟨bt_, offt + k * 4, none⟩ = some (.int .i64 x.kind) := hcell 0 _ rfl
         have c1 : wr.cell? ⟨bt_, offt + k * 4 + 1, none⟩ = some (.int .i64 x.n) := hcell 1 _ rfl
         have c2 : wr.cell? ⟨bt_, offt + k * 4 + 2, none⟩ = some (.string x.s) := hcell 2 _ rfl
         have c3 : wr.cell? ⟨bt_, offt + k * 4 + 3, none⟩ = some (.slice Ax x.l.length cx) := hcell 3 _ rfl
         have cn0 := hcn k hlt
         have cn1 := hcn (k - 1) (by omega)
         have k_b := HBR.out.cell
         have l_b := HBR.out.lt
         have hxe : b.terms[k] = x := by
           rw [List.getElem?_eq_getElem hlt2] at hx
           simpa using hx
         obtain ⟨y, vy, hy, _, _, hry⟩ := HN1.out.at_ (Below.refl _ _) hBr (k := k) (by simpa using hlt)
         have hye : y = mkS b.names[k] := by simpa [hlt, eq_comm] using hy
         have hsz16 : (mkS b.names[k]).size ≤ 140737488351232 := hye ▸ (show StrR.rd wr B y vy from hry).2
         have HX := Lib.hid hr
         have HAT : Hid (bindAt b k = (nameB (bs (mkS b.names[k])) && fixedB x && (decide (k = 0) || decide (bs (mkS b.names[k - 1]) < bs (mkS b.names[k]))))) := Lib.hid (by
           unfold bindAt
           rw [List.getElem?_eq_getElem hlt, List.getElem?_eq_getElem hlt2, List.getElem?_eq_getElem (show k - 1 < b.names.length by omega), hxe, bs_mkS, bs_mkS])
         clear hcell hlen hcn hx hr hry hy hye hxe
         generalize mkS b.names[k] = nk at *
         generalize mkS b.names[k - 1] = np at *
         have HNO : Hid (bindAt b k = false → bindB b = false) := Lib.hid (fun h => by
           rw [Bool.eq_false_iff]
           intro h2
           unfold bindB at h2
           rw [Bool.and_eq_true, List.all_eq_true] at h2
           have := h2.2 k (by simpa using hlt)
           rw [h] at this
           cases this)
         by_cases hnm : nameB (bs nk) = true
         · by_cases hfx : fixedB x = true
           · have hk1 : (k : Int) - 1 = ((k - 1 : Nat) : Int) ∨ k = 0 := by omega
             have hle : (!Op.bytesLess np.toList nk.toList) = !decide (bs np < bs nk) := by rw [bytesLess_eq, ByteArray.toList_eq, ByteArray.toList_eq]
             rcases Nat.eq_zero_or_pos k with h0 | h0
             · have hAT : bindAt b k = true := by rw [HAT.out, hnm, hfx, decide_eq_true h0]; rfl
               have HAT2 := Lib.hid hAT
               have H0 := Lib.hid h0
               clear h0 hAT hle hk1
               go_wp2_with (first
                 | (go_at_call 33; refine (refName_any _ _ (by unfold maxLen; omega)).mono ?_; rintro e w' ⟨rfl, rfl⟩)
                 | (go_at_call 34; refine (refFixed_any HX.out hBr).mono ?_; rintro e w2 ⟨rfl, hb2⟩; have cn2 := (hb2.cell (p := ⟨bn_, offn + (k - 1), none⟩) hobn).trans cn1; have k_b2 := (HBR.out.later hb2).cell; have HB2 := Lib.hid (bthen HBw.out hb2); have HBR2 := Lib.hid (Below.trans HWR.out (hb2.mono hsz)); clear hb2))
               · exact absurd H0.out (by omega)
               all_goals
                 go_roundw
                 case rel => exact ⟨k + 1, by omega, by go_num, HBR2.out, fun i hi => by
                   rcases Nat.lt_or_ge i k with h1 | h1
                   · exact HA.out i h1
                   · obtain rfl : i = k := by omega
                     exact HAT2.out⟩
                 case measure => simp [intOf]; omega
             · have hk2 : (k : Int) - 1 = ((k - 1 : Nat) : Int) := by omega
               have q0 : decide ((0 : Int) < k) = true := by simp; omega
               clear hk1
               have HLE := Lib.hid hle
               clear hle
               go_wp2_with (first
                 | (go_at_call 33; refine (refName_any _ _ (by unfold maxLen; omega)).mono ?_; rintro e w' ⟨rfl, rfl⟩)
                 | (go_at_call 34; refine (refFixed_any HX.out hBr).mono ?_; rintro e w2 ⟨rfl, hb2⟩; have cn2 := (hb2.cell (p := ⟨bn_, offn + (k - 1), none⟩) hobn).trans cn1; have k_b2 := (HBR.out.later hb2).cell; have HB2 := Lib.hid (bthen HBw.out hb2); have HBR2 := Lib.hid (Below.trans HWR.out (hb2.mono hsz)); clear hb2))
               · rename_i hq
                 go_ret
                 refine ⟨ret_bool ?_, HB2.out⟩
                 rw [HLE.out] at hq
                 have hq2 : decide (bs np < bs nk) = false := by simpa using hq
                 have hq1 : decide (k = 0) = false := by simp; omega
                 rw [HNO.out (by rw [HAT.out, hnm, hfx, hq1, hq2]; rfl)]
               · rename_i hq
                 rw [HLE.out] at hq
                 have hq2 : decide (bs np < bs nk) = true := by simpa using hq
                 have HAT2 : Hid (bindAt b k = true) := Lib.hid (by rw [HAT.out, hnm, hfx, hq2, Bool.or_true]; rfl)
                 clear hq hq2
                 go_roundw
                 case rel => exact ⟨k + 1, by omega, by go_num, HBR2.out, fun i hi => by
                   rcases Nat.lt_or_ge i k with h1 | h1
                   · exact HA.out i h1
                   · obtain rfl : i = k := by omega
                     exact HAT2.out⟩
                 case measure => simp [intOf]; omega
           · have hfx' : fixedB x = false := by simpa using hfx
             clear hfx
             go_wp2_with (first
                 | (go_at_call 33; refine (refName_any _ _ (by unfold maxLen; omega)).mono ?_; rintro e w' ⟨rfl, rfl⟩)
                 | (go_at_call 34; refine (refFixed_any HX.out hBr).mono ?_; rintro e w2 ⟨rfl, hb2⟩; have cn2 := (hb2.cell (p := ⟨bn_, offn + (k - 1), none⟩) hobn).trans cn1; have k_b2 := (HBR.out.later hb2).cell; have HB2 := Lib.hid (bthen HBw.out hb2); have HBR2 := Lib.hid (Below.trans HWR.out (hb2.mono hsz)); clear hb2))
             go_ret
             refine ⟨ret_bool ?_, HB2.out⟩
             rw [HNO.out (by rw [HAT.out, hnm, hfx']; rfl)]
         · have hnm' : nameB (bs nk) = false := by simpa using hnm
           clear hnm
           go_wp2_with (first
                 | (go_at_call 33; refine (refName_any _ _ (by unfold maxLen; omega)).mono ?_; rintro e w' ⟨rfl, rfl⟩)
                 | (go_at_call 34; refine (refFixed_any HX.out hBr).mono ?_; rintro e w2 ⟨rfl, hb2⟩; have cn2 := (hb2.cell (p := ⟨bn_, offn + (k - 1), none⟩) hobn).trans cn1; have k_b2 := (HBR.out.later hb2).cell; have HB2 := Lib.hid (bthen HBw.out hb2); have HBR2 := Lib.hid (Below.trans HWR.out (hb2.mono hsz)); clear hb2))
           go_ret
           refine ⟨ret_bool ?_, HBw.out⟩
           rw [HNO.out (by rw [HAT.out, hnm']; rfl)]
       · go_wp2_with fail
         go_ret
         obtain rfl : k = b.names.length := by omega
         refine ⟨ret_bool ?_, HBw.out⟩
         unfold bindB
         rw [eq_comm, Bool.and_eq_true, Bool.and_eq_true, List.all_eq_true]
         exact ⟨⟨decide_eq_true HLN.out, decide_eq_true hfew⟩, fun i hi => HA.out i (by simpa using hi)⟩
   · have qf : decide ((32 : Int) < b.names.length) = true := by simp; omega
     go_wp2_with fail
     go_ret
     refine ⟨ret_bool ?_, below_new rfl⟩
     unfold bindB
     simp [hfew]
 · have ql : ((b.names.length : Int) != b.terms.length) = true := by simp; omega
   have HLN := Lib.hid hlen
   clear hlen
   go_wp2_with fail
   go_ret
   refine ⟨ret_bool ?_, below_new rfl⟩
   unfold bindB
   simp [HLN.out]
set_option maxRecDepth 100000 in
set_option maxHeartbeats 2000000 in
theorem ownq_any {d B : Nat} {t : Tm} {vs : List Value} {w : World} (ht : RTm w B (d + 1) t vs) (hB : B ≤ w.heap.size) (hlf : ∀ x ∈ t.l, Leaf x) (hn : t.l.length ≤ 16) :
   Calls Tryz.prog 31 #[.agg vs.toArray] w fun e w' => (∃ A c, e = .returned (.agg #[.int .i64 t.kind, .int .i64 t.n, .string t.s, .slice A t.l.length c]) ∧ TmOwn d w.heap.size w' t A c) ∧ Below w.heap.size w w' := by
 obtain ⟨i0, hi0, hz0, hz1, hz2⟩ := info_parts infoTm
 obtain ⟨At, ct, rfl, q1, q2, q3, q4, q5, hl⟩ := ht
 have HL : Hid (RL (TmR d) w B t.l At) := Lib.hid hl
 have HQ := Lib.hid (And.intro q3 (And.intro q4 q5))
 clear hl
 go_enter Tryz.func31, Tryz.ntmps31
 go_upto_region 1 with fail
 generalize hW : World.alloc _ _ = w1
 obtain ⟨hb, hz⟩ := al2 hW
 have b_a := n21 hW
 have b_r := n22 hW
 have HB1 := Lib.hid hb
 have hsz1 := hb.size
 have hlr := b_r.lt
 clear hW hz hb
 have hB1 := Nat.le_trans hB hsz1
 have HSR := Lib.hid (HL.out.keep HB1.out hB).src
 have k_a := b_a.cell
 have l_a := b_a.lt
 go_upto_region 2 with ((
   at_builtin
   refine wpList_append_R (R := TmR d) (e := 44) (base := w1.heap.size) (B := B) (xs := []) (ys := t.l) rfl (.const (.slice none 0 0)) (.tmp 4) 22 rfl (bytes := 56) Tryz.underlying22 hi0 hz0 hz1 hz2 rfl (show 0 < 4 by omega) (single_tm d) rfl (OwnR.nil _ _ _ _ _) rfl HSR.out rfl hB1 (by simp only [List.length_nil]; omega) (by omega) (Nat.le_refl _) ?_
   intro v wn_ hown hb
   obtain ⟨An, cn, hv⟩ : ∃ A c, v = .slice A t.l.length c := by have := hown.form; rw [List.nil_append] at this; exact this
   subst hv
   have HON := Lib.hid (hown.leaves (by rw [List.nil_append]; exact hlf))
   have HBN := Lib.hid hb
   have hszn := hb.size
   clear k_a l_a
   have k_a := (b_a.keep HBN.out (by omega)).cell
   have l_a := (b_a.keep HBN.out (by omega)).lt
   have f_a := (b_a.keep HBN.out (by omega)).free
   clear hown hb))
 have BA := Lib.hid ((b_a.keep HBN.out (by omega)).set_ 3 (.slice An t.l.length cn))
 have BR := Lib.hid ((b_r.keep HBN.out hlr).far (c := w.heap.size) (by omega) 3 (.slice An t.l.length cn))
 have HO2 := Lib.hid (HON.out.far (c := w.heap.size) (i := 3) (by omega) (Nat.zero_le _) (.slice An t.l.length cn))
 have HB2 : Hid (Below w.heap.size w (wn_.setCell ⟨w.heap.size, 3, none⟩ (.slice An t.l.length cn))) := Lib.hid ((HB1.out.trans (HBN.out.mono hsz1)).setCell (Nat.le_refl _) _)
 clear k_a l_a f_a
 generalize wn_.setCell ⟨w.heap.size, 3, none⟩ (.slice An t.l.length cn) = w2 at *
 have k_a := BA.out.cell
 have l_a := BA.out.lt
 have k_r := BR.out.cell
 have l_r := BR.out.lt
 have f_r := BR.out.free
 go_wp2_with fail
 have hbr := put4b BR.out (.int .i64 t.kind) (.int .i64 t.n) (.string t.s) (.slice An t.l.length cn)
 refine bodyPost_ret (ret_tm rfl rfl hbr rfl) rfl ?_
 have hto : TmOwn d w1.heap.size w2 t An cn := ⟨HO2.out, HQ.out.2.1, HQ.out.2.2, HQ.out.1, by omega⟩
 exact ⟨⟨An, cn, rfl, (hto.put4 (by omega) _ _ _ _).lower (by omega)⟩, put4u HB2.out (by omega) _ _ _ _⟩
open Go.ChangeShapes Go.WideShapes Go.ChangeAt Go.RowKit
theorem posL_at {L : List Bytes} {t : Bytes} {k : Nat} (h : L.Pairwise (· < ·)) (hk : k < L.length) (e : L[k] = t) : posL L t = k := by
 refine posL_eq (Nat.le_of_lt hk) (fun j hj hjk => ?_) (fun j hj hkj => ?_)
 · rw [← e]; exact List.pairwise_iff_getElem.1 h j k hj hk hjk
 · rcases Nat.lt_or_ge k j with h1 | h1
   · rw [← e]
     exact fun h2 => List.lt_asymm (List.pairwise_iff_getElem.1 h k j hk hj h1) h2
   · obtain rfl : j = k := by omega
     rw [e]; exact List.lt_irrefl t
theorem lookR_at {b : Bd} {t : Bytes} {k : Nat} {u : Tm} (h : BdOk b) (hk : k < b.names.length) (e : b.names[k] = t) (hu : b.terms[k]? = some u) : lookR b t = some u := by
 unfold lookR
 rw [if_pos (e ▸ List.getElem_mem hk), posL_at h.rise hk e]
 exact hu
set_option maxRecDepth 100000 in
set_option maxHeartbeats 4000000 in
theorem refLook_any {d B cn ct : Nat} {b : Bd} {An At : Option Addr} {name : ByteArray} {w : World} (hn : RL StrR w B (b.names.map mkS) An) (ht : RL (TmR (d + 1)) w B b.terms At) (hB : B ≤ w.heap.size) (hn1 : b.names.length * 8 ≤ 140737488351232) :
   Calls Tryz.prog 14 #[.agg (bdV An b.names.length cn At b.terms.length ct), .string name] w fun e w' => FoundE d w w' (if bindB b = true then lookR b (bs name) else none) e := by
 have HN := Lib.hid hn
 have HT := Lib.hid ht
 clear hn ht
 unfold bdV
 generalize hres : (if bindB b = true then lookR b (bs name) else none) = res
 have HRES := Lib.hid hres
 clear hres
 go_enter Tryz.func14, Tryz.ntmps14
 go_wp2_with fail
 generalize hW : World.alloc _ _ = w1
 obtain ⟨hb1, hz⟩ := al2 hW
 have b_b := n21 hW
 have b_r := n22 hW
 have HB1 := Lib.hid hb1
 clear hW hb1
 have hB1 := Nat.le_trans hB HB1.out.size
 go_loopw [11] (fun i wr => ∃ k : Nat, k ≤ b.names.length ∧ i = .int .i64 k ∧ Hid (Below w1.heap.size w1 wr) ∧ Hid (bindB b = true → ∀ j (hj : j < b.names.length), j < k → b.names[j] ≠ bs name)) (fun i _ => b.names.length - (intOf i).toNat)
 case atStart => exact ⟨0, Nat.zero_le _, rfl, Lib.hid (Below.refl _ _), Lib.hid (fun _ j _ h => absurd h (by omega))⟩
 case round =>
   obtain ⟨k, hk, rfl, HWR, HALL⟩ := hrel
   have BB := Lib.hid (b_b.later HWR.out)
   have BR := Lib.hid (b_r.later HWR.out)
   have HBw : Hid (Below w.heap.size w wr) := Lib.hid (bthen HB1.out HWR.out)
   have hsz := HWR.out.size
   have hBr : B ≤ wr.heap.size := by omega
   by_cases hlt : k < b.names.length
   · have HN1 := Lib.hid (HN.out.keep HBw.out hB)
     have HT1 := Lib.hid (HT.out.keep HBw.out hB)
     obtain ⟨bn_, offn, rfl, hobn, hcn⟩ := strs_at HN1.out (Below.refl _ _) hBr (by omega)
     have cn0 := hcn k hlt
     have k_b := BB.out.cell
     have l_b := BB.out.lt
     by_cases heq : b.names[k] = bs name
     · have e2 : ((mkS b.names[k]).toList == name.toList) = true := by rw [same_iff, bs_mkS]; simpa using heq
       have HEQ := Lib.hid heq
       clear hcn heq
       generalize mkS b.names[k] = nk at *
       go_wp2_with fail
       refine (refMayBind_any (cn := cn) (ct := ct) HN1.out HT1.out hBr).mono ?_
       rintro e w2 ⟨rfl, hb2⟩
       have HB2 := Lib.hid (bthen HWR.out hb2)
       have BB2 := Lib.hid (BB.out.later hb2)
       have BR2 := Lib.hid (BR.out.later hb2)
       have HB2w := Lib.hid (bthen HBw.out hb2)
       have hsz2 := hb2.size
       have HT2 := Lib.hid (HT1.out.keep hb2 hBr)
       have hB2 := Nat.le_trans hBr hsz2
       clear hb2 cn0 k_b l_b e2
       by_cases hbb : bindB b = true
       · have hok := (bindB_parts hbb).1
         have hlt2 : k < b.terms.length := by rw [← hok.len]; exact hlt
         have hu : b.terms[k]? = some b.terms[k] := List.getElem?_eq_getElem hlt2
         have HR : Hid (res = some b.terms[k]) := Lib.hid (by rw [← HRES.out, if_pos hbb]; exact lookR_at hok hlt HEQ.out hu)
         obtain ⟨hle, hl16⟩ := fixed_leaves (hok.fixed _ (List.getElem_mem hlt2))
         obtain ⟨bt_, offt, rfl, hobt⟩ := HT2.out.base (Below.refl _ _) hB2 (by omega)
         obtain ⟨x, vs, hx, hlen, hcell, hr⟩ := HT2.out.at_ (Below.refl _ _) hB2 hlt2
         obtain ⟨Ax, cx, rfl, g1, g2, g3, g4, g5, _⟩ := RTm.cells (show RTm w2 B (d + 1) x vs from hr)
         have c0 : w2.cell? ⟨bt_, offt + k * 4, none⟩ = some (.int .i64 x.kind) := hcell 0 _ rfl
         have c1 : w2.cell? ⟨bt_, offt + k * 4 + 1, none⟩ = some (.int .i64 x.n) := hcell 1 _ rfl
         have c2 : w2.cell? ⟨bt_, offt + k * 4 + 2, none⟩ = some (.string x.s) := hcell 2 _ rfl
         have c3 : w2.cell? ⟨bt_, offt + k * 4 + 3, none⟩ = some (.slice Ax x.l.length cx) := hcell 3 _ rfl
         have hxe : b.terms[k] = x := by
           rw [List.getElem?_eq_getElem hlt2] at hx
           simpa using hx
         rw [hxe] at HR hle hl16
         have HLE := Lib.hid hle
         have HX := Lib.hid hr
         rw [hbb]
         clear hcell hlen hx hr hxe hle hu hok hbb
         have k_b := BB2.out.cell
         have l_b := BB2.out.lt
         go_wp2_with fail
         refine (ownq_any (d := d) (t := x) (vs := [_, _, _, _]) HX.out hB2 HLE.out hl16).mono ?_
         rintro e w3 ⟨⟨A3, c3', rfl, hto⟩, hb3⟩
         have HTO := Lib.hid hto
         have HB3 := Lib.hid (bthen HB2w.out hb3)
         have BR3 := Lib.hid (BR2.out.later hb3)
         have hlr := BR2.out.lt
         have hwl := HB2w.out.size
         clear hto hb3 k_b l_b c0 c1 c2 c3
         have k_r := BR3.out.cell
         have l_r := BR3.out.lt
         have f_r := BR3.out.free
         go_wp2_with fail
         refine bodyPost_ret (ret_tm2 rfl rfl (put4b BR3.out (.int .i64 x.kind) (.int .i64 x.n) (.string x.s) (.slice A3 x.l.length c3')) rfl) rfl ?_
         rw [HR.out]
         exact ⟨⟨A3, c3', rfl, (HTO.out.put4 (by omega) _ _ _ _).lower (by omega)⟩, put4u HB3.out (by omega) _ _ _ _⟩
       · simp only [Bool.not_eq_true] at hbb
         rw [hbb]
         have HNB : Hid (bindB b = true → ∀ j (hj : j < b.names.length), j < k + 1 → b.names[j] ≠ bs name) := Lib.hid (fun h => by rw [hbb] at h; cases h)
         clear hbb
         have k_b := BB2.out.cell
         have l_b := BB2.out.lt
         go_wp2_with fail
         go_roundw
         case rel => exact ⟨k + 1, by omega, by go_num, HB2, HNB⟩
         case measure => simp [intOf]; omega
     · have e2 : ((mkS b.names[k]).toList == name.toList) = false := by rw [same_iff, bs_mkS]; simpa using heq
       have HNB : Hid (bindB b = true → ∀ j (hj : j < b.names.length), j < k + 1 → b.names[j] ≠ bs name) := Lib.hid (fun h j hj hjk => by
         rcases Nat.lt_or_ge j k with h1 | h1
         · exact HALL.out h j hj h1
         · obtain rfl : j = k := by omega
           exact heq)
       clear hcn heq
       generalize mkS b.names[k] = nk at *
       go_wp2_with fail
       go_roundw
       case rel => exact ⟨k + 1, by omega, by go_num, HWR, HNB⟩
       case measure => simp [intOf]; omega
   · have HR : Hid (res = none) := Lib.hid (by
       rw [← HRES.out]
       by_cases hbb : bindB b = true
       · rw [if_pos hbb]
         unfold lookR
         rw [if_neg (fun hm => by
           obtain ⟨j, hj, e⟩ := List.getElem_of_mem hm
           exact HALL.out hbb j hj (by omega) e)]
       · rw [if_neg hbb])
     have k_r := BR.out.cell
     have l_r := BR.out.lt
     have f_r := BR.out.free
     go_wp2_with fail
     refine bodyPost_ret (ret_tm2 rfl rfl (put4b BR.out (.int .i64 0) (.int .i64 0) (.string ⟨#[]⟩) (.slice none 0 0)) rfl) rfl ?_
     rw [HR.out]
     exact ⟨⟨none, 0, rfl, TmOwn.no⟩, put4u HBw.out (by omega) _ _ _ _⟩
end Go.Proofs.YtkdonhhbpacgmaaGreat
