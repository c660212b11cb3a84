/- The document's stack of terms: a slice of its own. -/
import Derived.Test.YtiplipdigabidaaGreatExpr1
import Derived.Test.YtiplipdigabidaaGreatOwnS
import Derived.Test.YtiplipdigabidaaGreatRef1
import Derived.Test.YtiplipdigabidaaGreatLight12
set_option linter.unusedVariables false
set_option linter.unusedSimpArgs false
namespace Go.Proofs.YtiplipdigabidaaGreat
open Go.ChangeShapes Go.WideShapes Go.ChangeAt Go.RowKit
set_option maxRecDepth 100000 in
set_option maxHeartbeats 2000000 in
theorem refMayBind_any {d B cn ct : Nat} {b : Bd} {An At : Option Addr} {w : World} (hn : RL StrR w B (b.names.map mkS) An) (ht : RL (TmR (d + 1)) w B b.terms At) (hB : B ≤ w.heap.size) :
   Calls Tryz.prog 26 #[.agg (bdV An b.names.length cn At b.terms.length ct)] w fun e w' => e = .returned (.bool (bindB b)) ∧ Below w.heap.size w w' := by
 have HN := Lib.hid hn
 have HT := Lib.hid ht
 clear hn ht
 unfold bdV
 go_enter Tryz.func26, Tryz.ntmps26
 by_cases hlen : b.names.length = b.terms.length
 · have ql : ((b.names.length : Int) != b.terms.length) = false := by simp [hlen]
   have HLN := Lib.hid hlen
   clear hlen
   by_cases hfew : b.names.length ≤ 32
   · have qf : decide ((32 : Int) < b.names.length) = false := by simp; omega
     go_wp2_with fail
     generalize hW : World.alloc _ _ = w1
     obtain ⟨hb1, hz⟩ := al1 hW
     have HBB := Lib.hid (n11 hW)
     have HB1 := Lib.hid hb1
     clear hW hb1
     go_loopw [21] (fun i wr => ∃ k : Nat, k ≤ b.names.length ∧ i = .int .i64 k ∧ Below w1.heap.size w1 wr ∧ ∀ i, i < k → bindAt b i = true) (fun i _ => b.names.length - (intOf i).toNat)
     case atStart => exact ⟨0, Nat.zero_le _, rfl, Below.refl _ _, fun i h => absurd h (by omega)⟩
     case round =>
       obtain ⟨k, hk, rfl, hbw, hall⟩ := hrel
       have HA := Lib.hid hall
       have HWR := Lib.hid hbw
       have HBR := Lib.hid (HBB.out.later hbw)
       have HBw : Hid (Below w.heap.size w wr) := Lib.hid (bthen HB1.out hbw)
       have hB1 : B ≤ w1.heap.size := by omega
       have hsz := hbw.size
       clear hall hbw
       by_cases hlt : k < b.names.length
       · have HN1 := Lib.hid (HN.out.keep HBw.out hB)
         have HT1 := Lib.hid (HT.out.keep HBw.out hB)
         have hBr : B ≤ wr.heap.size := by omega
         have hlt2 : k < b.terms.length := by rw [← HLN.out]; exact hlt
         obtain ⟨bn_, offn, rfl, hobn, hcn⟩ := strs_at HN1.out (Below.refl _ _) hBr (by omega)
         obtain ⟨bt_, offt, rfl, hobt⟩ := HT1.out.base (Below.refl _ _) hBr (by omega)
         obtain ⟨x, vs, hx, hlen, hcell, hr⟩ := HT1.out.at_ (Below.refl _ _) hBr hlt2
         obtain ⟨Ax, cx, rfl, g1, g2, g3, g4, g5, _⟩ := RTm.cells (show RTm wr B (d + 1) x vs from hr)
         have c0 : wr.cell? ⟨bt_, offt + k * 4, none⟩ = some (.int .i64 x.kind) := hcell 0 _ rfl
         have c1 : wr.cell? ⟨bt_, offt + k * 4 + 1, none⟩ = some (.int .i64 x.n) := hcell 1 _ rfl
         have c2 : wr.cell? ⟨bt_, offt + k * 4 + 2, none⟩ = some (.string x.s) := hcell 2 _ rfl
         have c3 : wr.cell? ⟨bt_, offt + k * 4 + 3, none⟩ = some (.slice Ax x.l.length cx) := hcell 3 _ rfl
         have cn0 := hcn k hlt
         have cn1 := hcn (k - 1) (by omega)
         have k_b := HBR.out.cell
         have l_b := HBR.out.lt
         have hxe : b.terms[k] = x := by
           rw [List.getElem?_eq_getElem hlt2] at hx
           simpa using hx
         obtain ⟨y, vy, hy, _, _, hry⟩ := HN1.out.at_ (Below.refl _ _) hBr (k := k) (by simpa using hlt)
         have hye : y = mkS b.names[k] := by simpa [hlt, eq_comm] using hy
         have hsz16 : (mkS b.names[k]).size ≤ 140737488351232 := hye ▸ (show StrR.rd wr B y vy from hry).2
         have HX := Lib.hid hr
         have HAT : Hid (bindAt b k = (nameB (bs (mkS b.names[k])) && fixedB x && (decide (k = 0) || decide (bs (mkS b.names[k - 1]) < bs (mkS b.names[k]))))) := Lib.hid (by
           unfold bindAt
           rw [List.getElem?_eq_getElem hlt, List.getElem?_eq_getElem hlt2, List.getElem?_eq_getElem (show k - 1 < b.names.length by omega), hxe, bs_mkS, bs_mkS])
         clear hcell hlen hcn hx hr hry hy hye hxe
         generalize mkS b.names[k] = nk at *
         generalize mkS b.names[k - 1] = np at *
         have HNO : Hid (bindAt b k = false → bindB b = false) := Lib.hid (fun h => by
           rw [Bool.eq_false_iff]
           intro h2
           unfold bindB at h2
           rw [Bool.and_eq_true, List.all_eq_true] at h2
           have := h2.2 k (by simpa using hlt)
           rw [h] at this
           cases this)
         by_cases hnm : nameB (bs nk) = true
         · by_cases hfx : fixedB x = true
           · have hk1 : (k : Int) - 1 = ((k - 1 : Nat) : Int) ∨ k = 0 := by omega
             have hle : (!Op.bytesLess np.toList nk.toList) = !decide (bs np < bs nk) := by rw [bytesLess_eq, ByteArray.toList_eq, ByteArray.toList_eq]
             rcases Nat.eq_zero_or_pos k with h0 | h0
             · have hAT : bindAt b k = true := by rw [HAT.out, hnm, hfx, decide_eq_true h0]; rfl
               have HAT2 := Lib.hid hAT
               have H0 := Lib.hid h0
               clear h0 hAT hle hk1
               go_wp2_with (first
                 | (go_at_call 52; refine (refName_any _ _ (by unfold maxLen; omega)).mono ?_; rintro e w' ⟨rfl, rfl⟩)
                 | (go_at_call 18; refine (refFixed_any HX.out hBr).mono ?_; rintro e w2 ⟨rfl, hb2⟩; have cn2 := (hb2.cell (p := ⟨bn_, offn + (k - 1), none⟩) hobn).trans cn1; have k_b2 := (HBR.out.later hb2).cell; have HB2 := Lib.hid (bthen HBw.out hb2); have HBR2 := Lib.hid (Below.trans HWR.out (hb2.mono hsz)); clear hb2))
               · exact absurd H0.out (by omega)
               all_goals
                 go_roundw
                 case rel => exact ⟨k + 1, by omega, by go_num, HBR2.out, fun i hi => by
                   rcases Nat.lt_or_ge i k with h1 | h1
                   · exact HA.out i h1
                   · obtain rfl : i = k := by omega
                     exact HAT2.out⟩
                 case measure => simp [intOf]; omega
             · have hk2 : (k : Int) - 1 = ((k - 1 : Nat) : Int) := by omega
               have q0 : decide ((0 : Int) < k) = true := by simp; omega
               clear hk1
               have HLE := Lib.hid hle
               clear hle
               go_wp2_with (first
                 | (go_at_call 52; refine (refName_any _ _ (by unfold maxLen; omega)).mono ?_; rintro e w' ⟨rfl, rfl⟩)
                 | (go_at_call 18; refine (refFixed_any HX.out hBr).mono ?_; rintro e w2 ⟨rfl, hb2⟩; have cn2 := (hb2.cell (p := ⟨bn_, offn + (k - 1), none⟩) hobn).trans cn1; have k_b2 := (HBR.out.later hb2).cell; have HB2 := Lib.hid (bthen HBw.out hb2); have HBR2 := Lib.hid (Below.trans HWR.out (hb2.mono hsz)); clear hb2))
               · rename_i hq
                 go_ret
                 refine ⟨ret_bool ?_, HB2.out⟩
                 rw [HLE.out] at hq
                 have hq2 : decide (bs np < bs nk) = false := by simpa using hq
                 have hq1 : decide (k = 0) = false := by simp; omega
                 rw [HNO.out (by rw [HAT.out, hnm, hfx, hq1, hq2]; rfl)]
               · rename_i hq
                 rw [HLE.out] at hq
                 have hq2 : decide (bs np < bs nk) = true := by simpa using hq
                 have HAT2 : Hid (bindAt b k = true) := Lib.hid (by rw [HAT.out, hnm, hfx, hq2, Bool.or_true]; rfl)
                 clear hq hq2
                 go_roundw
                 case rel => exact ⟨k + 1, by omega, by go_num, HBR2.out, fun i hi => by
                   rcases Nat.lt_or_ge i k with h1 | h1
                   · exact HA.out i h1
                   · obtain rfl : i = k := by omega
                     exact HAT2.out⟩
                 case measure => simp [intOf]; omega
           · have hfx' : fixedB x = false := by simpa using hfx
             clear hfx
             go_wp2_with (first
                 | (go_at_call 52; refine (refName_any _ _ (by unfold maxLen; omega)).mono ?_; rintro e w' ⟨rfl, rfl⟩)
                 | (go_at_call 18; refine (refFixed_any HX.out hBr).mono ?_; rintro e w2 ⟨rfl, hb2⟩; have cn2 := (hb2.cell (p := ⟨bn_, offn + (k - 1), none⟩) hobn).trans cn1; have k_b2 := (HBR.out.later hb2).cell; have HB2 := Lib.hid (bthen HBw.out hb2); have HBR2 := Lib.hid (Below.trans HWR.out (hb2.mono hsz)); clear hb2))
             go_ret
             refine ⟨ret_bool ?_, HB2.out⟩
             rw [HNO.out (by rw [HAT.out, hnm, hfx']; rfl)]
         · have hnm' : nameB (bs nk) = false := by simpa using hnm
           clear hnm
           go_wp2_with (first
                 | (go_at_call 52; refine (refName_any _ _ (by unfold maxLen; omega)).mono ?_; rintro e w' ⟨rfl, rfl⟩)
                 | (go_at_call 18; refine (refFixed_any HX.out hBr).mono ?_; rintro e w2 ⟨rfl, hb2⟩; have cn2 := (hb2.cell (p := ⟨bn_, offn + (k - 1), none⟩) hobn).trans cn1; have k_b2 := (HBR.out.later hb2).cell; have HB2 := Lib.hid (bthen HBw.out hb2); have HBR2 := Lib.hid (Below.trans HWR.out (hb2.mono hsz)); clear hb2))
           go_ret
           refine ⟨ret_bool ?_, HBw.out⟩
           rw [HNO.out (by rw [HAT.out, hnm']; rfl)]
       · go_wp2_with fail
         go_ret
         obtain rfl : k = b.names.length := by omega
         refine ⟨ret_bool ?_, HBw.out⟩
         unfold bindB
         rw [eq_comm, Bool.and_eq_true, Bool.and_eq_true, List.all_eq_true]
         exact ⟨⟨decide_eq_true HLN.out, decide_eq_true hfew⟩, fun i hi => HA.out i (by simpa using hi)⟩
   · have qf : decide ((32 : Int) < b.names.length) = true := by simp; omega
     go_wp2_with fail
     go_ret
     refine ⟨ret_bool ?_, below_new rfl⟩
     unfold bindB
     simp [hfew]
 · have ql : ((b.names.length : Int) != b.terms.length) = true := by simp; omega
   have HLN := Lib.hid hlen
   clear hlen
   go_wp2_with fail
   go_ret
   refine ⟨ret_bool ?_, below_new rfl⟩
   unfold bindB
   simp [HLN.out]
set_option maxRecDepth 100000 in
set_option maxHeartbeats 2000000 in
theorem ownq_any {d B : Nat} {t : Tm} {vs : List Value} {w : World} (ht : RTm w B (d + 1) t vs) (hB : B ≤ w.heap.size) (hlf : ∀ x ∈ t.l, Leaf x) (hn : t.l.length ≤ 16) :
   Calls Tryz.prog 54 #[.agg vs.toArray] w fun e w' => (∃ A c, e = .returned (.agg #[.int .i64 t.kind, .int .i64 t.n, .string t.s, .slice A t.l.length c]) ∧ TmOwn d w.heap.size w' t A c) ∧ Below w.heap.size w w' := by
 obtain ⟨i0, hi0, hz0, hz1, hz2⟩ := info_parts infoTm
 obtain ⟨At, ct, rfl, q1, q2, q3, q4, q5, hl⟩ := ht
 have HL : Hid (RL (TmR d) w B t.l At) := Lib.hid hl
 have HQ := Lib.hid (And.intro q3 (And.intro q4 q5))
 clear hl
 go_enter Tryz.func54, Tryz.ntmps54
 go_upto_region 1 with fail
 generalize hW : World.alloc _ _ = w1
 obtain ⟨hb, hz⟩ := al2 hW
 have b_a := n21 hW
 have b_r := n22 hW
 have HB1 := Lib.hid hb
 have hsz1 := hb.size
 have hlr := b_r.lt
 clear hW hz hb
 have hB1 := Nat.le_trans hB hsz1
 have HSR := Lib.hid (HL.out.keep HB1.out hB).src
 have k_a := b_a.cell
 have l_a := b_a.lt
 go_upto_region 2 with ((
   at_builtin
   refine wpList_append_R (R := TmR d) (e := 33) (base := w1.heap.size) (B := B) (xs := []) (ys := t.l) rfl (.const (.slice none 0 0)) (.tmp 4) 26 rfl (bytes := 56) Tryz.underlying26 hi0 hz0 hz1 hz2 rfl (show 0 < 4 by omega) (single_tm d) rfl (OwnR.nil _ _ _ _ _) rfl HSR.out rfl hB1 (by simp only [List.length_nil]; omega) (by omega) (Nat.le_refl _) ?_
   intro v wn_ hown hb
   obtain ⟨An, cn, hv⟩ : ∃ A c, v = .slice A t.l.length c := by have := hown.form; rw [List.nil_append] at this; exact this
   subst hv
   have HON := Lib.hid (hown.leaves (by rw [List.nil_append]; exact hlf))
   have HBN := Lib.hid hb
   have hszn := hb.size
   clear k_a l_a
   have k_a := (b_a.keep HBN.out (by omega)).cell
   have l_a := (b_a.keep HBN.out (by omega)).lt
   have f_a := (b_a.keep HBN.out (by omega)).free
   clear hown hb))
 have BA := Lib.hid ((b_a.keep HBN.out (by omega)).set_ 3 (.slice An t.l.length cn))
 have BR := Lib.hid ((b_r.keep HBN.out hlr).far (c := w.heap.size) (by omega) 3 (.slice An t.l.length cn))
 have HO2 := Lib.hid (HON.out.far (c := w.heap.size) (i := 3) (by omega) (Nat.zero_le _) (.slice An t.l.length cn))
 have HB2 : Hid (Below w.heap.size w (wn_.setCell ⟨w.heap.size, 3, none⟩ (.slice An t.l.length cn))) := Lib.hid ((HB1.out.trans (HBN.out.mono hsz1)).setCell (Nat.le_refl _) _)
 clear k_a l_a f_a
 generalize wn_.setCell ⟨w.heap.size, 3, none⟩ (.slice An t.l.length cn) = w2 at *
 have k_a := BA.out.cell
 have l_a := BA.out.lt
 have k_r := BR.out.cell
 have l_r := BR.out.lt
 have f_r := BR.out.free
 go_wp2_with fail
 have hbr := put4b BR.out (.int .i64 t.kind) (.int .i64 t.n) (.string t.s) (.slice An t.l.length cn)
 refine bodyPost_ret (ret_tm rfl rfl hbr rfl) rfl ?_
 have hto : TmOwn d w1.heap.size w2 t An cn := ⟨HO2.out, HQ.out.2.1, HQ.out.2.2, HQ.out.1, by omega⟩
 exact ⟨⟨An, cn, rfl, (hto.put4 (by omega) _ _ _ _).lower (by omega)⟩, put4u HB2.out (by omega) _ _ _ _⟩
open Go.ChangeShapes Go.WideShapes Go.ChangeAt Go.RowKit
theorem posL_at {L : List Bytes} {t : Bytes} {k : Nat} (h : L.Pairwise (· < ·)) (hk : k < L.length) (e : L[k] = t) : posL L t = k := by
 refine posL_eq (Nat.le_of_lt hk) (fun j hj hjk => ?_) (fun j hj hkj => ?_)
 · rw [← e]; exact List.pairwise_iff_getElem.1 h j k hj hk hjk
 · rcases Nat.lt_or_ge k j with h1 | h1
   · rw [← e]
     exact fun h2 => List.lt_asymm (List.pairwise_iff_getElem.1 h k j hk hj h1) h2
   · obtain rfl : j = k := by omega
     rw [e]; exact List.lt_irrefl t
theorem lookR_at {b : Bd} {t : Bytes} {k : Nat} {u : Tm} (h : BdOk b) (hk : k < b.names.length) (e : b.names[k] = t) (hu : b.terms[k]? = some u) : lookR b t = some u := by
 unfold lookR
 rw [if_pos (e ▸ List.getElem_mem hk), posL_at h.rise hk e]
 exact hu
set_option maxRecDepth 100000 in
set_option maxHeartbeats 4000000 in
theorem refLook_any {d B cn ct : Nat} {b : Bd} {An At : Option Addr} {name : ByteArray} {w : World} (hn : RL StrR w B (b.names.map mkS) An) (ht : RL (TmR (d + 1)) w B b.terms At) (hB : B ≤ w.heap.size) (hn1 : b.names.length * 8 ≤ 140737488351232) :
   Calls Tryz.prog 24 #[.agg (bdV An b.names.length cn At b.terms.length ct), .string name] w fun e w' => FoundE d w w' (if bindB b = true then lookR b (bs name) else none) e := by
 have HN := Lib.hid hn
 have HT := Lib.hid ht
 clear hn ht
 unfold bdV
 generalize hres : (if bindB b = true then lookR b (bs name) else none) = res
 have HRES := Lib.hid hres
 clear hres
 go_enter Tryz.func24, Tryz.ntmps24
 go_wp2_with fail
 generalize hW : World.alloc _ _ = w1
 obtain ⟨hb1, hz⟩ := al2 hW
 have b_b := n21 hW
 have b_r := n22 hW
 have HB1 := Lib.hid hb1
 clear hW hb1
 have hB1 := Nat.le_trans hB HB1.out.size
 go_loopw [11] (fun i wr => ∃ k : Nat, k ≤ b.names.length ∧ i = .int .i64 k ∧ Hid (Below w1.heap.size w1 wr) ∧ Hid (bindB b = true → ∀ j (hj : j < b.names.length), j < k → b.names[j] ≠ bs name)) (fun i _ => b.names.length - (intOf i).toNat)
 case atStart => exact ⟨0, Nat.zero_le _, rfl, Lib.hid (Below.refl _ _), Lib.hid (fun _ j _ h => absurd h (by omega))⟩
 case round =>
   obtain ⟨k, hk, rfl, HWR, HALL⟩ := hrel
   have BB := Lib.hid (b_b.later HWR.out)
   have BR := Lib.hid (b_r.later HWR.out)
   have HBw : Hid (Below w.heap.size w wr) := Lib.hid (bthen HB1.out HWR.out)
   have hsz := HWR.out.size
   have hBr : B ≤ wr.heap.size := by omega
   by_cases hlt : k < b.names.length
   · have HN1 := Lib.hid (HN.out.keep HBw.out hB)
     have HT1 := Lib.hid (HT.out.keep HBw.out hB)
     obtain ⟨bn_, offn, rfl, hobn, hcn⟩ := strs_at HN1.out (Below.refl _ _) hBr (by omega)
     have cn0 := hcn k hlt
     have k_b := BB.out.cell
     have l_b := BB.out.lt
     by_cases heq : b.names[k] = bs name
     · have e2 : ((mkS b.names[k]).toList == name.toList) = true := by rw [same_iff, bs_mkS]; simpa using heq
       have HEQ := Lib.hid heq
       clear hcn heq
       generalize mkS b.names[k] = nk at *
       go_wp2_with fail
       refine (refMayBind_any (cn := cn) (ct := ct) HN1.out HT1.out hBr).mono ?_
       rintro e w2 ⟨rfl, hb2⟩
       have HB2 := Lib.hid (bthen HWR.out hb2)
       have BB2 := Lib.hid (BB.out.later hb2)
       have BR2 := Lib.hid (BR.out.later hb2)
       have HB2w := Lib.hid (bthen HBw.out hb2)
       have hsz2 := hb2.size
       have HT2 := Lib.hid (HT1.out.keep hb2 hBr)
       have hB2 := Nat.le_trans hBr hsz2
       clear hb2 cn0 k_b l_b e2
       by_cases hbb : bindB b = true
       · have hok := (bindB_parts hbb).1
         have hlt2 : k < b.terms.length := by rw [← hok.len]; exact hlt
         have hu : b.terms[k]? = some b.terms[k] := List.getElem?_eq_getElem hlt2
         have HR : Hid (res = some b.terms[k]) := Lib.hid (by rw [← HRES.out, if_pos hbb]; exact lookR_at hok hlt HEQ.out hu)
         obtain ⟨hle, hl16⟩ := fixed_leaves (hok.fixed _ (List.getElem_mem hlt2))
         obtain ⟨bt_, offt, rfl, hobt⟩ := HT2.out.base (Below.refl _ _) hB2 (by omega)
         obtain ⟨x, vs, hx, hlen, hcell, hr⟩ := HT2.out.at_ (Below.refl _ _) hB2 hlt2
         obtain ⟨Ax, cx, rfl, g1, g2, g3, g4, g5, _⟩ := RTm.cells (show RTm w2 B (d + 1) x vs from hr)
         have c0 : w2.cell? ⟨bt_, offt + k * 4, none⟩ = some (.int .i64 x.kind) := hcell 0 _ rfl
         have c1 : w2.cell? ⟨bt_, offt + k * 4 + 1, none⟩ = some (.int .i64 x.n) := hcell 1 _ rfl
         have c2 : w2.cell? ⟨bt_, offt + k * 4 + 2, none⟩ = some (.string x.s) := hcell 2 _ rfl
         have c3 : w2.cell? ⟨bt_, offt + k * 4 + 3, none⟩ = some (.slice Ax x.l.length cx) := hcell 3 _ rfl
         have hxe : b.terms[k] = x := by
           rw [List.getElem?_eq_getElem hlt2] at hx
           simpa using hx
         rw [hxe] at HR hle hl16
         have HLE := Lib.hid hle
         have HX := Lib.hid hr
         rw [hbb]
         clear hcell hlen hx hr hxe hle hu hok hbb
         have k_b := BB2.out.cell
         have l_b := BB2.out.lt
         go_wp2_with fail
         refine (ownq_any (d := d) (t := x) (vs := [_, _, _, _]) HX.out hB2 HLE.out hl16).mono ?_
         rintro e w3 ⟨⟨A3, c3', rfl, hto⟩, hb3⟩
         have HTO := Lib.hid hto
         have HB3 := Lib.hid (bthen HB2w.out hb3)
         have BR3 := Lib.hid (BR2.out.later hb3)
         have hlr := BR2.out.lt
         have hwl := HB2w.out.size
         clear hto hb3 k_b l_b c0 c1 c2 c3
         have k_r := BR3.out.cell
         have l_r := BR3.out.lt
         have f_r := BR3.out.free
         go_wp2_with fail
         refine bodyPost_ret (ret_tm2 rfl rfl (put4b BR3.out (.int .i64 x.kind) (.int .i64 x.n) (.string x.s) (.slice A3 x.l.length c3')) rfl) rfl ?_
         rw [HR.out]
         exact ⟨⟨A3, c3', rfl, (HTO.out.put4 (by omega) _ _ _ _).lower (by omega)⟩, put4u HB3.out (by omega) _ _ _ _⟩
       · simp only [Bool.not_eq_true] at hbb
         rw [hbb]
         have HNB : Hid (bindB b = true → ∀ j (hj : j < b.names.length), j < k + 1 → b.names[j] ≠ bs name) := Lib.hid (fun h => by rw [hbb] at h; cases h)
         clear hbb
         have k_b := BB2.out.cell
         have l_b := BB2.out.lt
         go_wp2_with fail
         go_roundw
         case rel => exact ⟨k + 1, by omega, by go_num, HB2, HNB⟩
         case measure => simp [intOf]; omega
     · have e2 : ((mkS b.names[k]).toList == name.toList) = false := by rw [same_iff, bs_mkS]; simpa using heq
       have HNB : Hid (bindB b = true → ∀ j (hj : j < b.names.length), j < k + 1 → b.names[j] ≠ bs name) := Lib.hid (fun h j hj hjk => by
         rcases Nat.lt_or_ge j k with h1 | h1
         · exact HALL.out h j hj h1
         · obtain rfl : j = k := by omega
           exact heq)
       clear hcn heq
       generalize mkS b.names[k] = nk at *
       go_wp2_with fail
       go_roundw
       case rel => exact ⟨k + 1, by omega, by go_num, HWR, HNB⟩
       case measure => simp [intOf]; omega
   · have HR : Hid (res = none) := Lib.hid (by
       rw [← HRES.out]
       by_cases hbb : bindB b = true
       · rw [if_pos hbb]
         unfold lookR
         rw [if_neg (fun hm => by
           obtain ⟨j, hj, e⟩ := List.getElem_of_mem hm
           exact HALL.out hbb j hj (by omega) e)]
       · rw [if_neg hbb])
     have k_r := BR.out.cell
     have l_r := BR.out.lt
     have f_r := BR.out.free
     go_wp2_with fail
     refine bodyPost_ret (ret_tm2 rfl rfl (put4b BR.out (.int .i64 0) (.int .i64 0) (.string ⟨#[]⟩) (.slice none 0 0)) rfl) rfl ?_
     rw [HR.out]
     exact ⟨⟨none, 0, rfl, TmOwn.no⟩, put4u HBw.out (by omega) _ _ _ _⟩
open Go.ChangeShapes Go.WideShapes Go.ChangeAt Go.RowKit
structure StkQ (base D : Nat) (w : World) (xs : List SV) (A : Option Addr) (c : Nat) : Prop where
 own : OwnR SvR 33 w base 0 (.slice A xs.length c) xs
 tms : ∀ x ∈ xs, TmAt D w x
 sep : ∀ x ∈ xs, ∀ a, x.a = some a → ∀ b, A = some b → a.block ≠ b.block
 lt : ∀ x ∈ xs, ∀ a, x.a = some a → base ≤ a.block ∧ a.block < w.heap.size
section
variable {base D c : Nat} {w w' w2 : World} {xs : List SV} {x y : SV} {A : Option Addr}
theorem StkQ.nil (base D : Nat) (w : World) : StkQ base D w [] none 0 := ⟨OwnR.nil _ _ _ _ _, by simp, by simp, by simp⟩
theorem StkQ.later (h : StkQ base D w xs A c) (hb : Below w.heap.size w w') : StkQ base D w' xs A c :=
 ⟨h.own.later hb (Nat.zero_le _), fun x hx => (h.tms x hx).later hb, h.sep, fun x hx a ha => ⟨(h.lt x hx a ha).1, Nat.lt_of_lt_of_le (h.lt x hx a ha).2 hb.size⟩⟩
theorem StkQ.row (h : StkQ base D w xs A c) : ∀ b, A = some b → base ≤ b.block ∧ b.block < w.heap.size := by
 intro b hb
 subst hb
 obtain ⟨cells, how, _⟩ := h.own
 exact how.lt b.block rfl
theorem StkQ.apart (h : StkQ base D w xs A c) {n : Nat} (hn : w.heap.size ≤ n) (hx : ∀ a, x.a = some a → n ≤ a.block) : ∀ a, x.a = some a → ∀ b, A = some b → a.block ≠ b.block := by
 intro a ha b hb
 have h1 := hx a ha
 have h2 := (h.row b hb).2
 omega
theorem StkQ.app (h : StkQ base D w xs A c) (hx : TmAt D w x) (hap : ∀ a, x.a = some a → ∀ b, A = some b → a.block ≠ b.block) (hlt : ∀ a, x.a = some a → base ≤ a.block ∧ a.block < w.heap.size) (hbase : base ≤ w.heap.size)
   {A2 : Option Addr} {c2 : Nat} (ho : OwnR SvR 33 w2 base 0 (.slice A2 (xs.length + 1) c2) (xs ++ [x])) (hg : w.grownBy w2 (Value.slice A xs.length c).ownBlock) (hf : FreshV w (.slice A xs.length c) (.slice A2 (xs.length + 1) c2)) :
   StkQ base D w2 (xs ++ [x]) A2 c2 ∧ Below base w w2 := by
 have hb : Below base w w2 := (Below.refl base w).grown hg hbase (fun k hk => by
   obtain ⟨cells, how, _⟩ := h.own
   exact (how.lt k hk).1)
 have hb0 : Below 0 w w2 := hb.mono (Nat.zero_le _)
 have key : ∀ y, TmAt D w y → (∀ a, y.a = some a → ∀ b, A = some b → a.block ≠ b.block) → (∀ a, y.a = some a → base ≤ a.block ∧ a.block < w.heap.size) → TmAt D w2 y ∧ ∀ a, y.a = some a → (base ≤ a.block ∧ a.block < w2.heap.size) ∧ ∀ b, A2 = some b → a.block ≠ b.block := by
   intro y hy hs hl
   refine ⟨hy.keep hb0 fun a ha => hg.block _ (hl a ha).2 ?_, fun a ha => ⟨⟨(hl a ha).1, Nat.lt_of_lt_of_le (hl a ha).2 hb.size⟩, fun b hb2 e => ?_⟩⟩
   · intro e
     rcases hA : A with _ | b
     · rw [hA] at e; cases e
     · rw [hA] at e
       simp only [Value.ownBlock, Option.some.injEq] at e
       exact hs a ha b hA e
   · subst hb2
     rcases hf with hf | ⟨k, hk, hk2⟩
     · rcases hA : A with _ | a2
       · rw [hA] at hf; simp [Value.ownBlock] at hf
       · rw [hA] at hf
         simp only [Value.ownBlock, Option.some.injEq] at hf
         exact hs a ha a2 hA (e.trans hf)
     · simp only [Value.ownBlock, Option.some.injEq] at hk
       have := (hl a ha).2
       omega
 have hall : ∀ y ∈ xs ++ [x], TmAt D w2 y ∧ ∀ a, y.a = some a → (base ≤ a.block ∧ a.block < w2.heap.size) ∧ ∀ b, A2 = some b → a.block ≠ b.block := by
   intro y hy
   rcases List.mem_append.1 hy with h1 | h1
   · exact key y (h.tms y h1) (h.sep y h1) (h.lt y h1)
   · rw [List.mem_singleton] at h1
     subst h1
     exact key y hx hap hlt
 refine ⟨⟨?_, fun y hy => (hall y hy).1, fun y hy a ha => ((hall y hy).2 a ha).2, fun y hy a ha => ((hall y hy).2 a ha).1⟩, hb⟩
 rw [List.length_append, List.length_singleton]
 exact ho
theorem StkQ.top (h : StkQ base D w (xs ++ [y]) A c) : ∃ g, A = some ⟨g, 0, none⟩ ∧ g < w.heap.size ∧ base ≤ g ∧ xs.length + 1 ≤ c ∧ c ≤ 9223372036854775807 ∧ (∀ j u, y.cs[j]? = some u → w.cell? ⟨g, xs.length * 4 + j, none⟩ = some u) ∧ (∀ o, w.frozen? ⟨g, o, none⟩ = false) ∧
   ∀ x : SV, TmAt D w x → (∀ a, x.a = some a → a.block ≠ g) → (∀ a, x.a = some a → base ≤ a.block ∧ a.block < w.heap.size) →
     StkQ base D ((((w.setCell ⟨g, xs.length * 4, none⟩ (.int .i64 x.t.kind)).setCell ⟨g, xs.length * 4 + 1, none⟩ (.int .i64 x.t.n)).setCell ⟨g, xs.length * 4 + 2, none⟩ (.string x.t.s)).setCell ⟨g, xs.length * 4 + 3, none⟩ (.slice x.a x.t.l.length x.c)) (xs ++ [x]) A c := by
 obtain ⟨g, c', e, h1, h2, h3, h4, h5, h6, h7⟩ := h.own.last
 rw [List.length_append, List.length_singleton] at e
 simp only [Value.slice.injEq, true_and] at e
 obtain ⟨rfl, rfl⟩ := e
 refine ⟨g, rfl, h1, h2, h3, h4, h5, h6, fun x hx hap hlt => ?_⟩
 have hkeep : ∀ z, TmAt D w z → (∀ a, z.a = some a → a.block ≠ g) → TmAt D ((((w.setCell ⟨g, xs.length * 4, none⟩ (.int .i64 x.t.kind)).setCell ⟨g, xs.length * 4 + 1, none⟩ (.int .i64 x.t.n)).setCell ⟨g, xs.length * 4 + 2, none⟩ (.string x.t.s)).setCell ⟨g, xs.length * 4 + 3, none⟩ (.slice x.a x.t.l.length x.c)) z := by
   intro z hz hne
   refine hz.keep (((((Below.refl 0 w).setCell (Nat.zero_le _) _).setCell (Nat.zero_le _) _).setCell (Nat.zero_le _) _).setCell (Nat.zero_le _) _) fun a ha => ?_
   rw [Below.heap_setCell _ ⟨g, xs.length * 4 + 3, none⟩ _ a.block (hne a ha), Below.heap_setCell _ ⟨g, xs.length * 4 + 2, none⟩ _ a.block (hne a ha), Below.heap_setCell _ ⟨g, xs.length * 4 + 1, none⟩ _ a.block (hne a ha), Below.heap_setCell _ ⟨g, xs.length * 4, none⟩ _ a.block (hne a ha)]
 have hold : ∀ z ∈ xs, (∀ a, z.a = some a → a.block ≠ g) := fun z hz a ha => h.sep z (List.mem_append_left _ hz) a ha _ rfl
 refine ⟨?_, fun z hz => ?_, fun z hz a ha b hb => ?_, fun z hz a ha => ?_⟩
 · have := h7 x
   rw [List.length_append, List.length_singleton] at this ⊢
   exact this
 · rcases List.mem_append.1 hz with h1 | h1
   · exact hkeep z (h.tms z (List.mem_append_left _ h1)) (hold z h1)
   · rw [List.mem_singleton] at h1; subst h1; exact hkeep z hx hap
 · simp only [Option.some.injEq] at hb
   subst hb
   rcases List.mem_append.1 hz with h1 | h1
   · exact hold z h1 a ha
   · rw [List.mem_singleton] at h1; subst h1; exact hap a ha
 · simp only [World.size_setCell]
   rcases List.mem_append.1 hz with h1 | h1
   · exact h.lt z (List.mem_append_left _ h1) a ha
   · rw [List.mem_singleton] at h1; subst h1; exact hlt a ha
theorem StkQ.drop (h : StkQ base D w (xs ++ [y]) A c) : StkQ base D w xs A c := by
 refine ⟨?_, fun z hz => h.tms z (List.mem_append_left _ hz), fun z hz => h.sep z (List.mem_append_left _ hz), fun z hz => h.lt z (List.mem_append_left _ hz)⟩
 obtain ⟨cells', ho', hf'⟩ := h.own
 rcases ho'.2 with ⟨h1', h2'⟩ | ⟨g', cap', cur', hv', hg', hh', k1', k2', k3', k4'⟩
 · simp at h2'
 · simp only [Value.slice.injEq] at hv'
   obtain ⟨rfl, _, rfl⟩ := hv'
   rw [List.length_append, List.length_singleton] at k1'
   have hl' : cells'.length = (xs.length + 1) * 4 := by have := hf'.1; simpa [SvR] using this
   refine ⟨cells'.take (xs.length * 4), ⟨by simp only [SvR, List.length_take]; omega, .inr ⟨g', c, cur', rfl, hg', hh', by omega, k2', k3', ?_⟩⟩, ?_⟩
   · have e2 : (xs ++ [y]).length * SvR.k = (xs.length + 1) * 4 := by simp [SvR]
     rw [e2] at k4'
     rw [← k4', List.take_take]
     congr 1
     simp [SvR]
   · have := hf'.take xs.length
     simpa [SvR] using this
end
theorem map_snoc (ys : List SV) (x : SV) : (ys ++ [x]).map SV.t = ys.map SV.t ++ [x.t] := by simp
theorem wpList_append_F {α : Type} {R : Reader α} {P : Program} {w : World} {e : TypeId} {base : Nat} {v : Value} {xs ys : List α} {ops : Array Oper} {rest : List Oper} {o : Oper} {a : Act} {Q : Exit → Act → World → Prop} (hgd : o.guard = none) (s x : Operand) (t : TypeId)
   (ho : o.op = .call { callee := .builtin .append, args := #[s, x], argTypes := #[t, t] })
   {i : TypeInfo} {z : Value} {bytes : Nat} (ht : P.underlying t = some (.slice e)) (hi : P.info? e = some i) (hz : i.zero = some z)
   (hsize : i.size = R.k) (hby : i.bytes = bytes) (hzs : z.cells.size = R.k) (hsz : 0 < R.k) (hs1 : Single R)
   (hs : a.eval s = v) (hown : OwnR R e w base 0 v xs) {ad : Addr} {m c : Nat} (hx : a.eval x = .slice (some ad) m c) (hsrc : SrcR R w 0 (some ad) ys) (hm : m = ys.length)
   (hbytes : (xs.length + ys.length) * bytes ≤ 140737488355328) (hb1 : 1 ≤ bytes) (hbase : base ≤ w.heap.size)
   (h : ∀ v' w', OwnR R e w' base 0 v' (xs ++ ys) → w.grownBy w' v.ownBlock → FreshV w v v' → wpList P ops Q rest (a.put o.dst v') w') : wpList P ops Q (o :: rest) a w :=
 wpList_plain hgd fun _ hK => wp_append_F s x t ho ht hi hz hsize hby hzs hsz hs1 hs hown hx hsrc hm hbytes hb1 hbase fun v' w' h1 h2 h3 => hK _ _ (h v' w' h1 h2 h3)
theorem round_plain {ops : List OpD} {b : Bd} {ts : List Tm} {k : Nat} {o : OpD} (ho : ops[k]? = some o) (hwh : wholeG ts.length (ops.drop k) = true) (hev : evR b ops [] = evR b (ops.drop k) ts) (h32 : ops.length ≤ 32) (hs : (stepE b o ts).2.2 = false) :
   ((stepE b o ts).1 ≠ 0 → (evR b ops []).1 = (stepE b o ts).1) ∧ ((stepE b o ts).1 = 0 → wholeG (stepE b o ts).2.1.length (ops.drop (k + 1)) = true ∧ evR b ops [] = evR b (ops.drop (k + 1)) (stepE b o ts).2.1) := by
 obtain ⟨_, _, h3, h4⟩ := round_law ho hwh hev h32
 refine ⟨h3, fun he => ?_⟩
 obtain ⟨k', _, _, hn, h5, h6⟩ := h4 he
 unfold nextE at hn
 rw [if_neg (by rw [hs]; simp)] at hn
 obtain rfl : k' = k + 1 := by omega
 exact ⟨h5, h6⟩
end Go.Proofs.YtiplipdigabidaaGreat
