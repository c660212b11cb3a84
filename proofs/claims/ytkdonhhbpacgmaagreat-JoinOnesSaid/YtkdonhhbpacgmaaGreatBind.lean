/- expr.MayBind. -/
import Derived.Test.YtkdonhhbpacgmaaGreatFound
set_option linter.unusedVariables false
set_option linter.unusedSimpArgs false
namespace Go.Proofs.YtkdonhhbpacgmaaGreat
open Go.ChangeShapes Go.WideShapes Go.ChangeAt Go.RowKit
def bindAt (b : Bd) (i : Nat) : Bool :=
 match b.names[i]?, b.terms[i]?, b.names[i - 1]? with
 | some n, some t, some p => nameB n && fixedB t && (decide (i = 0) || decide (p < n))
 | _, _, _ => false
def bindB (b : Bd) : Bool := decide (b.names.length = b.terms.length) && decide (b.names.length ≤ 32) && (List.range b.names.length).all (bindAt b)
set_option maxRecDepth 100000 in
set_option maxHeartbeats 2000000 in
theorem maybind_any {d B cn ct : Nat} {b : Bd} {An At : Option Addr} {w : World} (hn : RL StrR w B (b.names.map mkS) An) (ht : RL (TmR (d + 1)) w B b.terms At) (hB : B ≤ w.heap.size) :
   Calls Tryz.prog 23 #[.agg (bdV An b.names.length cn At b.terms.length ct)] w fun e w' => e = .returned (.bool (bindB b)) ∧ Below w.heap.size w w' := by
 have HN := Lib.hid hn
 have HT := Lib.hid ht
 clear hn ht
 unfold bdV
 go_enter Tryz.func23, Tryz.ntmps23
 by_cases hlen : b.names.length = b.terms.length
 · have ql : ((b.names.length : Int) != b.terms.length) = false := by simp [hlen]
   have HLN := Lib.hid hlen
   clear hlen
   by_cases hfew : b.names.length ≤ 32
   · have qf : decide ((32 : Int) < b.names.length) = false := by simp; omega
     go_wp2_with fail
     generalize hW : World.alloc _ _ = w1
     obtain ⟨hb1, hz⟩ := al1 hW
     have HBB := Lib.hid (n11 hW)
     have HB1 := Lib.hid hb1
     clear hW hb1
     go_loopw [21] (fun i wr => ∃ k : Nat, k ≤ b.names.length ∧ i = .int .i64 k ∧ Below w1.heap.size w1 wr ∧ ∀ i, i < k → bindAt b i = true) (fun i _ => b.names.length - (intOf i).toNat)
     case atStart => exact ⟨0, Nat.zero_le _, rfl, Below.refl _ _, fun i h => absurd h (by omega)⟩
     case round =>
       obtain ⟨k, hk, rfl, hbw, hall⟩ := hrel
       have HA := Lib.hid hall
       have HWR := Lib.hid hbw
       have HBR := Lib.hid (HBB.out.later hbw)
       have HBw : Hid (Below w.heap.size w wr) := Lib.hid (bthen HB1.out hbw)
       have hB1 : B ≤ w1.heap.size := by omega
       have hsz := hbw.size
       clear hall hbw
       by_cases hlt : k < b.names.length
       · have HN1 := Lib.hid (HN.out.keep HBw.out hB)
         have HT1 := Lib.hid (HT.out.keep HBw.out hB)
         have hBr : B ≤ wr.heap.size := by omega
         have hlt2 : k < b.terms.length := by rw [← HLN.out]; exact hlt
         obtain ⟨bn_, offn, rfl, hobn, hcn⟩ := strs_at HN1.out (Below.refl _ _) hBr (by omega)
         obtain ⟨bt_, offt, rfl, hobt⟩ := HT1.out.base (Below.refl _ _) hBr (by omega)
         obtain ⟨x, vs, hx, hlen, hcell, hr⟩ := HT1.out.at_ (Below.refl _ _) hBr hlt2
         obtain ⟨Ax, cx, rfl, g1, g2, g3, g4, g5, _⟩ := RTm.cells (show RTm wr B (d + 1) x vs from hr)
         have c0 : wr.cell? ⟨bt_, offt + k * 4, none⟩ = some (.int .i64 x.kind) := hcell 0 _ rfl
         have c1 : wr.cell? ⟨bt_, offt + k * 4 + 1, none⟩ = some (.int .i64 x.n) := hcell 1 _ rfl
         have c2 : wr.cell? ⟨bt_, offt + k * 4 + 2, none⟩ = some (.string x.s) := hcell 2 _ rfl
         have c3 : wr.cell? ⟨bt_, offt + k * 4 + 3, none⟩ = some (.slice Ax x.l.length cx) := hcell 3 _ rfl
         have cn0 := hcn k hlt
         have cn1 := hcn (k - 1) (by omega)
         have k_b := HBR.out.cell
         have l_b := HBR.out.lt
         have hxe : b.terms[k] = x := by
           rw [List.getElem?_eq_getElem hlt2] at hx
           simpa using hx
         obtain ⟨y, vy, hy, _, _, hry⟩ := HN1.out.at_ (Below.refl _ _) hBr (k := k) (by simpa using hlt)
         have hye : y = mkS b.names[k] := by simpa [hlt, eq_comm] using hy
         have hsz16 : (mkS b.names[k]).size ≤ 140737488351232 := hye ▸ (show StrR.rd wr B y vy from hry).2
         have HX := Lib.hid hr
         have HAT : Hid (bindAt b k = (nameB (bs (mkS b.names[k])) && fixedB x && (decide (k = 0) || decide (bs (mkS b.names[k - 1]) < bs (mkS b.names[k]))))) := Lib.hid (by
           unfold bindAt
           rw [List.getElem?_eq_getElem hlt, List.getElem?_eq_getElem hlt2, List.getElem?_eq_getElem (show k - 1 < b.names.length by omega), hxe, bs_mkS, bs_mkS])
         clear hcell hlen hcn hx hr hry hy hye hxe
         generalize mkS b.names[k] = nk at *
         generalize mkS b.names[k - 1] = np at *
         have HNO : Hid (bindAt b k = false → bindB b = false) := Lib.hid (fun h => by
           rw [Bool.eq_false_iff]
           intro h2
           unfold bindB at h2
           rw [Bool.and_eq_true, List.all_eq_true] at h2
           have := h2.2 k (by simpa using hlt)
           rw [h] at this
           cases this)
         by_cases hnm : nameB (bs nk) = true
         · by_cases hfx : fixedB x = true
           · have hk1 : (k : Int) - 1 = ((k - 1 : Nat) : Int) ∨ k = 0 := by omega
             have hle : (!Op.bytesLess np.toList nk.toList) = !decide (bs np < bs nk) := by rw [bytesLess_eq, ByteArray.toList_eq, ByteArray.toList_eq]
             rcases Nat.eq_zero_or_pos k with h0 | h0
             · have hAT : bindAt b k = true := by rw [HAT.out, hnm, hfx, decide_eq_true h0]; rfl
               have HAT2 := Lib.hid hAT
               have H0 := Lib.hid h0
               clear h0 hAT hle hk1
               go_wp2_with (first
                 | (go_at_call 46; refine (name_any _ _ (by unfold maxLen; omega)).mono ?_; rintro e w' ⟨rfl, rfl⟩)
                 | (go_at_call 49; refine (fixed_any HX.out hBr).mono ?_; rintro e w2 ⟨rfl, hb2⟩; have cn2 := (hb2.cell (p := ⟨bn_, offn + (k - 1), none⟩) hobn).trans cn1; have k_b2 := (HBR.out.later hb2).cell; have HB2 := Lib.hid (bthen HBw.out hb2); have HBR2 := Lib.hid (Below.trans HWR.out (hb2.mono hsz)); clear hb2))
               · exact absurd H0.out (by omega)
               all_goals
                 go_roundw
                 case rel => exact ⟨k + 1, by omega, by go_num, HBR2.out, fun i hi => by
                   rcases Nat.lt_or_ge i k with h1 | h1
                   · exact HA.out i h1
                   · obtain rfl : i = k := by omega
                     exact HAT2.out⟩
                 case measure => simp [intOf]; omega
             · have hk2 : (k : Int) - 1 = ((k - 1 : Nat) : Int) := by omega
               have q0 : decide ((0 : Int) < k) = true := by simp; omega
               clear hk1
               have HLE := Lib.hid hle
               clear hle
               go_wp2_with (first
                 | (go_at_call 46; refine (name_any _ _ (by unfold maxLen; omega)).mono ?_; rintro e w' ⟨rfl, rfl⟩)
                 | (go_at_call 49; refine (fixed_any HX.out hBr).mono ?_; rintro e w2 ⟨rfl, hb2⟩; have cn2 := (hb2.cell (p := ⟨bn_, offn + (k - 1), none⟩) hobn).trans cn1; have k_b2 := (HBR.out.later hb2).cell; have HB2 := Lib.hid (bthen HBw.out hb2); have HBR2 := Lib.hid (Below.trans HWR.out (hb2.mono hsz)); clear hb2))
               · rename_i hq
                 go_ret
                 refine ⟨ret_bool ?_, HB2.out⟩
                 rw [HLE.out] at hq
                 have hq2 : decide (bs np < bs nk) = false := by simpa using hq
                 have hq1 : decide (k = 0) = false := by simp; omega
                 rw [HNO.out (by rw [HAT.out, hnm, hfx, hq1, hq2]; rfl)]
               · rename_i hq
                 rw [HLE.out] at hq
                 have hq2 : decide (bs np < bs nk) = true := by simpa using hq
                 have HAT2 : Hid (bindAt b k = true) := Lib.hid (by rw [HAT.out, hnm, hfx, hq2, Bool.or_true]; rfl)
                 clear hq hq2
                 go_roundw
                 case rel => exact ⟨k + 1, by omega, by go_num, HBR2.out, fun i hi => by
                   rcases Nat.lt_or_ge i k with h1 | h1
                   · exact HA.out i h1
                   · obtain rfl : i = k := by omega
                     exact HAT2.out⟩
                 case measure => simp [intOf]; omega
           · have hfx' : fixedB x = false := by simpa using hfx
             clear hfx
             go_wp2_with (first
                 | (go_at_call 46; refine (name_any _ _ (by unfold maxLen; omega)).mono ?_; rintro e w' ⟨rfl, rfl⟩)
                 | (go_at_call 49; refine (fixed_any HX.out hBr).mono ?_; rintro e w2 ⟨rfl, hb2⟩; have cn2 := (hb2.cell (p := ⟨bn_, offn + (k - 1), none⟩) hobn).trans cn1; have k_b2 := (HBR.out.later hb2).cell; have HB2 := Lib.hid (bthen HBw.out hb2); have HBR2 := Lib.hid (Below.trans HWR.out (hb2.mono hsz)); clear hb2))
             go_ret
             refine ⟨ret_bool ?_, HB2.out⟩
             rw [HNO.out (by rw [HAT.out, hnm, hfx']; rfl)]
         · have hnm' : nameB (bs nk) = false := by simpa using hnm
           clear hnm
           go_wp2_with (first
                 | (go_at_call 46; refine (name_any _ _ (by unfold maxLen; omega)).mono ?_; rintro e w' ⟨rfl, rfl⟩)
                 | (go_at_call 49; refine (fixed_any HX.out hBr).mono ?_; rintro e w2 ⟨rfl, hb2⟩; have cn2 := (hb2.cell (p := ⟨bn_, offn + (k - 1), none⟩) hobn).trans cn1; have k_b2 := (HBR.out.later hb2).cell; have HB2 := Lib.hid (bthen HBw.out hb2); have HBR2 := Lib.hid (Below.trans HWR.out (hb2.mono hsz)); clear hb2))
           go_ret
           refine ⟨ret_bool ?_, HBw.out⟩
           rw [HNO.out (by rw [HAT.out, hnm']; rfl)]
       · go_wp2_with fail
         go_ret
         obtain rfl : k = b.names.length := by omega
         refine ⟨ret_bool ?_, HBw.out⟩
         unfold bindB
         rw [eq_comm, Bool.and_eq_true, Bool.and_eq_true, List.all_eq_true]
         exact ⟨⟨decide_eq_true HLN.out, decide_eq_true hfew⟩, fun i hi => HA.out i (by simpa using hi)⟩
   · have qf : decide ((32 : Int) < b.names.length) = true := by simp; omega
     go_wp2_with fail
     go_ret
     refine ⟨ret_bool ?_, below_new rfl⟩
     unfold bindB
     simp [hfew]
 · have ql : ((b.names.length : Int) != b.terms.length) = true := by simp; omega
   have HLN := Lib.hid hlen
   clear hlen
   go_wp2_with fail
   go_ret
   refine ⟨ret_bool ?_, below_new rfl⟩
   unfold bindB
   simp [HLN.out]
theorem bindB_parts {b : Bd} (h : bindB b = true) : BdOk b ∧ ∀ n ∈ b.names, nameB n = true := by
 unfold bindB at h
 rw [Bool.and_eq_true, Bool.and_eq_true, List.all_eq_true] at h
 obtain ⟨⟨h1, h2⟩, h3⟩ := h
 have hlen := of_decide_eq_true h1
 have hat : ∀ i (hi : i < b.names.length), nameB b.names[i] = true ∧ fixedB (b.terms[i]'(hlen ▸ hi)) = true ∧ (i = 0 ∨ b.names[i - 1] < b.names[i]) := by
   intro i hi
   have := h3 i (by simpa using hi)
   unfold bindAt at this
   rw [List.getElem?_eq_getElem hi, List.getElem?_eq_getElem (hlen ▸ hi), List.getElem?_eq_getElem (show i - 1 < b.names.length by omega)] at this
   simpa [and_assoc] using this
 refine ⟨⟨hlen, of_decide_eq_true h2, ?_, fun t ht => ?_⟩, fun n hn => ?_⟩
 · rw [List.pairwise_iff_getElem]
   intro i j hi hj hij
   have : ∀ m, ∀ hm : i + m + 1 < b.names.length, b.names[i] < b.names[i + m + 1] := by
     intro m
     induction m with
     | zero =>
       intro hm
       rcases (hat (i + 0 + 1) hm).2.2 with h | h
       · omega
       · exact h
     | succ m ih =>
       intro hm
       rcases (hat (i + (m + 1) + 1) hm).2.2 with h | h
       · omega
       · exact List.lt_trans (ih (by omega)) h
   have := this (j - i - 1) (by omega)
   have e : i + (j - i - 1) + 1 = j := by omega
   simpa only [e] using this
 · obtain ⟨i, hi, rfl⟩ := List.getElem_of_mem ht
   exact (hat i (hlen ▸ hi)).2.1
 · obtain ⟨i, hi, rfl⟩ := List.getElem_of_mem hn
   exact (hat i hi).1
set_option maxRecDepth 100000 in
set_option maxHeartbeats 2000000 in
theorem look_any {d B cn ct : Nat} {b : Bd} {An At : Option Addr} {name : ByteArray} {w : World} (hn : RL StrR w B (b.names.map mkS) An) (ht : RL (TmR (d + 1)) w B b.terms At) (hB : B ≤ w.heap.size) :
   Calls Tryz.prog 28 #[.agg (bdV An b.names.length cn At b.terms.length ct), .string name] w fun e w' => FoundE d w w' (if bindB b = true then lookR b (bs name) else none) e := by
 have HN := Lib.hid hn
 have HT := Lib.hid ht
 clear hn ht
 unfold bdV
 by_cases hok : bindB b = true
 · rw [if_pos hok]
   have HOK := Lib.hid hok
   clear hok
   go_enter Tryz.func28, Tryz.ntmps28
   go_wp2_with fail
   generalize hW : World.alloc _ _ = w1
   obtain ⟨hb1, hz⟩ := al2 hW
   have b_b := n21 hW
   have b_r := n22 hW
   have HB1 := Lib.hid hb1
   clear hW
   refine (maybind_any (cn := cn) (ct := ct) (HN.out.keep hb1 hB) (HT.out.keep hb1 hB) (Nat.le_trans hB hb1.size)).mono ?_
   rintro e w2 ⟨rfl, hb2⟩
   have HB2 := Lib.hid (bthen HB1.out hb2)
   have b_b2 := b_b.later hb2
   have b_r2 := b_r.later hb2
   clear b_b b_r hb1 hb2
   have k_b := b_b2.cell
   have l_b := b_b2.lt
   have k_r := b_r2.cell
   have f_r := b_r2.free
   have l_r := b_r2.lt
   rw [HOK.out]
   have HBD := Lib.hid (bindB_parts HOK.out).1
   go_wp2_with fail
   refine (found_any (cn := cn) (ct := ct) (name := name) HBD.out (HN.out.keep HB2.out hB) (HT.out.keep HB2.out hB) (Nat.le_trans hB HB2.out.size)).mono ?_
   rintro e w3 ⟨⟨A3, c3, rfl, hown⟩, hb3⟩
   have HO := Lib.hid hown
   have HB3 := Lib.hid (bthen HB2.out hb3)
   have b_r3 := b_r2.later hb3
   have hsz2 := HB2.out.size
   clear hown hb3 k_b l_b k_r f_r b_b2
   have k_r := b_r3.cell
   have f_r := b_r3.free
   have l_r3 := b_r3.lt
   generalize hq : lookR b (bs name) = q at *
   go_wp2_with fail
   refine bodyPost_ret (ret_tm2 rfl rfl (put4b b_r3 (.int .i64 (q.getD noT).kind) (.int .i64 (q.getD noT).n) (.string (q.getD noT).s) (.slice A3 (q.getD noT).l.length c3)) rfl) rfl ?_
   rw [hq]
   exact ⟨⟨A3, c3, rfl, (HO.out.put4 (g := w.heap.size + 1) l_r _ _ _ _).lower (by omega)⟩, put4u HB3.out (by omega) _ _ _ _⟩
 · rw [if_neg hok]
   have hno : bindB b = false := by simpa using hok
   have HOK := Lib.hid hno
   clear hok hno
   go_enter Tryz.func28, Tryz.ntmps28
   go_wp2_with fail
   generalize hW : World.alloc _ _ = w1
   obtain ⟨hb1, hz⟩ := al2 hW
   have b_b := n21 hW
   have b_r := n22 hW
   have HB1 := Lib.hid hb1
   clear hW
   refine (maybind_any (cn := cn) (ct := ct) (HN.out.keep hb1 hB) (HT.out.keep hb1 hB) (Nat.le_trans hB hb1.size)).mono ?_
   rintro e w2 ⟨rfl, hb2⟩
   have HB2 := Lib.hid (bthen HB1.out hb2)
   have b_b2 := b_b.later hb2
   have b_r2 := b_r.later hb2
   clear b_b b_r hb1 hb2
   have k_b := b_b2.cell
   have l_b := b_b2.lt
   have k_r := b_r2.cell
   have f_r := b_r2.free
   have l_r := b_r2.lt
   rw [HOK.out]
   go_wp2_with fail
   refine bodyPost_ret (ret_tm2 rfl rfl (put4b b_r2 (.int .i64 0) (.int .i64 0) (.string ⟨#[]⟩) (.slice none 0 0)) rfl) rfl ?_
   exact ⟨⟨none, 0, rfl, TmOwn.no⟩, put4u HB2.out (by omega) _ _ _ _⟩
end Go.Proofs.YtkdonhhbpacgmaaGreat
