/- viaticumref11.Look. -/
import Derived.Test.YtkdonhhbpacgmaaGreatRe1
set_option linter.unusedVariables false
set_option linter.unusedSimpArgs false
namespace Go.Proofs.YtkdonhhbpacgmaaGreat
open Go.ChangeShapes Go.WideShapes Go.ChangeAt Go.RowKit
theorem posL_at {L : List Bytes} {t : Bytes} {k : Nat} (h : L.Pairwise (· < ·)) (hk : k < L.length) (e : L[k] = t) : posL L t = k := by
 refine posL_eq (Nat.le_of_lt hk) (fun j hj hjk => ?_) (fun j hj hkj => ?_)
 · rw [← e]; exact List.pairwise_iff_getElem.1 h j k hj hk hjk
 · rcases Nat.lt_or_ge k j with h1 | h1
   · rw [← e]
     exact fun h2 => List.lt_asymm (List.pairwise_iff_getElem.1 h k j hk hj h1) h2
   · obtain rfl : j = k := by omega
     rw [e]; exact List.lt_irrefl t
theorem lookR_at {b : Bd} {t : Bytes} {k : Nat} {u : Tm} (h : BdOk b) (hk : k < b.names.length) (e : b.names[k] = t) (hu : b.terms[k]? = some u) : lookR b t = some u := by
 unfold lookR
 rw [if_pos (e ▸ List.getElem_mem hk), posL_at h.rise hk e]
 exact hu
set_option maxRecDepth 100000 in
set_option maxHeartbeats 4000000 in
theorem refLook_any {d B cn ct : Nat} {b : Bd} {An At : Option Addr} {name : ByteArray} {w : World} (hn : RL StrR w B (b.names.map mkS) An) (ht : RL (TmR (d + 1)) w B b.terms At) (hB : B ≤ w.heap.size) (hn1 : b.names.length * 8 ≤ 140737488351232) :
   Calls Tryz.prog 14 #[.agg (bdV An b.names.length cn At b.terms.length ct), .string name] w fun e w' => FoundE d w w' (if bindB b = true then lookR b (bs name) else none) e := by
 have HN := Lib.hid hn
 have HT := Lib.hid ht
 clear hn ht
 unfold bdV
 generalize hres : (if bindB b = true then lookR b (bs name) else none) = res
 have HRES := Lib.hid hres
 clear hres
 go_enter Tryz.func14, Tryz.ntmps14
 go_wp2_with fail
 generalize hW : World.alloc _ _ = w1
 obtain ⟨hb1, hz⟩ := al2 hW
 have b_b := n21 hW
 have b_r := n22 hW
 have HB1 := Lib.hid hb1
 clear hW hb1
 have hB1 := Nat.le_trans hB HB1.out.size
 go_loopw [11] (fun i wr => ∃ k : Nat, k ≤ b.names.length ∧ i = .int .i64 k ∧ Hid (Below w1.heap.size w1 wr) ∧ Hid (bindB b = true → ∀ j (hj : j < b.names.length), j < k → b.names[j] ≠ bs name)) (fun i _ => b.names.length - (intOf i).toNat)
 case atStart => exact ⟨0, Nat.zero_le _, rfl, Lib.hid (Below.refl _ _), Lib.hid (fun _ j _ h => absurd h (by omega))⟩
 case round =>
   obtain ⟨k, hk, rfl, HWR, HALL⟩ := hrel
   have BB := Lib.hid (b_b.later HWR.out)
   have BR := Lib.hid (b_r.later HWR.out)
   have HBw : Hid (Below w.heap.size w wr) := Lib.hid (bthen HB1.out HWR.out)
   have hsz := HWR.out.size
   have hBr : B ≤ wr.heap.size := by omega
   by_cases hlt : k < b.names.length
   · have HN1 := Lib.hid (HN.out.keep HBw.out hB)
     have HT1 := Lib.hid (HT.out.keep HBw.out hB)
     obtain ⟨bn_, offn, rfl, hobn, hcn⟩ := strs_at HN1.out (Below.refl _ _) hBr (by omega)
     have cn0 := hcn k hlt
     have k_b := BB.out.cell
     have l_b := BB.out.lt
     by_cases heq : b.names[k] = bs name
     · have e2 : ((mkS b.names[k]).toList == name.toList) = true := by rw [same_iff, bs_mkS]; simpa using heq
       have HEQ := Lib.hid heq
       clear hcn heq
       generalize mkS b.names[k] = nk at *
       go_wp2_with fail
       refine (refMayBind_any (cn := cn) (ct := ct) HN1.out HT1.out hBr).mono ?_
       rintro e w2 ⟨rfl, hb2⟩
       have HB2 := Lib.hid (bthen HWR.out hb2)
       have BB2 := Lib.hid (BB.out.later hb2)
       have BR2 := Lib.hid (BR.out.later hb2)
       have HB2w := Lib.hid (bthen HBw.out hb2)
       have hsz2 := hb2.size
       have HT2 := Lib.hid (HT1.out.keep hb2 hBr)
       have hB2 := Nat.le_trans hBr hsz2
       clear hb2 cn0 k_b l_b e2
       by_cases hbb : bindB b = true
       · have hok := (bindB_parts hbb).1
         have hlt2 : k < b.terms.length := by rw [← hok.len]; exact hlt
         have hu : b.terms[k]? = some b.terms[k] := List.getElem?_eq_getElem hlt2
         have HR : Hid (res = some b.terms[k]) := Lib.hid (by rw [← HRES.out, if_pos hbb]; exact lookR_at hok hlt HEQ.out hu)
         obtain ⟨hle, hl16⟩ := fixed_leaves (hok.fixed _ (List.getElem_mem hlt2))
         obtain ⟨bt_, offt, rfl, hobt⟩ := HT2.out.base (Below.refl _ _) hB2 (by omega)
         obtain ⟨x, vs, hx, hlen, hcell, hr⟩ := HT2.out.at_ (Below.refl _ _) hB2 hlt2
         obtain ⟨Ax, cx, rfl, g1, g2, g3, g4, g5, _⟩ := RTm.cells (show RTm w2 B (d + 1) x vs from hr)
         have c0 : w2.cell? ⟨bt_, offt + k * 4, none⟩ = some (.int .i64 x.kind) := hcell 0 _ rfl
         have c1 : w2.cell? ⟨bt_, offt + k * 4 + 1, none⟩ = some (.int .i64 x.n) := hcell 1 _ rfl
         have c2 : w2.cell? ⟨bt_, offt + k * 4 + 2, none⟩ = some (.string x.s) := hcell 2 _ rfl
         have c3 : w2.cell? ⟨bt_, offt + k * 4 + 3, none⟩ = some (.slice Ax x.l.length cx) := hcell 3 _ rfl
         have hxe : b.terms[k] = x := by
           rw [List.getElem?_eq_getElem hlt2] at hx
           simpa using hx
         rw [hxe] at HR hle hl16
         have HLE := Lib.hid hle
         have HX := Lib.hid hr
         rw [hbb]
         clear hcell hlen hx hr hxe hle hu hok hbb
         have k_b := BB2.out.cell
         have l_b := BB2.out.lt
         go_wp2_with fail
         refine (ownq_any (d := d) (t := x) (vs := [_, _, _, _]) HX.out hB2 HLE.out hl16).mono ?_
         rintro e w3 ⟨⟨A3, c3', rfl, hto⟩, hb3⟩
         have HTO := Lib.hid hto
         have HB3 := Lib.hid (bthen HB2w.out hb3)
         have BR3 := Lib.hid (BR2.out.later hb3)
         have hlr := BR2.out.lt
         have hwl := HB2w.out.size
         clear hto hb3 k_b l_b c0 c1 c2 c3
         have k_r := BR3.out.cell
         have l_r := BR3.out.lt
         have f_r := BR3.out.free
         go_wp2_with fail
         refine bodyPost_ret (ret_tm2 rfl rfl (put4b BR3.out (.int .i64 x.kind) (.int .i64 x.n) (.string x.s) (.slice A3 x.l.length c3')) rfl) rfl ?_
         rw [HR.out]
         exact ⟨⟨A3, c3', rfl, (HTO.out.put4 (by omega) _ _ _ _).lower (by omega)⟩, put4u HB3.out (by omega) _ _ _ _⟩
       · simp only [Bool.not_eq_true] at hbb
         rw [hbb]
         have HNB : Hid (bindB b = true → ∀ j (hj : j < b.names.length), j < k + 1 → b.names[j] ≠ bs name) := Lib.hid (fun h => by rw [hbb] at h; cases h)
         clear hbb
         have k_b := BB2.out.cell
         have l_b := BB2.out.lt
         go_wp2_with fail
         go_roundw
         case rel => exact ⟨k + 1, by omega, by go_num, HB2, HNB⟩
         case measure => simp [intOf]; omega
     · have e2 : ((mkS b.names[k]).toList == name.toList) = false := by rw [same_iff, bs_mkS]; simpa using heq
       have HNB : Hid (bindB b = true → ∀ j (hj : j < b.names.length), j < k + 1 → b.names[j] ≠ bs name) := Lib.hid (fun h j hj hjk => by
         rcases Nat.lt_or_ge j k with h1 | h1
         · exact HALL.out h j hj h1
         · obtain rfl : j = k := by omega
           exact heq)
       clear hcn heq
       generalize mkS b.names[k] = nk at *
       go_wp2_with fail
       go_roundw
       case rel => exact ⟨k + 1, by omega, by go_num, HWR, HNB⟩
       case measure => simp [intOf]; omega
   · have HR : Hid (res = none) := Lib.hid (by
       rw [← HRES.out]
       by_cases hbb : bindB b = true
       · rw [if_pos hbb]
         unfold lookR
         rw [if_neg (fun hm => by
           obtain ⟨j, hj, e⟩ := List.getElem_of_mem hm
           exact HALL.out hbb j hj (by omega) e)]
       · rw [if_neg hbb])
     have k_r := BR.out.cell
     have l_r := BR.out.lt
     have f_r := BR.out.free
     go_wp2_with fail
     refine bodyPost_ret (ret_tm2 rfl rfl (put4b BR.out (.int .i64 0) (.int .i64 0) (.string ⟨#[]⟩) (.slice none 0 0)) rfl) rfl ?_
     rw [HR.out]
     exact ⟨⟨none, 0, rfl, TmOwn.no⟩, put4u HBw.out (by omega) _ _ _ _⟩
end Go.Proofs.YtkdonhhbpacgmaaGreat
