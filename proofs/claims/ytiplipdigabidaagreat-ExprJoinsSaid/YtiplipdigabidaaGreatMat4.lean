/- match.fits (a part of a text), Find. -/
import Derived.Test.YtiplipdigabidaaGreatMat3
import Derived.Test.YtiplipdigabidaaGreatReg8
set_option linter.unusedVariables false
set_option linter.unusedSimpArgs false
namespace Go.Proofs.YtiplipdigabidaaGreat
open Go.ChangeShapes Go.WideShapes Go.ChangeAt Go.RowKit
theorem run_at {s : ByteArray} {k b : Nat} (h : k < s.size) (hb : byteAt s k = b) (w : World) : (Instr.index 9 (.string s) (.int .i64 (k : Int))).run Tryz.prog w = .ok (.int .u8 (b : Int)) w := by
 rw [run_index_string w 9 s .i64 _ Tryz.underlying9, dif_pos ⟨by omega, by omega⟩]
 rw [← hb, byteAt_get h]
 rfl
theorem empty_size (t : ByteArray) : t = ByteArray.empty ↔ t.size = 0 := ⟨fun h => by rw [h]; rfl, fun h => ByteArray.ext (Array.eq_empty_of_size_eq_zero h)⟩
theorem fitsL_done {l : List Ins} {t : ByteArray} {n i : Nat} {st : List Bool × Bool} (h : st.2 = true) : fitsL l t false n i st = true := by
 cases n with
 | zero => exact h
 | succ n => unfold fitsL; rw [h]; rfl
theorem fitsL_go {l : List Ins} {t : ByteArray} {n i : Nat} {st : List Bool × Bool} (h : st.2 = false) : fitsL l t false (n + 1) i st = fitsL l t false n (i + 1) (entered l false (decide (i + 1 = t.size)) 0 (takes l (byteAt t i) (decide (i + 1 = t.size)) st)) := by
 show (if (st.2 && !false) = true then _ else _) = _
 rw [h]
 rfl
set_option maxRecDepth 100000 in
set_option maxHeartbeats 4000000 in
theorem fits_any {w : World} {p t : ByteArray} (hp : p.size ≤ 140737488351232) (ht : t.size ≤ 140737488351232) :
   Calls Tryz.prog 117 #[.string p, .string t, .bool false] w fun e w' => e = .returned (.tuple #[.bool (fitsR p t false).1, .int .i64 (fitsR p t false).2]) ∧ Below w.heap.size w w' := by
 by_cases h256 : 256 < t.size
 · have HX : Hid (fitsR p t false = (false, 1)) := Lib.hid (by unfold fitsR; rw [if_pos h256])
   go_enter Tryz.func117, Tryz.ntmps117
   go_wp2_with fail
   go_ret2
   rw [HX.out]
   exact ⟨rfl, Below.refl _ _⟩
 · have HX : Hid (fitsR p t false = if (compR p).2 ≠ 0 then (false, (compR p).2) else (fitsL (compR p).1 t false t.size 0 (entered (compR p).1 true (decide (t.size = 0)) 0 (noneOn (compR p).1)), 0)) := Lib.hid (by unfold fitsR; rw [if_neg h256])
   have h256' : decide (256 < (t.size : Int)) = false := by simp; omega
   go_enter Tryz.func117, Tryz.ntmps117
   go_wp2_with fail
   clear h256'
   refine (compile_any hp).mono ?_
   rintro e w1 ⟨⟨Al, cl, rfl, ho⟩, hb⟩
   by_cases he : (compR p).2 = 0
   · have HPR := Lib.hid (comp_prg he)
     rw [if_neg (by simp [he])] at HX
     generalize compR p = r at *
     obtain ⟨l, e⟩ := r
     simp only at he ho HX HPR
     have hq : ((e : Int) != 0) = false := by rw [he]; rfl
     have hlen := HPR.out.len
     have hpos := HPR.out.pos
     have HL := Lib.hid (ho.rows (by omega))
     have HB1 := Lib.hid hb
     have hmk := fun w => make_bools l.length (by omega) w
     clear ho hb he
     go_wp2_with fail
     generalize hA : World.alloc _ _ = w2
     obtain ⟨hb, hz⟩ := al2 hA
     have HN2 : Hid (Ways (w1.heap.size + 1) w1.heap.size l Al cl l.length w2 (noneOn l)) := Lib.hid (by
       have h0 : BlkT (w1.alloc (.cells (boolsA (List.replicate l.length false)) 4)) w1.heap.size (boolsA (List.replicate l.length false)) 4 := heap_alloc_new w1 _
       have h1 := h0.later (below_new (w := w1.alloc (.cells (boolsA (List.replicate l.length false)) 4)) (o := .cells #[.slice Al l.length cl, .slice (some ⟨w1.heap.size, 0, none⟩) l.length l.length, .bool false] 144) rfl)
       have h2 := heap_alloc_new (w1.alloc (.cells (boolsA (List.replicate l.length false)) 4)) (.cells #[.slice Al l.length cl, .slice (some ⟨w1.heap.size, 0, none⟩) l.length l.length, .bool false] 144)
       rw [World.size_alloc] at h2
       exact hA ▸ ⟨h2, h1, by simp [noneOn], by omega⟩)
     have HB2 := Lib.hid hb
     clear hA hz hb hmk
     refine (enter_at (B := w1.heap.size) (Int.le_refl _) (by omega) HN2.out (HL.out.keep HB2.out (Nat.le_refl _)) (by omega) (Nat.le_refl _) HPR.out (Nat.le_refl _)).mono ?_
     rintro e w3 ⟨rfl, hx, hn⟩
     have hie : t.toList.isEmpty = decide (t.size = 0) := by rw [isEmpty_empty, Bool.eq_iff_iff, decide_eq_true_eq, decide_eq_true_eq]; exact empty_size t
     rw [hie] at hn
     have HN3 := Lib.hid hn
     have HB3 : Hid (Below w1.heap.size w1 w3) := Lib.hid (HB2.out.trans (hx.1.mono (by omega)))
     generalize entered l true (decide (t.size = 0)) 0 (noneOn l) = st0 at *
     clear hx hn hie HN2 HB2
     have hz3 : w1.heap.size + 1 < w3.heap.size := HN3.out.wb.blk.lt
     go_wp2_with fail
     go_loopw [10, 36] (fun v10 v36 wr => ∃ (k W G ca : Nat) (st : List Bool × Bool), k ≤ t.size ∧ v10 = .pointer (some ⟨W, 0, none⟩) ∧ v36 = .int .i64 k ∧ w1.heap.size ≤ W ∧ w1.heap.size ≤ G ∧ l.length ≤ ca ∧ Hid (fitsL l t false t.size 0 st0 = fitsL l t false (t.size - k) k st) ∧ Hid (Ways W G l Al cl ca wr st) ∧ Hid (Below w1.heap.size w1 wr)) (fun _ v _ => t.size - (intOf v).toNat)
     case atStart => exact ⟨0, _, _, _, st0, Nat.zero_le _, rfl, rfl, by omega, Nat.le_refl _, Nat.le_refl _, Lib.hid (by rw [Nat.sub_zero]), HN3, HB3⟩
     case round =>
       obtain ⟨k, W, G, ca, st, hk, rfl, rfl, hBW, hBG, hca, HE, HN, HBr⟩ := hrel
       have hWlt := HN.out.wb.blk.lt
       have k_w : ∀ o, wr.cell? ⟨W, o, none⟩ = (#[.slice Al l.length cl, .slice (some ⟨G, 0, none⟩) l.length ca, .bool st.2] : Array Value)[o]? := HN.out.wb.blk.cell
       by_cases hlt : k < t.size
       · rcases Bool.eq_false_or_eq_true st.2 with hd | hd
         · have HR : Hid (fitsL l t false t.size 0 st0 = true) := Lib.hid (by rw [HE.out, fitsL_done hd])
           rw [hd] at k_w
           clear hd HE
           go_wp2_with fail
           go_ret2
           rw [HX.out, HR.out]
           exact ⟨rfl, bthen HB1.out HBr.out⟩
         · obtain ⟨n, hn⟩ : ∃ n, t.size - k = n + 1 := ⟨t.size - k - 1, by omega⟩
           obtain ⟨lb, hlb⟩ : ∃ lb, decide (k + 1 = t.size) = lb := ⟨_, rfl⟩
           obtain ⟨c, hcb⟩ : ∃ c, byteAt t k = c := ⟨_, rfl⟩
           have HE2 : Hid (fitsL l t false t.size 0 st0 = fitsL l t false (t.size - (k + 1)) (k + 1) (entered l false lb 0 (takes l c lb st))) := Lib.hid (by
             rw [HE.out, hn, fitsL_go hd, hlb, hcb, show t.size - (k + 1) = n by omega])
           have hc256 : c < 256 := by rw [← hcb]; exact byteAt_lt _ _
           have hix := fun wx => run_at hlt hcb wx
           have hql : ((k : Int) == (t.size : Int) - 1) = lb := by
             rw [← hlb, Bool.eq_iff_iff]
             simp
             omega
           rw [hd] at k_w
           clear hd HE hn hlb hcb
           go_wp2_with fail
           refine (takes_any (B := w1.heap.size) (c := c) HN.out (HL.out.keep HBr.out (Nat.le_refl _)) hBW hBG HPR.out hc256 hca).mono ?_
           rintro e w4 ⟨W2, G2, ca2, rfl, hn2, hW2, hG2, hca2, hb4⟩
           have HN4 := Lib.hid hn2
           have HB4 := Lib.hid (bthen HBr.out hb4)
           have hszr := HBr.out.size
           clear hn2 hb4 k_w hix
           go_wp2_with fail
           refine (enter_at (B := w1.heap.size) (Int.le_refl _) (by omega) HN4.out (HL.out.keep HB4.out (Nat.le_refl _)) (by omega) (by omega) HPR.out hca2).mono ?_
           rintro e w5 ⟨rfl, hx, hn⟩
           have HN5 := Lib.hid hn
           have HB5 : Hid (Below w1.heap.size w1 w5) := Lib.hid (HB4.out.trans (hx.1.mono (by omega)))
           clear hx hn HN4 HB4 hql
           go_wp2_with fail
           go_roundw
           case rel => exact ⟨k + 1, W2, G2, ca2, _, by omega, rfl, by go_num, by omega, by omega, hca2, HE2, HN5, HB5⟩
           case measure => simp [intOf]; omega
       · have HR : Hid (fitsL l t false t.size 0 st0 = st.2) := Lib.hid (by rw [HE.out, show t.size - k = 0 by omega]; rfl)
         go_wp2_with fail
         go_ret2
         rw [HX.out, HR.out]
         exact ⟨rfl, bthen HB1.out HBr.out⟩
   · have hq : (((compR p).2 : Int) != 0) = true := by simpa using he
     rw [if_pos he] at HX
     have HB := Lib.hid hb
     clear hb ho he
     go_wp2_with fail
     go_ret2
     rw [HX.out]
     exact ⟨rfl, HB.out⟩
set_option maxHeartbeats 400000 in
theorem find_any {w : World} {p t : ByteArray} (hp : p.size ≤ 140737488351232) (ht : t.size ≤ 140737488351232) :
   Calls Tryz.prog 90 #[.string p, .string t] w fun e w' => e = .returned (.tuple #[.bool (fitsR p t false).1, .int .i64 (fitsR p t false).2]) ∧ Below w.heap.size w w' := by
 go_enter Tryz.func90, Tryz.ntmps90
 go_wp2_with fail
 refine (fits_any hp ht).mono ?_
 rintro e w1 ⟨rfl, hb⟩
 have HB := Lib.hid hb
 clear hb
 go_wp2_with fail
 go_ret2
 exact ⟨rfl, HB.out⟩
end Go.Proofs.YtiplipdigabidaaGreat
