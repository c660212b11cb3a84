/- viaticumref6.Match. -/
import Derived.Test.YtiplipdigabidaaGreatRq9
set_option linter.unusedVariables false
set_option linter.unusedSimpArgs false
namespace Go.Proofs.YtiplipdigabidaaGreat
open Go.ChangeShapes Go.WideShapes Go.ChangeAt Go.RowKit
set_option maxRecDepth 100000 in
set_option maxHeartbeats 4000000 in
theorem matchq_any {w : World} {p t : ByteArray} (hp : p.size ≤ 140737488351232) (ht : t.size ≤ 140737488351232) :
   Calls Tryz.prog 45 #[.string p, .string t, .bool true] w fun e w' => e = .returned (.tuple #[.bool (fitsR p t false).1, .int .i64 (fitsR p t false).2]) ∧ Below w.heap.size w w' := by
 by_cases h256 : 256 < t.size
 · have HX : Hid (fitsR p t false = (false, 1)) := Lib.hid (by unfold fitsR; rw [if_pos h256])
   go_enter Tryz.func45, Tryz.ntmps45
   go_wp2_with fail
   go_ret2
   rw [HX.out]
   exact ⟨rfl, Below.refl _ _⟩
 · have HX : Hid (fitsR p t false = if (compQ p).2 ≠ 0 then (false, (compQ p).2) else (runQ (compQ p).1 t t.size 0 (reachQ (compQ p).1 true (decide (t.size = 0)) 0 (List.replicate (compQ p).1.length false)), 0)) := Lib.hid (by rw [← match_same]; unfold matchQ; rw [if_neg h256])
   have h256' : decide ((t.size : Int) > 256) = false := by simp; omega
   go_enter Tryz.func45, Tryz.ntmps45
   go_wp2_with fail
   clear h256'
   refine (compileq_any hp).mono ?_
   rintro e w1 ⟨⟨Al, cl, rfl, ho⟩, hb⟩
   by_cases he : (compQ p).2 = 0
   · have HPR : Hid (Prg (compQ p).1) := Lib.hid (by rw [comp_same] at he ⊢; exact comp_prg he)
     rw [if_neg (by simp [he])] at HX
     generalize compQ p = r at *
     obtain ⟨l, e⟩ := r
     simp only at he ho HX HPR
     have hq : ((e : Int) != 0) = false := by rw [he]; rfl
     have hlen := HPR.out.len
     have HL := Lib.hid (ho.rowsQ (by omega))
     have HB1 := Lib.hid hb
     clear ho hb he
     generalize hrr : runQ l t t.size 0 (reachQ l true (decide (t.size = 0)) 0 (List.replicate l.length false)) = rr at *
     have HRR := Lib.hid hrr
     clear hrr
     go_wp2_with fail
     refine (runq_any HL.out (Nat.le_refl _) HPR.out (by omega)).mono ?_
     rintro e w2 ⟨rfl, hb⟩
     have HB2 := Lib.hid (bthen HB1.out hb)
     clear hb
     rw [HRR.out]
     go_wp2_with fail
     go_ret2
     rw [HX.out]
     exact ⟨rfl, HB2.out⟩
   · rw [if_pos he] at HX
     have hq : (((compQ p).2 : Int) != 0) = true := by simpa using he
     have HB1 := Lib.hid hb
     clear ho hb he
     go_wp2_with fail
     go_ret2
     rw [HX.out]
     exact ⟨rfl, HB1.out⟩
end Go.Proofs.YtiplipdigabidaaGreat
