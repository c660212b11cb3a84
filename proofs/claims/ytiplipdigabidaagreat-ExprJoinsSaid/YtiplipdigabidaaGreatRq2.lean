/- viaticumref6.compiler.member. -/
import Derived.Test.YtiplipdigabidaaGreatRqSpec
import Derived.Test.YtiplipdigabidaaGreatReg4
import Derived.Test.YtiplipdigabidaaGreatSet2
import Derived.Deep.Cut
import Derived.Deep.CutRange
import Derived.Deep.LoopGhost
set_option linter.unusedVariables false
set_option linter.unusedSimpArgs false
namespace Go.Proofs.YtiplipdigabidaaGreat
open Go.ChangeShapes Go.WideShapes Go.ChangeAt Go.RowKit
set_option maxRecDepth 100000 in
set_option maxHeartbeats 1000000 in
theorem more_any {w : World} {P : Nat} {s : ByteArray} {p : PS} (hb : Blk w P (psA s p)) (hs : s.size ≤ 1000000) (ha : p.at_ ≤ 1000000) :
   Calls Tryz.prog 98 #[.pointer (some ⟨P, 0, none⟩)] w fun e w' => e = .returned (.bool (!endsP s p)) ∧ Below w.heap.size w w' := by
 obtain ⟨at_, deep, e⟩ := p
 have hb : Blk w P #[.string s, .int .i64 at_, .int .i64 deep, .int .i64 e] := hb
 have q_p := hb.regrown
 simp only at ha
 rcases Bool.eq_false_or_eq_true (e == 0) with he | he
 all_goals
   go_enter Tryz.func98, Tryz.ntmps98
   go_wp2_with fail
   refine wp_region_quiet_below (by kernel_rfl) (by kernel_rfl) ?_
   repeat (go_big_quiet_step (fail))
   refine wpQuiet_nil ?_
   intro w3 hw3
   have hb1 : Below w.heap.size w w3 := by obtain ⟨p, rfl⟩ := hw3; exact below_regrown _ _ _
   clear hw3 q_p
   go_wp2_with fail
   go_ret
   refine ⟨ret_bool ?_, hb1⟩
   simp only [beq_iff_eq, beq_eq_false_iff_ne, ne_eq] at he
   simp [endsP, he]
   try (rw [Bool.eq_iff_iff]; simp)
set_option maxRecDepth 100000 in
set_option maxHeartbeats 1000000 in
theorem failq_any {w : World} {P : Nat} {s : ByteArray} {p : PS} {n : Int} (hb : Blk w P (psA s p)) :
   Calls Tryz.prog 99 #[.pointer (some ⟨P, 0, none⟩), .int .i64 n] w fun e w' => e = .returned (.tuple #[]) ∧ Exc P w w' ∧ Blk w' P (psA s (failP p n)) := by
 obtain ⟨at_, deep, e⟩ := p
 have hb : Blk w P #[.string s, .int .i64 at_, .int .i64 deep, .int .i64 e] := hb
 have k_p := hb.cell
 have f_p := hb.free
 have HB := Lib.hid hb
 clear hb
 by_cases he : e = 0
 · subst he
   go_enter Tryz.func99, Tryz.ntmps99
   go_wp2_with fail
   go_end0
   exact ⟨rfl, (Exc.refl P w).set 3 _, HB.out.set_ 3 _⟩
 · have HE := Lib.hid he
   go_enter Tryz.func99, Tryz.ntmps99
   go_wp2_with fail
   go_end0
   refine ⟨rfl, Exc.refl P w, ?_⟩
   unfold failP
   rw [if_neg HE.out]
   exact HB.out
def inB (c : Nat) (l : ByteArray) : Bool := (List.range l.size).any fun j => decide (byteAt l j = c)
theorem inB_no {c : Nat} {l : ByteArray} {k : Nat} (hk : l.size ≤ k) (h : ∀ j, j < k → byteAt l j ≠ c) : inB c l = false := by
 unfold inB
 rw [List.any_eq_false]
 intro j hj
 have := h j (by have := List.mem_range.1 hj; omega)
 simp [this]
theorem inB_yes {c : Nat} {l : ByteArray} {k : Nat} (hk : k < l.size) (h : byteAt l k = c) : inB c l = true := by
 unfold inB
 rw [List.any_eq_true]
 exact ⟨k, List.mem_range.2 hk, by simp [h]⟩
theorem run_ix0 {s : ByteArray} {k b : Nat} (h : k < s.size) (hb : byteAt s k = b) (w : World) : (Instr.index 9 (.string s) (.int .i64 (k : Int))).run Tryz.prog w = .ok (.int .u8 (b : Int)) w := by
 rw [run_index_string w 9 s .i64 _ Tryz.underlying9, dif_pos ⟨by omega, by omega⟩]
 rw [← hb, byteAt_get h]
 rfl
set_option maxRecDepth 100000 in
set_option maxHeartbeats 1000000 in
theorem in_any {w : World} {c : Nat} {l : ByteArray} (hl : l.size ≤ 1000) :
   Calls Tryz.prog 166 #[.int .u8 c, .string l] w fun e w' => e = .returned (.bool (inB c l)) ∧ Below w.heap.size w w' := by
 go_enter Tryz.func166, Tryz.ntmps166
 go_wp2_with fail
 go_loopw [8] (fun i wr => ∃ k : Nat, k ≤ l.size ∧ i = .int .i64 k ∧ Below w.heap.size w wr ∧ Hid (∀ j, j < k → byteAt l j ≠ c)) (fun i _ => l.size - (intOf i).toNat)
 case atStart => exact ⟨0, Nat.zero_le _, rfl, Below.refl _ _, Lib.hid (fun j hj => absurd hj (by omega))⟩
 case round =>
   obtain ⟨k, hk, rfl, hbw, HALL⟩ := hrel
   by_cases hlt : k < l.size
   · generalize hbb : byteAt l k = bb
     have hix := fun wx => run_ix0 hlt hbb wx
     by_cases hc : bb = c
     · have HY := Lib.hid (inB_yes hlt (hbb.trans hc))
       have hq : ((bb : Int) == (c : Int)) = true := by simp; omega
       clear hbb hc
       go_wp2_with fail
       go_ret
       exact ⟨ret_bool HY.out.symm, hbw⟩
     · have HN2 : Hid (∀ j, j < k + 1 → byteAt l j ≠ c) := Lib.hid fun j hj => by
         rcases Nat.lt_or_ge j k with h | h
         · exact HALL.out j h
         · obtain rfl : j = k := by omega
           rw [hbb]; exact hc
       have hq : ((bb : Int) == (c : Int)) = false := by simp; omega
       clear hbb hc
       go_wp2_with fail
       go_roundw
       case rel => exact ⟨k + 1, by omega, by go_num, hbw, HN2⟩
       case measure => simp [intOf]; omega
   · have HX := Lib.hid (inB_no (show l.size ≤ k by omega) HALL.out)
     go_wp2_with fail
     go_ret
     exact ⟨ret_bool HX.out.symm, hbw⟩
theorem in_bar (c : Nat) : inB c ⟨#[42, 43, 63, 41]⟩ = barQ c := by
 have e : List.range (⟨#[42, 43, 63, 41]⟩ : ByteArray).size = [0, 1, 2, 3] := rfl
 unfold inB barQ
 rw [e]
 have b0 : byteAt ⟨#[42, 43, 63, 41]⟩ 0 = 42 := rfl
 have b1 : byteAt ⟨#[42, 43, 63, 41]⟩ 1 = 43 := rfl
 have b2 : byteAt ⟨#[42, 43, 63, 41]⟩ 2 = 63 := rfl
 have b3 : byteAt ⟨#[42, 43, 63, 41]⟩ 3 = 41 := rfl
 simp only [List.any_cons, List.any_nil, b0, b1, b2, b3, Bool.or_false]
 rw [Bool.eq_iff_iff]
 simp only [Bool.or_eq_true, decide_eq_true_eq]
 omega
def setA (i : Ins) : Array Value := #[.int .u64 i.a, .int .u64 i.b, .int .u64 i.c, .int .u64 i.d]
theorem ret_set {fn : Func} {tmps : Array Value} {p : Tmp} {g : Nat} {w : World} {cs : Array Value} (h : fn.results = #[.cell p 107]) (hp : tmps.getD p undef = .pointer (some ⟨g, 0, none⟩)) (hb : Blk w g cs) (hn : cs.size = 4) :
   (results fn tmps).run Tryz.prog w = .ok (.agg cs) w := by
 obtain ⟨T, hb⟩ := hb
 exact results_cell_row h tmps w g T cs (0, 0) _ hp hb Tryz.underlying107 rfl (by rw [hn]; kernel_rfl)
set_option maxRecDepth 100000 in
set_option maxHeartbeats 4000000 in
theorem put_any {w : World} {i : Ins} {f t : Nat} (hf : f < 256) (ht : t < 256) :
   Calls Tryz.prog 164 #[.agg (setA i), .int .i64 f, .int .i64 t] w fun e w' => e = .returned (.agg (setA (rangeI i f t))) ∧ Below w.heap.size w w' := by
 unfold setA
 go_enter Tryz.func164, Tryz.ntmps164
 go_wp2_with fail
 generalize hW : World.alloc _ _ = w1
 obtain ⟨hb, hz⟩ := al2 hW
 have bs_ := Lib.hid (show Blk w1 w.heap.size (setA i) from n21 hW)
 have br_ := Lib.hid (n22 hW)
 have HB1 := Lib.hid hb
 clear hW hb
 go_loopw [7] (fun v wr => ∃ k : Nat, k ≤ t + 1 - f ∧ v = .int .i64 ((f : Int) + k) ∧ Hid (Below w.heap.size w wr) ∧ Hid (Blk wr w.heap.size (setA (rangeK i f k))) ∧ Hid (Blk wr (w.heap.size + 1) #[.int .u64 0, .int .u64 0, .int .u64 0, .int .u64 0])) (fun v _ => t + 1 - (intOf v).toNat)
 case atStart => exact ⟨0, Nat.zero_le _, by simp, HB1, (by simpa [rangeK] using bs_), br_⟩
 case round =>
   obtain ⟨k, hk, rfl, HBW, HS, HR⟩ := hrel
   by_cases hlt : f + k ≤ t
   · have hsz := HS.out.lt
     have HSU := Lib.hid (rangeK_succ i f k)
     obtain ⟨c, hc⟩ : ∃ c, c = f + k := ⟨_, rfl⟩
     have hcc : ((f : Int) + k) = (c : Int) := by omega
     have hc256 : c < 256 := by omega
     rw [← hc] at HSU
     rw [hcc]
     have hK1 : k + 1 ≤ t + 1 - f := by omega
     have hn1 : ((c : Int) + 1) = (f : Int) + (k + 1 : Nat) := by omega
     have hlt2 : c ≤ t := by omega
     have HN1 := Lib.hid hn1
     have HC := Lib.hid hc
     clear hn1
     generalize hcur : rangeK i f k = cur at *
     have hj : c / 64 = 0 ∨ c / 64 = 1 ∨ c / 64 = 2 ∨ c / 64 = 3 := by omega
     have hr : (c : Int).tmod 64 = ((c % 64 : Nat) : Int) := rfl
     have hr2 : ((c % 64 : Nat) : Int) < 64 := by omega
     have hr3 : (0 : Int) ≤ ((c % 64 : Nat) : Int) := by omega
     obtain ⟨kd, a, b_, c_, d_, x_, y_⟩ := cur
     have k_s : ∀ o, wr.cell? ⟨w.heap.size, o, none⟩ = (#[.int .u64 a, .int .u64 b_, .int .u64 c_, .int .u64 d_] : Array Value)[o]? := HS.out.cell
     have f_s := HS.out.free
     clear hcc hc hcur
     rcases hj with hj | hj | hj | hj
     · have hq : (c : Int).tdiv 64 = ((c / 64 : Nat) : Int) := rfl
       rw [hj] at hq
       go_wp2_with fail
       go_roundw
       case rel =>
         refine ⟨k + 1, hK1, by rw [HN1.out], Lib.hid (HBW.out.setCell (Nat.le_refl _) _), ?_, Lib.hid (HR.out.far (Nat.succ_ne_self _) _ _)⟩
         have h9 := HS.out.set_ 0 (.int .u64 (bits BinOp.or IntKind.u64 a (IntKind.u64.wrap (2 ^ (c % 64)))))
         rw [HSU.out]
         have e9 : setA (hasI ⟨kd, a, b_, c_, d_, x_, y_⟩ c) = (#[.int .u64 a, .int .u64 b_, .int .u64 c_, .int .u64 d_] : Array Value).setIfInBounds 0 (.int .u64 (bits BinOp.or IntKind.u64 a (IntKind.u64.wrap (2 ^ (c % 64))))) := by
           unfold setA hasI Ins.put Ins.word
           rw [hj]
           simp
         rw [e9]
         exact Lib.hid h9
       case measure => simp [intOf]; omega
     · have hq : (c : Int).tdiv 64 = ((c / 64 : Nat) : Int) := rfl
       rw [hj] at hq
       go_wp2_with fail
       go_roundw
       case rel =>
         refine ⟨k + 1, hK1, by rw [HN1.out], Lib.hid (HBW.out.setCell (Nat.le_refl _) _), ?_, Lib.hid (HR.out.far (Nat.succ_ne_self _) _ _)⟩
         have h9 := HS.out.set_ 1 (.int .u64 (bits BinOp.or IntKind.u64 b_ (IntKind.u64.wrap (2 ^ (c % 64)))))
         rw [HSU.out]
         have e9 : setA (hasI ⟨kd, a, b_, c_, d_, x_, y_⟩ c) = (#[.int .u64 a, .int .u64 b_, .int .u64 c_, .int .u64 d_] : Array Value).setIfInBounds 1 (.int .u64 (bits BinOp.or IntKind.u64 b_ (IntKind.u64.wrap (2 ^ (c % 64))))) := by
           unfold setA hasI Ins.put Ins.word
           rw [hj]
           simp
         rw [e9]
         exact Lib.hid h9
       case measure => simp [intOf]; omega
     · have hq : (c : Int).tdiv 64 = ((c / 64 : Nat) : Int) := rfl
       rw [hj] at hq
       go_wp2_with fail
       go_roundw
       case rel =>
         refine ⟨k + 1, hK1, by rw [HN1.out], Lib.hid (HBW.out.setCell (Nat.le_refl _) _), ?_, Lib.hid (HR.out.far (Nat.succ_ne_self _) _ _)⟩
         have h9 := HS.out.set_ 2 (.int .u64 (bits BinOp.or IntKind.u64 c_ (IntKind.u64.wrap (2 ^ (c % 64)))))
         rw [HSU.out]
         have e9 : setA (hasI ⟨kd, a, b_, c_, d_, x_, y_⟩ c) = (#[.int .u64 a, .int .u64 b_, .int .u64 c_, .int .u64 d_] : Array Value).setIfInBounds 2 (.int .u64 (bits BinOp.or IntKind.u64 c_ (IntKind.u64.wrap (2 ^ (c % 64))))) := by
           unfold setA hasI Ins.put Ins.word
           rw [hj]
           simp
         rw [e9]
         exact Lib.hid h9
       case measure => simp [intOf]; omega
     · have hq : (c : Int).tdiv 64 = ((c / 64 : Nat) : Int) := rfl
       rw [hj] at hq
       go_wp2_with fail
       go_roundw
       case rel =>
         refine ⟨k + 1, hK1, by rw [HN1.out], Lib.hid (HBW.out.setCell (Nat.le_refl _) _), ?_, Lib.hid (HR.out.far (Nat.succ_ne_self _) _ _)⟩
         have h9 := HS.out.set_ 3 (.int .u64 (bits BinOp.or IntKind.u64 d_ (IntKind.u64.wrap (2 ^ (c % 64)))))
         rw [HSU.out]
         have e9 : setA (hasI ⟨kd, a, b_, c_, d_, x_, y_⟩ c) = (#[.int .u64 a, .int .u64 b_, .int .u64 c_, .int .u64 d_] : Array Value).setIfInBounds 3 (.int .u64 (bits BinOp.or IntKind.u64 d_ (IntKind.u64.wrap (2 ^ (c % 64))))) := by
           unfold setA hasI Ins.put Ins.word
           rw [hj]
           simp
         rw [e9]
         exact Lib.hid h9
       case measure => simp [intOf]; omega
   · have HE : Hid (rangeK i f k = rangeI i f t) := Lib.hid (by
       have : k = t + 1 - f := by omega
       rw [this]; rfl)
     rw [HE.out] at HS
     obtain ⟨cur, hcur⟩ : ∃ cur, rangeI i f t = cur := ⟨_, rfl⟩
     have HCUR := Lib.hid hcur
     rw [hcur] at HS
     clear hcur HE
     have k_s : ∀ o, wr.cell? ⟨w.heap.size, o, none⟩ = (#[.int .u64 cur.a, .int .u64 cur.b, .int .u64 cur.c, .int .u64 cur.d] : Array Value)[o]? := HS.out.cell
     have k_r := HR.out.cell
     have f_r := HR.out.free
     have l_s := HS.out.lt
     have l_r := HR.out.lt
     go_wp2_with fail
     refine bodyPost_ret (ret_set rfl rfl (put4b HR.out _ _ _ _) rfl) rfl ?_
     rw [HCUR.out]
     exact ⟨rfl, put4u HBW.out (Nat.le_succ _) _ _ _ _⟩
open Go.ChangeShapes Go.WideShapes Go.ChangeAt Go.RowKit
structure QS (P : Nat) (s : ByteArray) (w0 w : World) (p : PS) : Prop where
 pb : Blk w P (psA s p)
 ex : Exc P w0 w
 hP : P < w0.heap.size
section
variable {P : Nat} {s : ByteArray} {w0 w w' : World} {p q : PS}
theorem QS.later (h : QS P s w0 w p) (hb : Below w.heap.size w w') : QS P s w0 w' p := ⟨h.pb.later hb, h.ex.then (Nat.le_of_lt h.hP) hb, h.hP⟩
theorem QS.exP (h : QS P s w0 w p) (he : Exc P w w') (hp : Blk w' P (psA s q)) : QS P s w0 w' q := ⟨hp, h.ex.trans he, h.hP⟩
theorem QS.step (h : QS P s w0 w p) : QS P s w0 (w.setCell ⟨P, 1, none⟩ (.int .i64 ((p.at_ : Int) + 1))) p.step := ⟨stepped h.pb, h.ex.set 1 _, h.hP⟩
theorem QS.cells (h : QS P s w0 w p) : ∀ o, w.cell? ⟨P, o, none⟩ = (#[.string s, .int .i64 p.at_, .int .i64 p.deep, .int .i64 p.e] : Array Value)[o]? := h.pb.cell
theorem QS.re (h : QS P s w0 w p) : ∀ (d : Nat) (os : Array Obj) (o : Nat), (Sort.grow (redrawn w d) os).cell? ⟨P, o, none⟩ = (#[.string s, .int .i64 p.at_, .int .i64 p.deep, .int .i64 p.e] : Array Value)[o]? := h.pb.regrown
end
theorem isP_of {s : ByteArray} {p : PS} {c b : Nat} (he : endsP s p = false) (hb : byteAt s p.at_ = b) : isP s p c = decide (b = c) := by unfold isP; rw [he, hb]; rfl
theorem isP_end {s : ByteArray} {p : PS} {c : Nat} (he : endsP s p = true) : isP s p c = false := by unfold isP; rw [he]; rfl
set_option maxRecDepth 100000 in
set_option maxHeartbeats 4000000 in
theorem memberq_any {w0 : World} {P : Nat} {s : ByteArray} {p : PS} (hb : Blk w0 P (psA s p)) (hs : s.size ≤ 100000) (ha : p.at_ ≤ s.size) :
   Calls Tryz.prog 170 #[.pointer (some ⟨P, 0, none⟩)] w0 fun e w' => e = .returned (.int .i64 (memberQ s p).1) ∧ Exc P w0 w' ∧ Blk w' P (psA s (memberQ s p).2) := by
 have H0 : Hid (QS P s w0 w0 p) := Lib.hid ⟨hb, Exc.refl _ _, hb.lt⟩
 clear hb
 go_enter Tryz.func170, Tryz.ntmps170
 go_wp2_with fail
 go_cut [16] (fun v wx => v = .bool (isP s p 92) ∧ Hid (QS P s w0 wx p))
 case first =>
   have q_p := H0.out.re
   rcases Bool.eq_false_or_eq_true (endsP s p) with he | he
   · have HE : Hid ((!endsP s p) = false) := Lib.hid (by rw [he]; rfl)
     have HI := Lib.hid (isP_end (c := 92) he)
     clear he
     refine wp_region_quiet_below (by kernel_rfl) (by kernel_rfl) ?_
     repeat (go_big_quiet_step ((go_at_call 98; exact Calls.regrown_of (as_bool HE.out (more_any (H0.out.pb.later (below_regrown _ _ _)) (by omega) (by omega))))))
     refine wpQuiet_nil ?_
     intro wq hwq
     have hbq : Below w0.heap.size w0 wq := by obtain ⟨p, rfl⟩ := hwq; exact below_regrown _ _ _
     clear hwq q_p
     go_wp2_with fail
     go_meet
     exact ⟨by rw [HI.out], Lib.hid (H0.out.later hbq)⟩
   · have HE : Hid ((!endsP s p) = true) := Lib.hid (by rw [he]; rfl)
     have hlt := (more_at he).2
     obtain ⟨bb, hbb⟩ : ∃ bb, byteAt s (p).at_ = bb := ⟨_, rfl⟩
     have hix := fun wx => run_ix0 hlt hbb wx
     have HI := Lib.hid (isP_of (c := 92) he hbb)
     clear he hbb
     rcases Nat.decEq bb 92 with hk | hk
     · have hk1 : ((bb : Int) == 92) = false := by simp; omega
       have hk2 : ((bb : Int) != 92) = true := by rw [bne, hk1]; rfl
       have HI2 : Hid (isP s p 92 = false) := Lib.hid (by rw [HI.out]; simp [hk])
       clear hk
       refine wp_region_quiet_below (by kernel_rfl) (by kernel_rfl) ?_
       repeat (go_big_quiet_step ((go_at_call 98; exact Calls.regrown_of (as_bool HE.out (more_any (H0.out.pb.later (below_regrown _ _ _)) (by omega) (by omega))))))
       refine wpQuiet_nil ?_
       intro wq hwq
       have hbq : Below w0.heap.size w0 wq := by obtain ⟨p, rfl⟩ := hwq; exact below_regrown _ _ _
       clear hwq q_p hix hk1 hk2
       go_wp2_with fail
       go_meet
       exact ⟨by rw [HI2.out], Lib.hid (H0.out.later hbq)⟩
     · have hk1 : ((bb : Int) == 92) = true := by simp; omega
       have hk2 : ((bb : Int) != 92) = false := by rw [bne, hk1]; rfl
       have HI2 : Hid (isP s p 92 = true) := Lib.hid (by rw [HI.out]; simp [hk])
       clear hk
       refine wp_region_quiet_below (by kernel_rfl) (by kernel_rfl) ?_
       repeat (go_big_quiet_step ((go_at_call 98; exact Calls.regrown_of (as_bool HE.out (more_any (H0.out.pb.later (below_regrown _ _ _)) (by omega) (by omega))))))
       refine wpQuiet_nil ?_
       intro wq hwq
       have hbq : Below w0.heap.size w0 wq := by obtain ⟨p, rfl⟩ := hwq; exact below_regrown _ _ _
       clear hwq q_p hix hk1 hk2
       go_wp2_with fail
       go_meet
       exact ⟨by rw [HI2.out], Lib.hid (H0.out.later hbq)⟩
 case rest =>
   obtain ⟨rfl, H1⟩ := hcut
   rcases Bool.eq_false_or_eq_true (isP s p 92) with hi | hi
   · have HMQ : Hid (memberQ s p = nextP s p.step) := Lib.hid (by unfold memberQ; rw [if_pos hi])
     obtain ⟨hlt, _⟩ := is_lt hi
     have k_p := H1.out.cells
     have f_p := H1.out.pb.free
     have hw1 : wrap64 ((p.at_ : Int) + 1) = (p.at_ : Int) + 1 := wrap_id (by omega) (by omega)
     rw [hi]
     clear hi
     go_wp2_with fail
     have H2 := Lib.hid H1.out.step
     generalize wc.setCell _ _ = wv0 at *
     clear k_p f_p hw1
     have hq1 : (p.step).at_ ≤ s.size + 1 := by (show p.at_ + 1 ≤ _; omega)
     generalize hqq : p.step = q at *
     have HQQ := Lib.hid hqq
     clear hqq
     refine (more_any (s := s) (p := q) H2.out.pb (by omega) (by omega)).mono ?_
     rintro e wt ⟨rfl, hb⟩
     have HT := Lib.hid (H2.out.later hb)
     clear hb H2
     rcases Bool.eq_false_or_eq_true (endsP s q) with he | he
     · have HN : Hid (memberQ s p = (0, failP q 3)) := Lib.hid (by rw [HMQ.out]; (try rw [HQQ.out]); unfold nextP; rw [he]; rfl)
       rw [he]
       clear he
       go_wp2_with fail
       refine (failq_any (s := s) (p := q) (n := 3) HT.out.pb).mono ?_
       rintro e wu ⟨rfl, he, hp⟩
       have HU := Lib.hid (HT.out.exP he hp)
       clear he hp
       go_wp2_with fail
       go_ret
       rw [HN.out]
       exact ⟨rfl, HU.out.ex, HU.out.pb⟩
     · obtain ⟨h0, hlt⟩ := more_at he
       obtain ⟨bb, hbb⟩ : ∃ bb, byteAt s q.at_ = bb := ⟨_, rfl⟩
       have HN : Hid (memberQ s p = (bb, q.step)) := Lib.hid (by rw [HMQ.out]; (try rw [HQQ.out]); unfold nextP; rw [he, hbb]; rfl)
       rw [he]
       have hix := fun wx => run_ix0 hlt hbb wx
       have hb256 : bb < 256 := by rw [← hbb]; exact byteAt_lt _ _
       clear he hbb
       have k_p := HT.out.cells
       have f_p := HT.out.pb.free
       have hw1 : wrap64 ((q.at_ : Int) + 1) = (q.at_ : Int) + 1 := wrap_id (by omega) (by omega)
       have hw2 : wrap64 ((q.at_ : Int) + 1 - 1) = (q.at_ : Int) := (congrArg wrap64 (by omega)).trans (wrap_id (n := (q.at_ : Int)) (by omega) (by omega))
       go_wp2_with fail
       have HV := Lib.hid HT.out.step
       generalize wt.setCell _ _ = wv at *
       have q_p : ∀ (d : Nat) (os : Array Obj) (o : Nat), (Sort.grow (redrawn wv d) os).cell? ⟨P, o, none⟩ = (#[.string s, .int .i64 ((q.at_ : Int) + 1), .int .i64 q.deep, .int .i64 q.e] : Array Value)[o]? := HV.out.re
       clear k_p f_p
       refine wp_region_quiet_below (by kernel_rfl) (by kernel_rfl) ?_
       repeat (go_big_quiet_step (fail))
       refine wpQuiet_nil ?_
       intro wq hwq
       have hbq : Below wv.heap.size wv wq := by obtain ⟨p, rfl⟩ := hwq; exact below_regrown _ _ _
       have HX := Lib.hid (HV.out.later hbq)
       clear hwq q_p hbq
       go_wp2_with fail
       go_ret
       rw [HN.out]
       exact ⟨rfl, HX.out.ex, HX.out.pb⟩
   · have HP := Lib.hid hi
     rw [hi]
     clear hi
     go_wp2_with fail
     go_cut [37] (fun v wx => v = .bool (isP s p 93) ∧ Hid (QS P s w0 wx p))
     case first =>
       have q_p := H1.out.re
       rcases Bool.eq_false_or_eq_true (endsP s p) with he | he
       · have HE : Hid ((!endsP s p) = false) := Lib.hid (by rw [he]; rfl)
         have HI := Lib.hid (isP_end (c := 93) he)
         clear he
         refine wp_region_quiet_below (by kernel_rfl) (by kernel_rfl) ?_
         repeat (go_big_quiet_step ((go_at_call 98; exact Calls.regrown_of (as_bool HE.out (more_any (H1.out.pb.later (below_regrown _ _ _)) (by omega) (by omega))))))
         refine wpQuiet_nil ?_
         intro wq hwq
         have hbq : Below wc.heap.size wc wq := by obtain ⟨p, rfl⟩ := hwq; exact below_regrown _ _ _
         clear hwq q_p
         go_wp2_with fail
         go_meet
         exact ⟨by rw [HI.out], Lib.hid (H1.out.later hbq)⟩
       · have HE : Hid ((!endsP s p) = true) := Lib.hid (by rw [he]; rfl)
         have hlt := (more_at he).2
         obtain ⟨bb, hbb⟩ : ∃ bb, byteAt s (p).at_ = bb := ⟨_, rfl⟩
         have hix := fun wx => run_ix0 hlt hbb wx
         have HI := Lib.hid (isP_of (c := 93) he hbb)
         clear he hbb
         rcases Nat.decEq bb 93 with hk | hk
         · have hk1 : ((bb : Int) == 93) = false := by simp; omega
           have hk2 : ((bb : Int) != 93) = true := by rw [bne, hk1]; rfl
           have HI2 : Hid (isP s p 93 = false) := Lib.hid (by rw [HI.out]; simp [hk])
           clear hk
           refine wp_region_quiet_below (by kernel_rfl) (by kernel_rfl) ?_
           repeat (go_big_quiet_step ((go_at_call 98; exact Calls.regrown_of (as_bool HE.out (more_any (H1.out.pb.later (below_regrown _ _ _)) (by omega) (by omega))))))
           refine wpQuiet_nil ?_
           intro wq hwq
           have hbq : Below wc.heap.size wc wq := by obtain ⟨p, rfl⟩ := hwq; exact below_regrown _ _ _
           clear hwq q_p hix hk1 hk2
           go_wp2_with fail
           go_meet
           exact ⟨by rw [HI2.out], Lib.hid (H1.out.later hbq)⟩
         · have hk1 : ((bb : Int) == 93) = true := by simp; omega
           have hk2 : ((bb : Int) != 93) = false := by rw [bne, hk1]; rfl
           have HI2 : Hid (isP s p 93 = true) := Lib.hid (by rw [HI.out]; simp [hk])
           clear hk
           refine wp_region_quiet_below (by kernel_rfl) (by kernel_rfl) ?_
           repeat (go_big_quiet_step ((go_at_call 98; exact Calls.regrown_of (as_bool HE.out (more_any (H1.out.pb.later (below_regrown _ _ _)) (by omega) (by omega))))))
           refine wpQuiet_nil ?_
           intro wq hwq
           have hbq : Below wc.heap.size wc wq := by obtain ⟨p, rfl⟩ := hwq; exact below_regrown _ _ _
           clear hwq q_p hix hk1 hk2
           go_wp2_with fail
           go_meet
           exact ⟨by rw [HI2.out], Lib.hid (H1.out.later hbq)⟩
     case rest =>
       obtain ⟨rfl, H2⟩ := hcut
       rcases Bool.eq_false_or_eq_true (isP s p 93) with hi | hi
       · have HMQ : Hid (memberQ s p = nextP s (failP p 3)) := Lib.hid (by unfold memberQ; rw [HP.out, hi]; rfl)
         rw [hi]
         clear hi
         go_wp2_with fail
         refine (failq_any (s := s) (p := p) (n := 3) H2.out.pb).mono ?_
         rintro e w3 ⟨rfl, he, hp⟩
         have H3 := Lib.hid (H2.out.exP he hp)
         clear he hp
         go_wp2_with fail
         have hq1 : (failP p 3).at_ ≤ s.size + 1 := by (rw [fail_at]; omega)
         generalize hqq : failP p 3 = q at *
         have HQQ := Lib.hid hqq
         clear hqq
         refine (more_any (s := s) (p := q) H3.out.pb (by omega) (by omega)).mono ?_
         rintro e wt ⟨rfl, hb⟩
         have HT := Lib.hid (H3.out.later hb)
         clear hb H3
         rcases Bool.eq_false_or_eq_true (endsP s q) with he | he
         · have HN : Hid (memberQ s p = (0, failP q 3)) := Lib.hid (by rw [HMQ.out]; (try rw [HQQ.out]); unfold nextP; rw [he]; rfl)
           rw [he]
           clear he
           go_wp2_with fail
           refine (failq_any (s := s) (p := q) (n := 3) HT.out.pb).mono ?_
           rintro e wu ⟨rfl, he, hp⟩
           have HU := Lib.hid (HT.out.exP he hp)
           clear he hp
           go_wp2_with fail
           go_ret
           rw [HN.out]
           exact ⟨rfl, HU.out.ex, HU.out.pb⟩
         · obtain ⟨h0, hlt⟩ := more_at he
           obtain ⟨bb, hbb⟩ : ∃ bb, byteAt s q.at_ = bb := ⟨_, rfl⟩
           have HN : Hid (memberQ s p = (bb, q.step)) := Lib.hid (by rw [HMQ.out]; (try rw [HQQ.out]); unfold nextP; rw [he, hbb]; rfl)
           rw [he]
           have hix := fun wx => run_ix0 hlt hbb wx
           have hb256 : bb < 256 := by rw [← hbb]; exact byteAt_lt _ _
           clear he hbb
           have k_p := HT.out.cells
           have f_p := HT.out.pb.free
           have hw1 : wrap64 ((q.at_ : Int) + 1) = (q.at_ : Int) + 1 := wrap_id (by omega) (by omega)
           have hw2 : wrap64 ((q.at_ : Int) + 1 - 1) = (q.at_ : Int) := (congrArg wrap64 (by omega)).trans (wrap_id (n := (q.at_ : Int)) (by omega) (by omega))
           go_wp2_with fail
           have HV := Lib.hid HT.out.step
           generalize wt.setCell _ _ = wv at *
           have q_p : ∀ (d : Nat) (os : Array Obj) (o : Nat), (Sort.grow (redrawn wv d) os).cell? ⟨P, o, none⟩ = (#[.string s, .int .i64 ((q.at_ : Int) + 1), .int .i64 q.deep, .int .i64 q.e] : Array Value)[o]? := HV.out.re
           clear k_p f_p
           refine wp_region_quiet_below (by kernel_rfl) (by kernel_rfl) ?_
           repeat (go_big_quiet_step (fail))
           refine wpQuiet_nil ?_
           intro wq hwq
           have hbq : Below wv.heap.size wv wq := by obtain ⟨p, rfl⟩ := hwq; exact below_regrown _ _ _
           have HX := Lib.hid (HV.out.later hbq)
           clear hwq q_p hbq
           go_wp2_with fail
           go_ret
           rw [HN.out]
           exact ⟨rfl, HX.out.ex, HX.out.pb⟩
       · have HMQ : Hid (memberQ s p = nextP s p) := Lib.hid (by unfold memberQ; rw [HP.out, hi]; rfl)
         rw [hi]
         clear hi
         go_wp2_with fail
         have hq1 : (p).at_ ≤ s.size + 1 := by omega
         obtain ⟨q, hqq⟩ : ∃ q, p = q := ⟨_, rfl⟩
         have HQQ := Lib.hid hqq
         rw [hqq] at hq1 H2
         clear hqq
         refine (more_any (s := s) (p := q) H2.out.pb (by omega) (by omega)).mono ?_
         rintro e wt ⟨rfl, hb⟩
         have HT := Lib.hid (H2.out.later hb)
         clear hb H2
         rcases Bool.eq_false_or_eq_true (endsP s q) with he | he
         · have HN : Hid (memberQ s p = (0, failP q 3)) := Lib.hid (by rw [HMQ.out]; (try rw [HQQ.out]); unfold nextP; rw [he]; rfl)
           rw [he]
           clear he
           go_wp2_with fail
           refine (failq_any (s := s) (p := q) (n := 3) HT.out.pb).mono ?_
           rintro e wu ⟨rfl, he, hp⟩
           have HU := Lib.hid (HT.out.exP he hp)
           clear he hp
           go_wp2_with fail
           go_ret
           rw [HN.out]
           exact ⟨rfl, HU.out.ex, HU.out.pb⟩
         · obtain ⟨h0, hlt⟩ := more_at he
           obtain ⟨bb, hbb⟩ : ∃ bb, byteAt s q.at_ = bb := ⟨_, rfl⟩
           have HN : Hid (memberQ s p = (bb, q.step)) := Lib.hid (by rw [HMQ.out]; (try rw [HQQ.out]); unfold nextP; rw [he, hbb]; rfl)
           rw [he]
           have hix := fun wx => run_ix0 hlt hbb wx
           have hb256 : bb < 256 := by rw [← hbb]; exact byteAt_lt _ _
           clear he hbb
           have k_p := HT.out.cells
           have f_p := HT.out.pb.free
           have hw1 : wrap64 ((q.at_ : Int) + 1) = (q.at_ : Int) + 1 := wrap_id (by omega) (by omega)
           have hw2 : wrap64 ((q.at_ : Int) + 1 - 1) = (q.at_ : Int) := (congrArg wrap64 (by omega)).trans (wrap_id (n := (q.at_ : Int)) (by omega) (by omega))
           go_wp2_with fail
           have HV := Lib.hid HT.out.step
           generalize wt.setCell _ _ = wv at *
           have q_p : ∀ (d : Nat) (os : Array Obj) (o : Nat), (Sort.grow (redrawn wv d) os).cell? ⟨P, o, none⟩ = (#[.string s, .int .i64 ((q.at_ : Int) + 1), .int .i64 q.deep, .int .i64 q.e] : Array Value)[o]? := HV.out.re
           clear k_p f_p
           refine wp_region_quiet_below (by kernel_rfl) (by kernel_rfl) ?_
           repeat (go_big_quiet_step (fail))
           refine wpQuiet_nil ?_
           intro wq hwq
           have hbq : Below wv.heap.size wv wq := by obtain ⟨p, rfl⟩ := hwq; exact below_regrown _ _ _
           have HX := Lib.hid (HV.out.later hbq)
           clear hwq q_p hbq
           go_wp2_with fail
           go_ret
           rw [HN.out]
           exact ⟨rfl, HX.out.ex, HX.out.pb⟩
end Go.Proofs.YtiplipdigabidaaGreat
