/- viaticumref6.compiler.class, one. -/
import Derived.Test.YtiplipdigabidaaGreatRq2
import Derived.Test.YtiplipdigabidaaGreatRq3
set_option linter.unusedVariables false
set_option linter.unusedSimpArgs false
namespace Go.Proofs.YtiplipdigabidaaGreat
open Go.ChangeShapes Go.WideShapes Go.ChangeAt Go.RowKit
def PEQ (P : Nat) (s : ByteArray) (w w' : World) (r : List Ins × PS) (e : Ending) : Prop :=
 (∃ A c, e = .returned (.slice A r.1.length c) ∧ OwnR InsR 109 w' w.heap.size 0 (.slice A r.1.length c) r.1) ∧ Exc P w w' ∧ Blk w' P (psA s r.2)
theorem inq_new {w W : World} {i : Ins} {base : Nat} {o : Obj} (h : w.alloc o = W) (ho : o = .cells (insC i).toArray 109) (hb : base ≤ w.heap.size) : OwnR InsR 109 W base 0 (.slice (some ⟨w.heap.size, 0, none⟩) 1 1) [i] := by
 subst ho
 have hB : BlkT W w.heap.size (insC i).toArray 109 := h ▸ heap_alloc_new w _
 exact hB.own (R := InsR) (xs := [i]) (Flat.one rfl) hb rfl (by unfold maxLen; omega)
theorem hasI_rest (i : Ins) (c : Nat) : (hasI i c).x = i.x ∧ (hasI i c).y = i.y := by
 unfold hasI
 generalize bits BinOp.or IntKind.u64 (i.word (c / 64)) (IntKind.u64.wrap (1 * 2 ^ (c % 64))) = v
 unfold Ins.put
 split
 · exact ⟨rfl, rfl⟩
 · split
   · exact ⟨rfl, rfl⟩
   · split
     · exact ⟨rfl, rfl⟩
     · exact ⟨rfl, rfl⟩
theorem range_one (i : Ins) (c : Nat) : rangeI i c c = hasI i c := by
 have e : c + 1 - c = 1 := by omega
 unfold rangeI
 rw [e]
 rfl
set_option maxRecDepth 100000 in
set_option maxHeartbeats 1000000 in
theorem one_any {w : World} {c : Nat} (hc : c < 256) :
   Calls Tryz.prog 163 #[.int .u8 c] w fun e w' => ListQ w w' [hasI charI c] e := by
 go_enter Tryz.func163, Tryz.ntmps163
 go_wp2_with fail
 refine (put_any (i := charI) (f := c) (t := c) hc hc).mono ?_
 rintro e w1 ⟨rfl, hb⟩
 have HB1 := Lib.hid hb
 rw [range_one]
 clear hb
 unfold setA
 go_wp2_with fail
 go_ret
 have hk : (hasI charI c).kind = 1 := hasI_kind charI c
 have hxy : (hasI charI c).x = 0 ∧ (hasI charI c).y = 0 := hasI_rest charI c
 have e7 : insC (hasI charI c) = [.int .i64 1, .int .u64 (hasI charI c).a, .int .u64 (hasI charI c).b, .int .u64 (hasI charI c).c, .int .u64 (hasI charI c).d, .int .i64 0, .int .i64 0] := by unfold insC; rw [hk, hxy.1, hxy.2]
 refine ⟨⟨_, _, rfl, (inq_new (w := w1) (i := hasI charI c) rfl (by rw [e7]) HB1.out.size)⟩, HB1.out.alloc HB1.out.size _⟩
structure CQ (P G : Nat) (s : ByteArray) (w0 w : World) (p : PS) (i : Ins) : Prop where
 pb : Blk w P (psA s p)
 ex : Exc P w0 w
 hP : P < w0.heap.size
 gb : Blk w G (setA i)
 hG : w0.heap.size ≤ G
section
variable {P G : Nat} {s : ByteArray} {w0 w w' : World} {p q : PS} {i j : Ins}
theorem CQ.later (h : CQ P G s w0 w p i) (hb : Below w.heap.size w w') : CQ P G s w0 w' p i := ⟨h.pb.later hb, h.ex.then (Nat.le_of_lt h.hP) hb, h.hP, h.gb.later hb, h.hG⟩
theorem CQ.exP (h : CQ P G s w0 w p i) (he : Exc P w w') (hp : Blk w' P (psA s q)) : CQ P G s w0 w' q i := ⟨hp, h.ex.trans he, h.hP, he.blk (by have := h.hP; have := h.hG; omega) h.gb, h.hG⟩
theorem CQ.step (h : CQ P G s w0 w p i) : CQ P G s w0 (w.setCell ⟨P, 1, none⟩ (.int .i64 ((p.at_ : Int) + 1))) p.step i := ⟨stepped h.pb, h.ex.set 1 _, h.hP, h.gb.far (by have := h.hP; have := h.hG; omega) _ _, h.hG⟩
theorem CQ.cells (h : CQ P G s w0 w p i) : ∀ o, w.cell? ⟨P, o, none⟩ = (#[.string s, .int .i64 p.at_, .int .i64 p.deep, .int .i64 p.e] : Array Value)[o]? := h.pb.cell
theorem CQ.re (h : CQ P G s w0 w p i) : ∀ (d : Nat) (os : Array Obj) (o : Nat), (Sort.grow (redrawn w d) os).cell? ⟨P, o, none⟩ = (#[.string s, .int .i64 p.at_, .int .i64 p.deep, .int .i64 p.e] : Array Value)[o]? := h.pb.regrown
theorem CQ.setG (h : CQ P G s w0 w p i) (n : Nat) (v : Value) (hj : setA j = (setA i).setIfInBounds n v) : CQ P G s w0 (w.setCell ⟨G, n, none⟩ v) p j :=
 ⟨h.pb.far (by have := h.hP; have := h.hG; omega) _ _, h.ex.fresh ((Exc.refl G w).set n v) h.hP h.hG, h.hP, by rw [hj]; exact h.gb.set_ n v, h.hG⟩
theorem CQ.put (h : CQ P G s w0 w p i) (j : Ins) : CQ P G s w0 ((((w.setCell ⟨G, 0, none⟩ (.int .u64 j.a)).setCell ⟨G, 1, none⟩ (.int .u64 j.b)).setCell ⟨G, 2, none⟩ (.int .u64 j.c)).setCell ⟨G, 3, none⟩ (.int .u64 j.d)) p j :=
 have hne : P ≠ G := by have := h.hP; have := h.hG; omega
 ⟨(((h.pb.far hne _ _).far hne _ _).far hne _ _).far hne _ _, h.ex.fresh ((((Exc.refl G w).set 0 _).set 1 _).set 2 _ |>.set 3 _) h.hP h.hG, h.hP, (((h.gb.set_ 0 _).set_ 1 _).set_ 2 _).set_ 3 _, h.hG⟩
end
theorem classLQ_stop {s : ByteArray} {n : Nat} {first : Bool} {p : PS} {i : Ins} (h : (first || (!endsP s p && !isP s p 93)) = false) : classLQ s n first p i = (i, p) := by
 cases n with
 | zero => rfl
 | succ n => unfold classLQ; rw [h]; rfl
theorem classLQ_go {s : ByteArray} {n : Nat} {first : Bool} {p q : PS} {x y : Nat} {i : Ins} (h : (first || (!endsP s p && !isP s p 93)) = true) (hs : spanQ s p = ((x, y), q)) : classLQ s (n + 1) first p i = if q.e ≠ 0 then (i, q) else classLQ s n false q (rangeI i x y) := by
 rw [classLQ, if_pos h, hs]
def classEnd (s : ByteArray) (nb : Bool) (r : Ins × PS) : List Ins × PS := if endsP s r.2 then ([], failP r.2 3) else ([if nb then complI r.1 else r.1], r.2.step)
theorem classQ_eq (s : ByteArray) (p : PS) : classQ s p = classEnd s (isP s p 94) (classLQ s (s.size + 2 - (psNot s p).at_) true (psNot s p) charI) := rfl
theorem classEnd_err {s : ByteArray} {nb : Bool} {r : Ins × PS} (h : r.2.e ≠ 0) : classEnd s nb r = ([], r.2) := by
 unfold classEnd
 rw [ends_err h, fail_err h]; rfl
theorem charLike {i : Ins} (h : i.kind = 1 ∧ i.x = 0 ∧ i.y = 0) (f t : Nat) : (rangeI i f t).kind = 1 ∧ (rangeI i f t).x = 0 ∧ (rangeI i f t).y = 0 := by
 have key : ∀ (l : List Nat) (i : Ins), i.kind = 1 ∧ i.x = 0 ∧ i.y = 0 → (l.foldl (fun i k => hasI i (f + k)) i).kind = 1 ∧ (l.foldl (fun i k => hasI i (f + k)) i).x = 0 ∧ (l.foldl (fun i k => hasI i (f + k)) i).y = 0 := by
   intro l
   induction l with
   | nil => exact fun _ h => h
   | cons a l ih =>
     intro i h
     refine ih _ ?_
     have h1 := hasI_rest i (f + a)
     exact ⟨(hasI_kind i (f + a)).trans h.1, h1.1.trans h.2.1, h1.2.trans h.2.2⟩
 exact key _ i h
set_option maxRecDepth 100000 in
set_option maxHeartbeats 8000000 in
theorem classq_any {w0 : World} {P : Nat} {s : ByteArray} {p : PS} (hb : Blk w0 P (psA s p)) (hs : s.size ≤ 100000) (ha : p.at_ ≤ s.size) :
   Calls Tryz.prog 165 #[.pointer (some ⟨P, 0, none⟩)] w0 fun e w' => PEQ P s w0 w' (classQ s p) e := by
 have H0 : Hid (QS P s w0 w0 p) := Lib.hid ⟨hb, Exc.refl _ _, hb.lt⟩
 clear hb
 go_enter Tryz.func165, Tryz.ntmps165
 go_wp2_with fail
 go_cut [3] (fun v wx => v = .bool (isP s p 94) ∧ Hid (QS P s w0 wx p))
 case first =>
   have q_p := H0.out.re
   rcases Bool.eq_false_or_eq_true (endsP s p) with he | he
   · have HE : Hid ((!endsP s p) = false) := Lib.hid (by rw [he]; rfl)
     have HI := Lib.hid (isP_end (c := 94) he)
     have HEN := Lib.hid he
     clear he
     refine wp_region_quiet_below (by kernel_rfl) (by kernel_rfl) ?_
     repeat (go_big_quiet_step ((go_at_call 98; exact Calls.regrown_of (as_bool HE.out (more_any (H0.out.pb.later (below_regrown _ _ _)) (by omega) (by omega))))))
     refine wpQuiet_nil ?_
     intro wq hwq
     have hbq : Below w0.heap.size w0 wq := by obtain ⟨p, rfl⟩ := hwq; exact below_regrown _ _ _
     clear hwq q_p
     go_wp2_with fail
     go_meet
     exact ⟨by simp [HI.out, HEN.out], Lib.hid (H0.out.later hbq)⟩
   · have HE : Hid ((!endsP s p) = true) := Lib.hid (by rw [he]; rfl)
     have hlt := (more_at he).2
     have HEN := Lib.hid he
     obtain ⟨bb, hbb⟩ : ∃ bb, byteAt s (p).at_ = bb := ⟨_, rfl⟩
     have hix := fun wx => run_ix0 hlt hbb wx
     have HI := Lib.hid (isP_of (c := 94) he hbb)
     clear he hbb
     rcases Nat.decEq bb 94 with hk | hk
     · have hk1 : ((bb : Int) == 94) = false := by simp; omega
       have hk2 : ((bb : Int) != 94) = true := by rw [bne, hk1]; rfl
       have HI2 : Hid (isP s p 94 = false) := Lib.hid (by rw [HI.out]; simp [hk])
       clear hk
       refine wp_region_quiet_below (by kernel_rfl) (by kernel_rfl) ?_
       repeat (go_big_quiet_step ((go_at_call 98; exact Calls.regrown_of (as_bool HE.out (more_any (H0.out.pb.later (below_regrown _ _ _)) (by omega) (by omega))))))
       refine wpQuiet_nil ?_
       intro wq hwq
       have hbq : Below w0.heap.size w0 wq := by obtain ⟨p, rfl⟩ := hwq; exact below_regrown _ _ _
       clear hwq q_p hix hk1 hk2
       go_wp2_with fail
       go_meet
       exact ⟨by simp [HI2.out, HEN.out], Lib.hid (H0.out.later hbq)⟩
     · have hk1 : ((bb : Int) == 94) = true := by simp; omega
       have hk2 : ((bb : Int) != 94) = false := by rw [bne, hk1]; rfl
       have HI2 : Hid (isP s p 94 = true) := Lib.hid (by rw [HI.out]; simp [hk])
       clear hk
       refine wp_region_quiet_below (by kernel_rfl) (by kernel_rfl) ?_
       repeat (go_big_quiet_step ((go_at_call 98; exact Calls.regrown_of (as_bool HE.out (more_any (H0.out.pb.later (below_regrown _ _ _)) (by omega) (by omega))))))
       refine wpQuiet_nil ?_
       intro wq hwq
       have hbq : Below w0.heap.size w0 wq := by obtain ⟨p, rfl⟩ := hwq; exact below_regrown _ _ _
       clear hwq q_p hix hk1 hk2
       go_wp2_with fail
       go_meet
       exact ⟨by simp [HI2.out, HEN.out], Lib.hid (H0.out.later hbq)⟩
 case rest =>
   obtain ⟨rfl, H1⟩ := hcut
   go_upto_if 23 with fail
   go_cut [3] (fun v3 wx => v3 = .bool (isP s p 94) ∧ Hid (QS P s w0 wx (psNot s p)))
   case first =>
     rcases Bool.eq_false_or_eq_true (isP s p 94) with hi | hi
     · obtain ⟨hlt, _⟩ := is_lt hi
       have HP : Hid (psNot s p = p.step) := Lib.hid (by unfold psNot; rw [if_pos hi])
       have k_p := H1.out.cells
       have f_p := H1.out.pb.free
       have hw1 : wrap64 ((p.at_ : Int) + 1) = (p.at_ : Int) + 1 := wrap_id (by omega) (by omega)
       have HI := Lib.hid hi
       rw [hi]
       clear hi
       go_wp2_with fail
       go_meet
       exact ⟨by rw [HI.out], by rw [HP.out]; exact Lib.hid H1.out.step⟩
     · have HP : Hid (psNot s p = p) := Lib.hid (by unfold psNot; rw [hi]; rfl)
       have HI := Lib.hid hi
       rw [hi]
       clear hi
       go_wp2_with fail
       go_meet
       exact ⟨by rw [HI.out], by rw [HP.out]; exact H1⟩
   case rest =>
     obtain ⟨rfl, H2⟩ := hcut
     clear H1
     have hat : (psNot s p).at_ ≤ s.size := by
       unfold psNot
       split
       · rename_i h; have := is_lt h; show p.at_ + 1 ≤ _; omega
       · exact ha
     have HCQ := Lib.hid (classQ_eq s p)
     generalize psNot s p = q at *
     generalize isP s p 94 = nb at *
     go_upto_region 6 with fail
     generalize hW : World.alloc _ _ = w1
     obtain ⟨hb, hz⟩ := al1 hW
     have HC1 : Hid (CQ P wc.heap.size s w0 w1 q charI) := Lib.hid ⟨H2.out.pb.later hb, H2.out.ex.then (Nat.le_of_lt H2.out.hP) hb, H2.out.hP, n11 hW, H2.out.ex.1.size⟩
     clear hW hb hz H2
     generalize wc.heap.size = G at *
     go_loopg [5] (s.size + 2 - q.at_) (fun g v5 wr => ∃ (first : Bool) (p1 : PS) (i : Ins), v5 = .bool first ∧ Hid (classLQ s g first p1 i = classLQ s (s.size + 2 - q.at_) true q charI) ∧ remP s p1 + (if first = true then 1 else 0) < g ∧ p1.at_ ≤ s.size ∧ (i.kind = 1 ∧ i.x = 0 ∧ i.y = 0) ∧ Hid (CQ P G s w0 wr p1 i))
     case atStart =>
       refine ⟨true, q, charI, rfl, Lib.hid rfl, ?_, hat, ⟨rfl, rfl, rfl⟩, HC1⟩
       unfold remP
       split <;> simp <;> omega
     case round =>
       obtain ⟨first, p1, i, rfl, HE, hrem, hat1, hchar, HC⟩ := hrel
       go_wp2_with fail
       go_cut [47] (fun v wx => v = .bool (first || (!endsP s p1 && !isP s p1 93)) ∧ Hid (CQ P G s w0 wx p1 i))
       case first =>
         have q_p := HC.out.re
         cases first
         · rcases Bool.eq_false_or_eq_true (endsP s p1) with he | he
           · have HE : Hid ((!endsP s p1) = false) := Lib.hid (by rw [he]; rfl)
             have HEN := Lib.hid he
             clear he
             refine wp_region_quiet_below (by kernel_rfl) (by kernel_rfl) ?_
             repeat (go_big_quiet_step ((go_at_call 98; exact Calls.regrown_of (as_bool HE.out (more_any (HC.out.pb.later (below_regrown _ _ _)) (by omega) (by omega))))))
             refine wpQuiet_nil ?_
             intro wq hwq
             have hbq : Below wr.heap.size wr wq := by obtain ⟨p, rfl⟩ := hwq; exact below_regrown _ _ _
             clear hwq q_p
             go_wp2_with fail
             go_meet
             exact ⟨by simp [HEN.out], Lib.hid (HC.out.later hbq)⟩
           · have HE : Hid ((!endsP s p1) = true) := Lib.hid (by rw [he]; rfl)
             have hlt := (more_at he).2
             have HEN := Lib.hid he
             obtain ⟨bb, hbb⟩ : ∃ bb, byteAt s p1.at_ = bb := ⟨_, rfl⟩
             have hix := fun wx => run_ix0 hlt hbb wx
             have HI := Lib.hid (isP_of (c := 93) he hbb)
             clear he hbb
             rcases Nat.decEq bb 93 with hk | hk
             · have hk1 : ((bb : Int) == 93) = false := by simp; omega
               have hk2 : ((bb : Int) != 93) = true := by rw [bne, hk1]; rfl
               have HI2 : Hid (isP s p1 93 = false) := Lib.hid (by rw [HI.out]; simp [hk])
               clear hk
               refine wp_region_quiet_below (by kernel_rfl) (by kernel_rfl) ?_
               repeat (go_big_quiet_step ((go_at_call 98; exact Calls.regrown_of (as_bool HE.out (more_any (HC.out.pb.later (below_regrown _ _ _)) (by omega) (by omega))))))
               refine wpQuiet_nil ?_
               intro wq hwq
               have hbq : Below wr.heap.size wr wq := by obtain ⟨p, rfl⟩ := hwq; exact below_regrown _ _ _
               clear hwq q_p hix hk1 hk2
               go_wp2_with fail
               go_meet
               exact ⟨by simp [HI2.out, HEN.out], Lib.hid (HC.out.later hbq)⟩
             · have hk1 : ((bb : Int) == 93) = true := by simp; omega
               have hk2 : ((bb : Int) != 93) = false := by rw [bne, hk1]; rfl
               have HI2 : Hid (isP s p1 93 = true) := Lib.hid (by rw [HI.out]; simp [hk])
               clear hk
               refine wp_region_quiet_below (by kernel_rfl) (by kernel_rfl) ?_
               repeat (go_big_quiet_step ((go_at_call 98; exact Calls.regrown_of (as_bool HE.out (more_any (HC.out.pb.later (below_regrown _ _ _)) (by omega) (by omega))))))
               refine wpQuiet_nil ?_
               intro wq hwq
               have hbq : Below wr.heap.size wr wq := by obtain ⟨p, rfl⟩ := hwq; exact below_regrown _ _ _
               clear hwq q_p hix hk1 hk2
               go_wp2_with fail
               go_meet
               exact ⟨by simp [HI2.out, HEN.out], Lib.hid (HC.out.later hbq)⟩
         · have HE : Hid ((!endsP s p1) = (!endsP s p1)) := Lib.hid rfl
           refine wp_region_quiet_below (by kernel_rfl) (by kernel_rfl) ?_
           repeat (go_big_quiet_step ((go_at_call 98; exact Calls.regrown_of (as_bool HE.out (more_any (HC.out.pb.later (below_regrown _ _ _)) (by omega) (by omega))))))
           refine wpQuiet_nil ?_
           intro wq hwq
           have hbq : Below wr.heap.size wr wq := by obtain ⟨p, rfl⟩ := hwq; exact below_regrown _ _ _
           clear hwq q_p
           go_wp2_with fail
           go_meet
           exact ⟨by simp, Lib.hid (HC.out.later hbq)⟩
       case rest =>
         obtain ⟨rfl, HC2⟩ := hcut
         rcases Bool.eq_false_or_eq_true (first || (!endsP s p1 && !isP s p1 93)) with hc | hc
         · rw [hc]
           obtain ⟨g, rfl⟩ : ∃ g, gk = g + 1 := ⟨gk - 1, by omega⟩
           have hfr : first = true ∨ remP s p1 ≠ 0 := by
             rcases Bool.eq_false_or_eq_true first with h | h
             · exact .inl h
             · refine .inr ?_
               rw [h, Bool.false_or, Bool.and_eq_true, ends_rem] at hc
               have := hc.1
               simpa using this
           have HGO := Lib.hid (fun (x y : Nat) (r : PS) (h : spanQ s p1 = ((x, y), r)) => classLQ_go (n := g) (i := i) hc h)
           clear hc
           go_wp2_with fail
           refine (memberq_any (s := s) (p := p1) HC2.out.pb hs hat1).mono ?_
           rintro e w5 ⟨rfl, he, hp⟩
           have HC3 := Lib.hid (HC2.out.exP he hp)
           clear he hp HC2 HC
           have hml := memberQ_less s p1
           have hfl := memberQ_lt s p1
           have hatA := hml.at_ hat1
           have HSP : Hid (spanQ s p1 = if dashP s (memberQ s p1).2 = true then (((memberQ s p1).1, (memberQ s (memberQ s p1).2.step).1), if (memberQ s (memberQ s p1).2.step).1 < (memberQ s p1).1 then failP (memberQ s (memberQ s p1).2.step).2 3 else (memberQ s (memberQ s p1).2.step).2) else (((memberQ s p1).1, (memberQ s p1).1), (memberQ s p1).2)) := Lib.hid rfl
           generalize memberQ s p1 = m at *
           obtain ⟨x, pA⟩ := m
           simp only at hml hfl hatA HSP HC3
           go_upto_region 10 with fail
           go_cut [90] (fun v wx => v = .bool (dashP s pA) ∧ Hid (CQ P G s w0 wx pA i))
           case first =>
             have q_p := HC3.out.re
             rcases Bool.eq_false_or_eq_true (endsP s pA) with he | he
             · have HE : Hid ((!endsP s pA) = false) := Lib.hid (by rw [he]; rfl)
               have HI := Lib.hid (isP_end (c := 45) he)
               clear he
               refine wp_region_quiet_below (by kernel_rfl) (by kernel_rfl) ?_
               repeat (go_big_quiet_step ((go_at_call 98; exact Calls.regrown_of (as_bool HE.out (more_any (HC3.out.pb.later (below_regrown _ _ _)) (by omega) (by omega))))))
               refine wpQuiet_nil ?_
               intro wq hwq
               have hbq : Below w5.heap.size w5 wq := by obtain ⟨p, rfl⟩ := hwq; exact below_regrown _ _ _
               clear hwq q_p
               go_wp2_with fail
               go_meet
               exact ⟨by simp [dashP, HI.out], Lib.hid (HC3.out.later hbq)⟩
             · have HE : Hid ((!endsP s pA) = true) := Lib.hid (by rw [he]; rfl)
               have hlt := (more_at he).2
               obtain ⟨bb, hbb⟩ : ∃ bb, byteAt s pA.at_ = bb := ⟨_, rfl⟩
               have hix := fun wx => run_ix0 hlt hbb wx
               have HI := Lib.hid (isP_of (c := 45) he hbb)
               clear he hbb
               rcases Nat.decEq bb 45 with hk | hk
               · have hk1 : ((bb : Int) == 45) = false := by simp; omega
                 have HI2 : Hid (isP s pA 45 = false) := Lib.hid (by rw [HI.out]; simp [hk])
                 clear hk
                 refine wp_region_quiet_below (by kernel_rfl) (by kernel_rfl) ?_
                 repeat (go_big_quiet_step ((go_at_call 98; exact Calls.regrown_of (as_bool HE.out (more_any (HC3.out.pb.later (below_regrown _ _ _)) (by omega) (by omega))))))
                 refine wpQuiet_nil ?_
                 intro wq hwq
                 have hbq : Below w5.heap.size w5 wq := by obtain ⟨p, rfl⟩ := hwq; exact below_regrown _ _ _
                 clear hwq q_p hix hk1
                 go_wp2_with fail
                 go_meet
                 exact ⟨by simp [dashP, HI2.out], Lib.hid (HC3.out.later hbq)⟩
               · have hk1 : ((bb : Int) == 45) = true := by simp; omega
                 have HI2 : Hid (isP s pA 45 = true) := Lib.hid (by rw [HI.out]; simp [hk])
                 clear hk
                 by_cases h1 : pA.at_ + 1 < s.size
                 · have hdl : decide ((pA.at_ : Int) + 1 < (s.size : Int)) = true := by simp; omega
                   have hdl2 : decide (pA.at_ + 1 < s.size) = true := decide_eq_true h1
                   obtain ⟨cc, hcc⟩ : ∃ cc, byteAt s (pA.at_ + 1) = cc := ⟨_, rfl⟩
                   have HCC := Lib.hid hcc
                   have HDL := Lib.hid hdl2
                   have hix1 := fun wx => run_ix h1 hcc wx
                   clear hcc hdl2
                   rcases Nat.decEq cc 93 with hk | hk
                   · have hk3 : ((cc : Int) != 93) = true := by simp; omega
                     have HK := Lib.hid hk
                     clear hk
                     refine wp_region_quiet_below (by kernel_rfl) (by kernel_rfl) ?_
                     repeat (go_big_quiet_step ((go_at_call 98; exact Calls.regrown_of (as_bool HE.out (more_any (HC3.out.pb.later (below_regrown _ _ _)) (by omega) (by omega))))))
                     refine wpQuiet_nil ?_
                     intro wq hwq
                     have hbq : Below w5.heap.size w5 wq := by obtain ⟨p, rfl⟩ := hwq; exact below_regrown _ _ _
                     clear hwq q_p hix hix1 hk1 hk3 hdl
                     go_wp2_with fail
                     go_meet
                     exact ⟨by simp [dashP, HI2.out, HCC.out, HDL.out, HK.out], Lib.hid (HC3.out.later hbq)⟩
                   · have hk3 : ((cc : Int) != 93) = false := by simp; omega
                     have HK := Lib.hid hk
                     clear hk
                     refine wp_region_quiet_below (by kernel_rfl) (by kernel_rfl) ?_
                     repeat (go_big_quiet_step ((go_at_call 98; exact Calls.regrown_of (as_bool HE.out (more_any (HC3.out.pb.later (below_regrown _ _ _)) (by omega) (by omega))))))
                     refine wpQuiet_nil ?_
                     intro wq hwq
                     have hbq : Below w5.heap.size w5 wq := by obtain ⟨p, rfl⟩ := hwq; exact below_regrown _ _ _
                     clear hwq q_p hix hix1 hk1 hk3 hdl
                     go_wp2_with fail
                     go_meet
                     exact ⟨by simp [dashP, HI2.out, HCC.out, HDL.out, HK.out], Lib.hid (HC3.out.later hbq)⟩
                 · have hdl : decide ((pA.at_ : Int) + 1 < (s.size : Int)) = false := by simp; omega
                   have HDL : Hid (decide (pA.at_ + 1 < s.size) = false) := Lib.hid (decide_eq_false h1)
                   clear h1
                   refine wp_region_quiet_below (by kernel_rfl) (by kernel_rfl) ?_
                   repeat (go_big_quiet_step ((go_at_call 98; exact Calls.regrown_of (as_bool HE.out (more_any (HC3.out.pb.later (below_regrown _ _ _)) (by omega) (by omega))))))
                   refine wpQuiet_nil ?_
                   intro wq hwq
                   have hbq : Below w5.heap.size w5 wq := by obtain ⟨p, rfl⟩ := hwq; exact below_regrown _ _ _
                   clear hwq q_p hix hk1 hdl
                   go_wp2_with fail
                   go_meet
                   exact ⟨by simp [dashP, HI2.out, HDL.out], Lib.hid (HC3.out.later hbq)⟩
           case rest =>
             obtain ⟨rfl, HC4⟩ := hcut
             rcases Bool.eq_false_or_eq_true (dashP s pA) with hd | hd
             · have hdi : isP s pA 45 = true := by unfold dashP at hd; rw [Bool.and_eq_true] at hd; exact hd.1
               obtain ⟨hltA, _⟩ := is_lt hdi
               have hfA := Less.byte hdi
               rw [hd, if_pos rfl] at HSP
               rw [hd]
               have k_p := HC4.out.cells
               have f_p := HC4.out.pb.free
               have hw1 : wrap64 ((pA.at_ : Int) + 1) = (pA.at_ : Int) + 1 := wrap_id (by omega) (by omega)
               clear hd hdi HC3
               go_wp2_with fail
               have HC5 := Lib.hid HC4.out.step
               generalize wc.setCell _ _ = w6 at *
               clear k_p f_p hw1
               have hatS : pA.step.at_ ≤ s.size := hfA.at_ hatA
               refine (memberq_any (s := s) (p := pA.step) HC5.out.pb hs hatS).mono ?_
               rintro e w7 ⟨rfl, he, hp⟩
               have HC6 := Lib.hid (HC5.out.exP he hp)
               clear he hp HC5 HC4
               have hml2 := memberQ_less s pA.step
               have hfl2 := memberQ_lt s pA.step
               have hatB := hml2.at_ hatS
               generalize memberQ s pA.step = m2 at *
               obtain ⟨y, pB⟩ := m2
               simp only at hml2 hfl2 hatB HSP HC6
               have hlessB : Less s 1 p1 pB := hml.one (hfA.zero.trans hml2.zero)
               by_cases hyx : y < x
               · rw [if_pos hyx] at HSP
                 have HSQ : Hid (spanQ s p1 = ((x, y), failP pB 3)) := HSP
                 go_wp2_with fail
                 refine (failq_any (s := s) (p := pB) (n := 3) HC6.out.pb).mono ?_
                 rintro e w8 ⟨rfl, he, hp⟩
                 have HC7 := Lib.hid (HC6.out.exP he hp)
                 clear he hp
                 have HG := Lib.hid (HGO.out x y (failP pB 3) HSQ.out)
                 have hqe : (failP pB 3).e ≠ 0 := fail_e (by decide)
                 have HRES : Hid (classQ s p = ([], (failP pB 3))) := Lib.hid (by rw [HCQ.out, ← HE.out, HG.out, if_pos hqe, classEnd_err hqe])
                 have hq2 : ((((failP pB 3)).e : Int) != 0) = true := by simpa using hqe
                 have k_p := HC7.out.cells
                 clear hqe
                 go_wp2_with fail
                 go_ret
                 rw [HRES.out]
                 exact ⟨⟨none, 0, rfl, OwnR.nil _ _ _ _ _⟩, HC7.out.ex, HC7.out.pb⟩
               · rw [if_neg hyx] at HSP
                 have HSQ : Hid (spanQ s p1 = ((x, y), pB)) := HSP
                 have HG := Lib.hid (HGO.out x y pB HSQ.out)
                 by_cases hqe : (pB).e ≠ 0
                 · have HRES : Hid (classQ s p = ([], pB)) := Lib.hid (by rw [HCQ.out, ← HE.out, HG.out, if_pos hqe, classEnd_err hqe])
                   have hq2 : (((pB).e : Int) != 0) = true := by simpa using hqe
                   have k_p := HC6.out.cells
                   clear hqe
                   go_wp2_with fail
                   go_ret
                   rw [HRES.out]
                   exact ⟨⟨none, 0, rfl, OwnR.nil _ _ _ _ _⟩, HC6.out.ex, HC6.out.pb⟩
                 · have hqe0 : (pB).e = 0 := by simpa using hqe
                   have HE2 : Hid (classLQ s g false pB (rangeI i x y) = classLQ s (s.size + 2 - q.at_) true q charI) := Lib.hid (by rw [← HE.out, HG.out, if_neg hqe])
                   have hq2 : (((pB).e : Int) != 0) = false := by rw [hqe0]; rfl
                   have hrem2 : remP s pB < g := by
                     have hz : (pB).at_ ≤ s.size := hatB
                     have hl : Less s 1 p1 pB := hlessB
                     rcases hfr with hft | hne
                     · have := hl.le
                       rw [if_pos hft] at hrem
                       omega
                     · have := hl.lt hne
                       split at hrem <;> omega
                   have k_p := HC6.out.cells
                   have k_g : ∀ o, w7.cell? ⟨G, o, none⟩ = (#[.int .u64 i.a, .int .u64 i.b, .int .u64 i.c, .int .u64 i.d] : Array Value)[o]? := HC6.out.gb.cell
                   have l_g := HC6.out.gb.lt
                   clear hqe hqe0
                   go_wp2_with fail
                   refine (put_any (i := i) (f := x) (t := y) hfl hfl2).mono ?_
                   rintro e wz ⟨rfl, hb⟩
                   have HZ := Lib.hid (HC6.out.later hb)
                   clear hb k_p k_g l_g
                   unfold setA
                   have f_g := HZ.out.gb.free
                   have k_g : ∀ o, wz.cell? ⟨G, o, none⟩ = (#[.int .u64 i.a, .int .u64 i.b, .int .u64 i.c, .int .u64 i.d] : Array Value)[o]? := HZ.out.gb.cell
                   have l_g := HZ.out.gb.lt
                   go_wp2_with fail
                   go_roundg g
                   case rel => exact ⟨false, pB, rangeI i x y, rfl, HE2, by simpa using hrem2, hatB, charLike hchar _ _, Lib.hid (HZ.out.put _)⟩
                   case measure => omega
             · rw [hd, if_neg (by simp)] at HSP
               have HSQ : Hid (spanQ s p1 = ((x, x), pA)) := HSP
               rw [hd]
               clear hd HC3
               have HG := Lib.hid (HGO.out x x pA HSQ.out)
               by_cases hqe : (pA).e ≠ 0
               · have HRES : Hid (classQ s p = ([], pA)) := Lib.hid (by rw [HCQ.out, ← HE.out, HG.out, if_pos hqe, classEnd_err hqe])
                 have hq2 : (((pA).e : Int) != 0) = true := by simpa using hqe
                 have k_p := HC4.out.cells
                 clear hqe
                 go_wp2_with fail
                 go_ret
                 rw [HRES.out]
                 exact ⟨⟨none, 0, rfl, OwnR.nil _ _ _ _ _⟩, HC4.out.ex, HC4.out.pb⟩
               · have hqe0 : (pA).e = 0 := by simpa using hqe
                 have HE2 : Hid (classLQ s g false pA (rangeI i x x) = classLQ s (s.size + 2 - q.at_) true q charI) := Lib.hid (by rw [← HE.out, HG.out, if_neg hqe])
                 have hq2 : (((pA).e : Int) != 0) = false := by rw [hqe0]; rfl
                 have hrem2 : remP s pA < g := by
                   have hz : (pA).at_ ≤ s.size := hatA
                   have hl : Less s 1 p1 pA := hml
                   rcases hfr with hft | hne
                   · have := hl.le
                     rw [if_pos hft] at hrem
                     omega
                   · have := hl.lt hne
                     split at hrem <;> omega
                 have k_p := HC4.out.cells
                 have k_g : ∀ o, wc.cell? ⟨G, o, none⟩ = (#[.int .u64 i.a, .int .u64 i.b, .int .u64 i.c, .int .u64 i.d] : Array Value)[o]? := HC4.out.gb.cell
                 have l_g := HC4.out.gb.lt
                 clear hqe hqe0
                 go_wp2_with fail
                 refine (put_any (i := i) (f := x) (t := x) hfl hfl).mono ?_
                 rintro e wz ⟨rfl, hb⟩
                 have HZ := Lib.hid (HC4.out.later hb)
                 clear hb k_p k_g l_g
                 unfold setA
                 have f_g := HZ.out.gb.free
                 have k_g : ∀ o, wz.cell? ⟨G, o, none⟩ = (#[.int .u64 i.a, .int .u64 i.b, .int .u64 i.c, .int .u64 i.d] : Array Value)[o]? := HZ.out.gb.cell
                 have l_g := HZ.out.gb.lt
                 go_wp2_with fail
                 go_roundg g
                 case rel => exact ⟨false, pA, rangeI i x x, rfl, HE2, by simpa using hrem2, hatA, charLike hchar _ _, Lib.hid (HZ.out.put _)⟩
                 case measure => omega
         · rw [hc]
           have HST := Lib.hid (classLQ_stop (n := gk) (i := i) hc)
           clear hc
           go_wp2_with fail
           refine (more_any (s := s) (p := p1) HC2.out.pb (by omega) (by omega)).mono ?_
           rintro e w3 ⟨rfl, hb⟩
           have HC3 := Lib.hid (HC2.out.later hb)
           clear hb HC2 HC
           rcases Bool.eq_false_or_eq_true (endsP s p1) with he | he
           · have HRES : Hid (classQ s p = ([], failP p1 3)) := Lib.hid (by rw [HCQ.out, ← HE.out, HST.out]; unfold classEnd; rw [he]; rfl)
             rw [he]
             clear he
             go_wp2_with fail
             refine (failq_any (s := s) (p := p1) (n := 3) HC3.out.pb).mono ?_
             rintro e w4 ⟨rfl, he, hp⟩
             have HC4 := Lib.hid (HC3.out.exP he hp)
             clear he hp
             go_wp2_with fail
             go_ret
             rw [HRES.out]
             exact ⟨⟨none, 0, rfl, OwnR.nil _ _ _ _ _⟩, HC4.out.ex, HC4.out.pb⟩
           · have hltA := (more_at he).2
             have HRES0 : Hid (classQ s p = ([if nb = true then complI i else i], p1.step)) := Lib.hid (by rw [HCQ.out, ← HE.out, HST.out]; unfold classEnd; rw [he]; rfl)
             rw [he]
             have k_p := HC3.out.cells
             have f_p := HC3.out.pb.free
             have hw1 : wrap64 ((p1.at_ : Int) + 1) = (p1.at_ : Int) + 1 := wrap_id (by omega) (by omega)
             clear he
             go_upto_if 126 with fail
             have HC4 := Lib.hid HC3.out.step
             generalize w3.setCell _ _ = w4 at *
             clear k_p f_p hw1 HC3
             cases nb
             · have HRES : Hid (classQ s p = ([i], p1.step)) := HRES0
               have k_g : ∀ o, w4.cell? ⟨G, o, none⟩ = (#[.int .u64 i.a, .int .u64 i.b, .int .u64 i.c, .int .u64 i.d] : Array Value)[o]? := HC4.out.gb.cell
               have l_g := HC4.out.gb.lt
               go_wp2_with fail
               have e7 : insC (i) = [.int .i64 1, .int .u64 (i).a, .int .u64 (i).b, .int .u64 (i).c, .int .u64 (i).d, .int .i64 0, .int .i64 0] := by
                 have hk : (i).kind = 1 ∧ (i).x = 0 ∧ (i).y = 0 := hchar
                 unfold insC
                 rw [hk.1, hk.2.1, hk.2.2]
               go_ret
               rw [HRES.out]
               exact ⟨⟨_, _, rfl, inq_new (w := w4) (i := i) rfl (by rw [e7] <;> rfl) HC4.out.ex.1.size⟩, (HC4.out.later ((Below.refl _ _).alloc (Nat.le_refl _) _)).ex, (HC4.out.later ((Below.refl _ _).alloc (Nat.le_refl _) _)).pb⟩
             · have HRES : Hid (classQ s p = ([complI i], p1.step)) := HRES0
               go_wp2_with fail
               go_loopw [127] (fun v wr2 => ∃ k : Nat, k ≤ 4 ∧ v = .int .i64 k ∧ Hid (CQ P G s w0 wr2 p1.step (complK i k))) (fun v _ => 4 - (intOf v).toNat)
               case atStart => exact ⟨0, Nat.zero_le _, rfl, HC4⟩
               case round =>
                 obtain ⟨k, hk, rfl, HK⟩ := hrel
                 have k_g : ∀ o, wr.cell? ⟨G, o, none⟩ = (#[.int .u64 (complK i k).a, .int .u64 (complK i k).b, .int .u64 (complK i k).c, .int .u64 (complK i k).d] : Array Value)[o]? := HK.out.gb.cell
                 have f_g := HK.out.gb.free
                 have l_g := HK.out.gb.lt
                 have hk5 : k = 0 ∨ k = 1 ∨ k = 2 ∨ k = 3 ∨ k = 4 := by omega
                 rcases hk5 with rfl | rfl | rfl | rfl | rfl
                 · go_wp2_with fail
                   refine ⟨⟨1, by omega, rfl, Lib.hid (HK.out.setG 0 _ (by simp [setA, complK]; rfl))⟩, by simp [intOf]⟩
                 · go_wp2_with fail
                   refine ⟨⟨2, by omega, rfl, Lib.hid (HK.out.setG 1 _ (by simp [setA, complK]; rfl))⟩, by simp [intOf]⟩
                 · go_wp2_with fail
                   refine ⟨⟨3, by omega, rfl, Lib.hid (HK.out.setG 2 _ (by simp [setA, complK]; rfl))⟩, by simp [intOf]⟩
                 · go_wp2_with fail
                   refine ⟨⟨4, by omega, rfl, Lib.hid (HK.out.setG 3 _ (by simp [setA, complK]; rfl))⟩, by simp [intOf]⟩
                 · have HK4 : Hid (CQ P G s w0 wr p1.step (complI i)) := HK
                   go_wp2_with fail
                   have e7 : insC (complI i) = [.int .i64 1, .int .u64 (complI i).a, .int .u64 (complI i).b, .int .u64 (complI i).c, .int .u64 (complI i).d, .int .i64 0, .int .i64 0] := by
                     have hk : (complI i).kind = 1 ∧ (complI i).x = 0 ∧ (complI i).y = 0 := hchar
                     unfold insC
                     rw [hk.1, hk.2.1, hk.2.2]
                   go_ret
                   rw [HRES.out]
                   exact ⟨⟨_, _, rfl, inq_new (w := wr) (i := complI i) rfl (by rw [e7] <;> rfl) HK4.out.ex.1.size⟩, (HK4.out.later ((Below.refl _ _).alloc (Nat.le_refl _) _)).ex, (HK4.out.later ((Below.refl _ _).alloc (Nat.le_refl _) _)).pb⟩
end Go.Proofs.YtiplipdigabidaaGreat
