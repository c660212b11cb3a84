/- viaticumref6.compiler.atom: the simple ones. -/
import Derived.Test.YtiplipdigabidaaGreatRq4
set_option linter.unusedVariables false
set_option linter.unusedSimpArgs false
namespace Go.Proofs.YtiplipdigabidaaGreat
open Go.ChangeShapes Go.WideShapes Go.ChangeAt Go.RowKit
theorem wrap_at {k : Nat} (h : k ≤ 1000000) : wrap64 ((k : Int) + 1) = (k : Int) + 1 := wrap_id (by omega) (by omega)
theorem wrap_nat {k : Nat} (h : k ≤ 1000000) : wrap64 (k : Int) = (k : Int) := wrap_id (by omega) (by omega)
theorem wrapI_nat {k : Nat} (h : k ≤ 1000000) : IntKind.i64.wrap (k : Int) = (k : Int) := by rw [IntKind.wrap_i64]; omega
def patG (n : Nat) (s : ByteArray) (p : PS) : List Ins × PS := patQ s n p
def pieceG (n : Nat) (s : ByteArray) (p : PS) : List Ins × PS := pieceQ s n p
def atomG (n : Nat) (s : ByteArray) (p : PS) : List Ins × PS := atomQ s n p
def QCall (F : FuncId) (f : ByteArray → PS → List Ins × PS) (s : ByteArray) (ok : PS → Prop) : Prop :=
 ∀ (w : World) (P : Nat) (p : PS), Blk w P (psA s p) → OkP s p → ok p → Calls Tryz.prog F #[.pointer (some ⟨P, 0, none⟩)] w fun e w' => PEQ P s w w' (f s p) e
structure QO (P : Nat) (s : ByteArray) (w0 w : World) (p : PS) (l : List Ins) (v : Value) : Prop where
 pb : Blk w P (psA s p)
 ex : Exc P w0 w
 hP : P < w0.heap.size
 own : OwnR InsR 109 w w0.heap.size 0 v l
section
variable {P : Nat} {s : ByteArray} {w0 w w' : World} {p q : PS} {l l' : List Ins} {v v' : Value}
theorem OwnR.lowQ {b0 base : Nat} {xs : List Ins} (h : OwnR InsR 109 w base 0 v xs) (hb : b0 ≤ base) : OwnR InsR 109 w b0 0 v xs := by
 obtain ⟨cells, h, hf⟩ := h
 refine ⟨cells, ⟨h.1, ?_⟩, hf⟩
 rcases h.2 with h2 | ⟨g, cap, cur, hv, hg, r⟩
 · exact .inl h2
 · exact .inr ⟨g, cap, cur, hv, Nat.le_trans hb hg, r⟩
theorem OwnR.rowsQ {base n c : Nat} {A : Option Addr} {xs : List Ins} (h : OwnR InsR 109 w base 0 (.slice A n c) xs) (hn : xs.length ≤ 1000000) : RL InsR w w.heap.size xs A := by
 obtain ⟨A3, c3, e3, r1, r2, r3⟩ := h.reads (Nat.zero_le _) (by show xs.length * (8 * 7) ≤ _; omega)
 simp only [Value.slice.injEq] at e3
 obtain ⟨rfl, _, rfl⟩ := e3
 exact r3
theorem OwnR.srcQ {base n c : Nat} {A : Option Addr} {xs : List Ins} (h : OwnR InsR 109 w base 0 (.slice A n c) xs) : SrcR InsR w 0 A xs := by
 obtain ⟨_, _, e⟩ := h.form
 simp only [Value.slice.injEq] at e
 obtain ⟨rfl, rfl, rfl⟩ := e
 exact h.src
theorem OwnR.formQ {base n : Nat} {xs : List Ins} (h : OwnR InsR 109 w base 0 v xs) (hn : xs.length = n) : ∃ A c, v = .slice A n c := by
 subst hn
 exact h.form
theorem QO.later (h : QO P s w0 w p l v) (hb : Below w.heap.size w w') : QO P s w0 w' p l v := ⟨h.pb.later hb, h.ex.then (Nat.le_of_lt h.hP) hb, h.hP, h.own.later hb (Nat.zero_le _)⟩
theorem QO.exP (h : QO P s w0 w p l v) (he : Exc P w w') (hp : Blk w' P (psA s q)) : QO P s w0 w' q l v := ⟨hp, h.ex.trans he, h.hP, h.own.exc he h.hP⟩
theorem QO.setP (h : QO P s w0 w p l v) (n : Nat) (u : Value) (hq : psA s q = (psA s p).setIfInBounds n u) : QO P s w0 (w.setCell ⟨P, n, none⟩ u) q l v :=
 ⟨by rw [hq]; exact h.pb.set_ n u, h.ex.set n u, h.hP, h.own.far h.hP (Nat.zero_le _) _⟩
theorem QO.step (h : QO P s w0 w p l v) : QO P s w0 (w.setCell ⟨P, 1, none⟩ (.int .i64 ((p.at_ : Int) + 1))) p.step l v := h.setP 1 _ rfl
theorem QO.cells (h : QO P s w0 w p l v) : ∀ o, w.cell? ⟨P, o, none⟩ = (#[.string s, .int .i64 p.at_, .int .i64 p.deep, .int .i64 p.e] : Array Value)[o]? := h.pb.cell
theorem QO.re (h : QO P s w0 w p l v) : ∀ (d : Nat) (os : Array Obj) (o : Nat), (Sort.grow (redrawn w d) os).cell? ⟨P, o, none⟩ = (#[.string s, .int .i64 p.at_, .int .i64 p.deep, .int .i64 p.e] : Array Value)[o]? := h.pb.regrown
theorem QO.to (h : QO P s w0 w p l v) (hb : Below w0.heap.size w w') (ho : OwnR InsR 109 w' w0.heap.size 0 v' l') : QO P s w0 w' p l' v' :=
 ⟨h.pb.keep hb h.hP, h.ex.own hb (Nat.le_refl _) h.hP, h.hP, ho⟩
theorem QO.pe {A : Option Addr} {n c : Nat} (h : QO P s w0 w p l (.slice A n c)) : PEQ P s w0 w (l, p) (.returned (.slice A n c)) := by
 obtain ⟨A', c', e⟩ := h.own.form
 simp only [Value.slice.injEq] at e
 obtain ⟨rfl, rfl, rfl⟩ := e
 exact ⟨⟨_, _, rfl, h.own⟩, h.ex, h.pb⟩
theorem QO.no_ (h : QO P s w0 w p l v) : PEQ P s w0 w ([], p) (.returned (.slice none 0 0)) := ⟨⟨_, _, rfl, OwnR.nil _ _ _ _ _⟩, h.ex, h.pb⟩
theorem QO.one_ {i : Ins} {o : Obj} (h : QO P s w0 w p l v) (ho : o = .cells (insC i).toArray 109) : PEQ P s w0 (w.alloc o) ([i], p) (.returned (.slice (some ⟨w.heap.size, 0, none⟩) 1 1)) := by
 have hb := below_new (w := w) (o := o) rfl
 exact ⟨⟨_, 1, rfl, inq_new rfl ho h.ex.1.size⟩, (h.later hb).ex, (h.later hb).pb⟩
theorem QO.list {l2 : List Ins} {e : Ending} (h : QO P s w0 w p l v) (hl : ListQ w w' l2 e) : PEQ P s w0 w' (l2, p) e := by
 obtain ⟨⟨A, c, e1, ho⟩, hb⟩ := hl
 exact ⟨⟨A, c, e1, ho.lowQ h.ex.1.size⟩, (h.later hb).ex, (h.later hb).pb⟩
theorem PEQ.low {r : List Ins × PS} {e : Ending} (h : PEQ P s w w' r e) (h0 : Exc P w0 w) : PEQ P s w0 w' r e := by
 obtain ⟨⟨A, c, e1, ho⟩, he, hb⟩ := h
 exact ⟨⟨A, c, e1, ho.lowQ h0.1.size⟩, h0.trans he, hb⟩
end
theorem any_all : rangeI charI 0 255 = anyI := by kernel_rfl
open Go.ChangeShapes Go.WideShapes Go.ChangeAt Go.RowKit
set_option maxRecDepth 100000 in
set_option maxHeartbeats 8000000 in
theorem atomq_92 {s : ByteArray} (hs : s.size ≤ 1000) (n m : Nat) {w0 : World} {P : Nat} {p : PS} (hb : Blk w0 P (psA s p)) (hok : OkP s p) (hends : endsP s p = false) (hrem : remP s p.step < m) (hc : byteAt s p.at_ = 92) :
   Calls Tryz.prog 151 #[.pointer (some ⟨P, 0, none⟩)] w0 fun e w' => PEQ P s w0 w' (atomG (n + 1) s p) e := by
 have hat := hok.at_
 have hdp := hok.deep
 have H0 : Hid (QO P s w0 w0 p [] (.slice none 0 0)) := Lib.hid ⟨hb, Exc.refl _ _, hb.lt, OwnR.nil _ _ _ _ _⟩
 obtain ⟨h0, hlt⟩ := more_at hends
 have hst := Less.stepped hends
 have hatS : p.step.at_ ≤ s.size := hst.at_ hat
 have hdS : p.step.deep ≤ 20 := hdp
 have hbl := byteAt_lt s p.at_
 have HX : Hid (atomG (n + 1) s p = _) := Lib.hid (show atomQ s (n + 1) p = _ from by rw [atomQ])
 simp only at HX
 generalize hbb : byteAt s p.at_ = b at *
 have hix := fun wx => run_ix0 hlt hbb wx
 clear hbb hb hok hends hst
 go_enter Tryz.func151, Tryz.ntmps151
 go_wp2_with fail
 have q_p := H0.out.re
 refine wp_region_quiet_below (by kernel_rfl) (by kernel_rfl) ?_
 repeat (go_big_quiet_step (fail))
 refine wpQuiet_nil ?_
 intro w1 hw1
 have hb1 : Below w0.heap.size w0 w1 := by obtain ⟨p, rfl⟩ := hw1; exact below_regrown _ _ _
 have H1 := Lib.hid (H0.out.later hb1)
 clear hw1 q_p hb1 hix
 have k_p := H1.out.cells
 have f_p := H1.out.pb.free
 have hw1 : wrap64 ((p.at_ : Int) + 1) = (p.at_ : Int) + 1 := wrap_at (by omega)
 go_upto_region 3 with fail
 have H2 := Lib.hid H1.out.step
 generalize w1.setCell _ _ = w2 at *
 clear k_p f_p hw1 H1 H0
 generalize p.step = p1 at *
 subst hc
 simp only [if_true] at HX
 go_wp2_with fail
 refine (more_any (s := s) (p := p1) H2.out.pb (by omega) (by omega)).mono ?_
 rintro e w3 ⟨rfl, hb⟩
 have H3 := Lib.hid (H2.out.later hb)
 clear hb H2
 rcases Bool.eq_false_or_eq_true (endsP s p1) with he | he
 · rw [if_pos he] at HX
   rw [he]
   clear he
   go_wp2_with fail
   refine (failq_any (s := s) (p := p1) (n := 3) H3.out.pb).mono ?_
   rintro e w4 ⟨rfl, he, hp⟩
   have H4 := Lib.hid (H3.out.exP he hp)
   clear he hp
   go_wp2_with fail
   go_ret
   rw [HX.out]
   exact H4.out.no_
 · obtain ⟨hz0, hlt1⟩ := more_at he
   rw [if_neg (by rw [he]; simp)] at HX
   rw [he]
   have hcl := byteAt_lt s p1.at_
   generalize hcc : byteAt s p1.at_ = cc at *
   have hix := fun wx => run_ix0 hlt1 hcc wx
   have k_p := H3.out.cells
   have f_p := H3.out.pb.free
   have hp1 : p1.at_ ≤ 1000000 := Nat.le_trans (Nat.le_of_lt hlt1) (Nat.le_trans hs (by decide))
   have hw1 : wrap64 ((p1.at_ : Int) + 1) = (p1.at_ : Int) + 1 := wrap_at hp1
   have HW2 : Hid (IntKind.i64.wrap (p1.at_ : Int) = (p1.at_ : Int)) := Lib.hid (wrapI_nat hp1)
   clear he hcc
   go_wp2_with fail
   have H4 := Lib.hid H3.out.step
   generalize w3.setCell _ _ = w4 at *
   clear k_p f_p hw1 H3
   have k_p : ∀ o, w4.drew.cell? ⟨P, o, none⟩ = (#[.string s, .int .i64 ((p1.at_ : Int) + 1), .int .i64 p1.deep, .int .i64 p1.e] : Array Value)[o]? := H4.out.cells
   refine wp_region_still_tail' 10 (by kernel_rfl) (by kernel_rfl) ?_
   simp only [List.take_succ_cons, List.take_zero, List.drop_succ_cons, List.drop_zero]
   repeat still_step
   have hw2 := HW2.out
   rw [hw2]
   repeat still_step
   refine wpStill_nil ?_
   go_wp2_with fail
   have H5 := Lib.hid (H4.out.later (w' := w4.drew) ((Below.refl _ _).drew))
   clear k_p hix hw2 HW2
   refine (one_any (c := cc) hcl).mono ?_
   rintro e w5 hl
   have HL := Lib.hid (H5.out.list hl)
   obtain ⟨⟨A, c, rfl, _⟩, _⟩ := hl
   go_wp2_with fail
   go_ret
   rw [HX.out]
   exact HL.out
open Go.ChangeShapes Go.WideShapes Go.ChangeAt Go.RowKit
set_option maxRecDepth 100000 in
set_option maxHeartbeats 8000000 in
theorem atomq_46 {s : ByteArray} (hs : s.size ≤ 1000) (n m : Nat) {w0 : World} {P : Nat} {p : PS} (hb : Blk w0 P (psA s p)) (hok : OkP s p) (hends : endsP s p = false) (hrem : remP s p.step < m) (hc : byteAt s p.at_ = 46) :
   Calls Tryz.prog 151 #[.pointer (some ⟨P, 0, none⟩)] w0 fun e w' => PEQ P s w0 w' (atomG (n + 1) s p) e := by
 have hat := hok.at_
 have hdp := hok.deep
 have H0 : Hid (QO P s w0 w0 p [] (.slice none 0 0)) := Lib.hid ⟨hb, Exc.refl _ _, hb.lt, OwnR.nil _ _ _ _ _⟩
 obtain ⟨h0, hlt⟩ := more_at hends
 have hst := Less.stepped hends
 have hatS : p.step.at_ ≤ s.size := hst.at_ hat
 have hdS : p.step.deep ≤ 20 := hdp
 have hbl := byteAt_lt s p.at_
 have HX : Hid (atomG (n + 1) s p = _) := Lib.hid (show atomQ s (n + 1) p = _ from by rw [atomQ])
 simp only at HX
 generalize hbb : byteAt s p.at_ = b at *
 have hix := fun wx => run_ix0 hlt hbb wx
 clear hbb hb hok hends hst
 go_enter Tryz.func151, Tryz.ntmps151
 go_wp2_with fail
 have q_p := H0.out.re
 refine wp_region_quiet_below (by kernel_rfl) (by kernel_rfl) ?_
 repeat (go_big_quiet_step (fail))
 refine wpQuiet_nil ?_
 intro w1 hw1
 have hb1 : Below w0.heap.size w0 w1 := by obtain ⟨p, rfl⟩ := hw1; exact below_regrown _ _ _
 have H1 := Lib.hid (H0.out.later hb1)
 clear hw1 q_p hb1 hix
 have k_p := H1.out.cells
 have f_p := H1.out.pb.free
 have hw1 : wrap64 ((p.at_ : Int) + 1) = (p.at_ : Int) + 1 := wrap_at (by omega)
 go_upto_region 3 with fail
 have H2 := Lib.hid H1.out.step
 generalize w1.setCell _ _ = w2 at *
 clear k_p f_p hw1 H1 H0
 generalize p.step = p1 at *
 subst hc
 simp only [show ¬ (46 : Nat) = 92 by decide, if_false, if_true] at HX
 go_wp2_with fail
 refine (put_any (i := charI) (f := 0) (t := 255) (by omega) (by omega)).mono ?_
 rintro e w3 ⟨rfl, hb⟩
 have H3 := Lib.hid (H2.out.later hb)
 clear hb H2
 rw [any_all]
 unfold setA
 go_wp2_with fail
 go_ret
 rw [HX.out]
 exact H3.out.one_ rfl
set_option maxRecDepth 100000 in
set_option maxHeartbeats 8000000 in
theorem atomq_94 {s : ByteArray} (hs : s.size ≤ 1000) (n m : Nat) {w0 : World} {P : Nat} {p : PS} (hb : Blk w0 P (psA s p)) (hok : OkP s p) (hends : endsP s p = false) (hrem : remP s p.step < m) (hc : byteAt s p.at_ = 94) :
   Calls Tryz.prog 151 #[.pointer (some ⟨P, 0, none⟩)] w0 fun e w' => PEQ P s w0 w' (atomG (n + 1) s p) e := by
 have hat := hok.at_
 have hdp := hok.deep
 have H0 : Hid (QO P s w0 w0 p [] (.slice none 0 0)) := Lib.hid ⟨hb, Exc.refl _ _, hb.lt, OwnR.nil _ _ _ _ _⟩
 obtain ⟨h0, hlt⟩ := more_at hends
 have hst := Less.stepped hends
 have hatS : p.step.at_ ≤ s.size := hst.at_ hat
 have hdS : p.step.deep ≤ 20 := hdp
 have hbl := byteAt_lt s p.at_
 have HX : Hid (atomG (n + 1) s p = _) := Lib.hid (show atomQ s (n + 1) p = _ from by rw [atomQ])
 simp only at HX
 generalize hbb : byteAt s p.at_ = b at *
 have hix := fun wx => run_ix0 hlt hbb wx
 clear hbb hb hok hends hst
 go_enter Tryz.func151, Tryz.ntmps151
 go_wp2_with fail
 have q_p := H0.out.re
 refine wp_region_quiet_below (by kernel_rfl) (by kernel_rfl) ?_
 repeat (go_big_quiet_step (fail))
 refine wpQuiet_nil ?_
 intro w1 hw1
 have hb1 : Below w0.heap.size w0 w1 := by obtain ⟨p, rfl⟩ := hw1; exact below_regrown _ _ _
 have H1 := Lib.hid (H0.out.later hb1)
 clear hw1 q_p hb1 hix
 have k_p := H1.out.cells
 have f_p := H1.out.pb.free
 have hw1 : wrap64 ((p.at_ : Int) + 1) = (p.at_ : Int) + 1 := wrap_at (by omega)
 go_upto_region 3 with fail
 have H2 := Lib.hid H1.out.step
 generalize w1.setCell _ _ = w2 at *
 clear k_p f_p hw1 H1 H0
 generalize p.step = p1 at *
 subst hc
 simp only [show ¬ (94 : Nat) = 92 by decide, show ¬ (94 : Nat) = 46 by decide, if_false, if_true] at HX
 go_wp2_with fail
 go_ret
 rw [HX.out]
 exact H2.out.one_ rfl
set_option maxRecDepth 100000 in
set_option maxHeartbeats 8000000 in
theorem atomq_36 {s : ByteArray} (hs : s.size ≤ 1000) (n m : Nat) {w0 : World} {P : Nat} {p : PS} (hb : Blk w0 P (psA s p)) (hok : OkP s p) (hends : endsP s p = false) (hrem : remP s p.step < m) (hc : byteAt s p.at_ = 36) :
   Calls Tryz.prog 151 #[.pointer (some ⟨P, 0, none⟩)] w0 fun e w' => PEQ P s w0 w' (atomG (n + 1) s p) e := by
 have hat := hok.at_
 have hdp := hok.deep
 have H0 : Hid (QO P s w0 w0 p [] (.slice none 0 0)) := Lib.hid ⟨hb, Exc.refl _ _, hb.lt, OwnR.nil _ _ _ _ _⟩
 obtain ⟨h0, hlt⟩ := more_at hends
 have hst := Less.stepped hends
 have hatS : p.step.at_ ≤ s.size := hst.at_ hat
 have hdS : p.step.deep ≤ 20 := hdp
 have hbl := byteAt_lt s p.at_
 have HX : Hid (atomG (n + 1) s p = _) := Lib.hid (show atomQ s (n + 1) p = _ from by rw [atomQ])
 simp only at HX
 generalize hbb : byteAt s p.at_ = b at *
 have hix := fun wx => run_ix0 hlt hbb wx
 clear hbb hb hok hends hst
 go_enter Tryz.func151, Tryz.ntmps151
 go_wp2_with fail
 have q_p := H0.out.re
 refine wp_region_quiet_below (by kernel_rfl) (by kernel_rfl) ?_
 repeat (go_big_quiet_step (fail))
 refine wpQuiet_nil ?_
 intro w1 hw1
 have hb1 : Below w0.heap.size w0 w1 := by obtain ⟨p, rfl⟩ := hw1; exact below_regrown _ _ _
 have H1 := Lib.hid (H0.out.later hb1)
 clear hw1 q_p hb1 hix
 have k_p := H1.out.cells
 have f_p := H1.out.pb.free
 have hw1 : wrap64 ((p.at_ : Int) + 1) = (p.at_ : Int) + 1 := wrap_at (by omega)
 go_upto_region 3 with fail
 have H2 := Lib.hid H1.out.step
 generalize w1.setCell _ _ = w2 at *
 clear k_p f_p hw1 H1 H0
 generalize p.step = p1 at *
 subst hc
 simp only [show ¬ (36 : Nat) = 92 by decide, show ¬ (36 : Nat) = 46 by decide, show ¬ (36 : Nat) = 94 by decide, if_false, if_true] at HX
 go_wp2_with fail
 go_ret
 rw [HX.out]
 exact H2.out.one_ rfl
set_option maxRecDepth 100000 in
set_option maxHeartbeats 8000000 in
theorem atomq_91 {s : ByteArray} (hs : s.size ≤ 1000) (n m : Nat) {w0 : World} {P : Nat} {p : PS} (hb : Blk w0 P (psA s p)) (hok : OkP s p) (hends : endsP s p = false) (hrem : remP s p.step < m) (hc : byteAt s p.at_ = 91) :
   Calls Tryz.prog 151 #[.pointer (some ⟨P, 0, none⟩)] w0 fun e w' => PEQ P s w0 w' (atomG (n + 1) s p) e := by
 have hat := hok.at_
 have hdp := hok.deep
 have H0 : Hid (QO P s w0 w0 p [] (.slice none 0 0)) := Lib.hid ⟨hb, Exc.refl _ _, hb.lt, OwnR.nil _ _ _ _ _⟩
 obtain ⟨h0, hlt⟩ := more_at hends
 have hst := Less.stepped hends
 have hatS : p.step.at_ ≤ s.size := hst.at_ hat
 have hdS : p.step.deep ≤ 20 := hdp
 have hbl := byteAt_lt s p.at_
 have HX : Hid (atomG (n + 1) s p = _) := Lib.hid (show atomQ s (n + 1) p = _ from by rw [atomQ])
 simp only at HX
 generalize hbb : byteAt s p.at_ = b at *
 have hix := fun wx => run_ix0 hlt hbb wx
 clear hbb hb hok hends hst
 go_enter Tryz.func151, Tryz.ntmps151
 go_wp2_with fail
 have q_p := H0.out.re
 refine wp_region_quiet_below (by kernel_rfl) (by kernel_rfl) ?_
 repeat (go_big_quiet_step (fail))
 refine wpQuiet_nil ?_
 intro w1 hw1
 have hb1 : Below w0.heap.size w0 w1 := by obtain ⟨p, rfl⟩ := hw1; exact below_regrown _ _ _
 have H1 := Lib.hid (H0.out.later hb1)
 clear hw1 q_p hb1 hix
 have k_p := H1.out.cells
 have f_p := H1.out.pb.free
 have hw1 : wrap64 ((p.at_ : Int) + 1) = (p.at_ : Int) + 1 := wrap_at (by omega)
 go_upto_region 3 with fail
 have H2 := Lib.hid H1.out.step
 generalize w1.setCell _ _ = w2 at *
 clear k_p f_p hw1 H1 H0
 generalize p.step = p1 at *
 subst hc
 simp only [show ¬ (91 : Nat) = 92 by decide, show ¬ (91 : Nat) = 46 by decide, show ¬ (91 : Nat) = 94 by decide, show ¬ (91 : Nat) = 36 by decide, if_false, if_true] at HX
 go_wp2_with fail
 refine (classq_any (s := s) (p := p1) H2.out.pb (by omega) hatS).mono ?_
 rintro e w3 hpe
 have HPE := Lib.hid (hpe.low H2.out.ex)
 obtain ⟨⟨A, c, rfl, _⟩, _⟩ := hpe
 go_wp2_with fail
 go_ret
 rw [HX.out]
 exact HPE.out
set_option maxRecDepth 100000 in
set_option maxHeartbeats 8000000 in
theorem atomq_other {s : ByteArray} (hs : s.size ≤ 1000) (n m : Nat) {w0 : World} {P : Nat} {p : PS} (hb : Blk w0 P (psA s p)) (hok : OkP s p) (hends : endsP s p = false) (hrem : remP s p.step < m) (hc : byteAt s p.at_ ≠ 92 ∧ byteAt s p.at_ ≠ 46 ∧ byteAt s p.at_ ≠ 94 ∧ byteAt s p.at_ ≠ 36 ∧ byteAt s p.at_ ≠ 91 ∧ byteAt s p.at_ ≠ 40) :
   Calls Tryz.prog 151 #[.pointer (some ⟨P, 0, none⟩)] w0 fun e w' => PEQ P s w0 w' (atomG (n + 1) s p) e := by
 have hat := hok.at_
 have hdp := hok.deep
 have H0 : Hid (QO P s w0 w0 p [] (.slice none 0 0)) := Lib.hid ⟨hb, Exc.refl _ _, hb.lt, OwnR.nil _ _ _ _ _⟩
 obtain ⟨h0, hlt⟩ := more_at hends
 have hst := Less.stepped hends
 have hatS : p.step.at_ ≤ s.size := hst.at_ hat
 have hdS : p.step.deep ≤ 20 := hdp
 have hbl := byteAt_lt s p.at_
 have HX : Hid (atomG (n + 1) s p = _) := Lib.hid (show atomQ s (n + 1) p = _ from by rw [atomQ])
 simp only at HX
 generalize hbb : byteAt s p.at_ = b at *
 have hix := fun wx => run_ix0 hlt hbb wx
 clear hbb hb hok hends hst
 go_enter Tryz.func151, Tryz.ntmps151
 go_wp2_with fail
 have q_p := H0.out.re
 refine wp_region_quiet_below (by kernel_rfl) (by kernel_rfl) ?_
 repeat (go_big_quiet_step (fail))
 refine wpQuiet_nil ?_
 intro w1 hw1
 have hb1 : Below w0.heap.size w0 w1 := by obtain ⟨p, rfl⟩ := hw1; exact below_regrown _ _ _
 have H1 := Lib.hid (H0.out.later hb1)
 clear hw1 q_p hb1 hix
 have k_p := H1.out.cells
 have f_p := H1.out.pb.free
 have hw1 : wrap64 ((p.at_ : Int) + 1) = (p.at_ : Int) + 1 := wrap_at (by omega)
 go_upto_region 3 with fail
 have H2 := Lib.hid H1.out.step
 generalize w1.setCell _ _ = w2 at *
 clear k_p f_p hw1 H1 H0
 generalize p.step = p1 at *
 obtain ⟨h1, h2, h3, h4, h5, h6⟩ := hc
 simp only [h1, h2, h3, h4, h5, h6, if_false] at HX
 have g1 : ((b : Int) == 92) = false := by simp; omega
 have g2 : ((b : Int) == 46) = false := by simp; omega
 have g3 : ((b : Int) == 94) = false := by simp; omega
 have g4 : ((b : Int) == 36) = false := by simp; omega
 have g5 : ((b : Int) == 91) = false := by simp; omega
 have g6 : ((b : Int) == 40) = false := by simp; omega
 clear h1 h2 h3 h4 h5 h6
 go_wp2_with fail
 refine (in_any (c := b) (l := ⟨#[42, 43, 63, 41]⟩) (show (4 : Nat) ≤ 1000 by omega)).mono ?_
 rintro e w3 ⟨rfl, hb⟩
 have H3 := Lib.hid (H2.out.later hb)
 clear hb H2
 rw [in_bar]
 rcases Bool.eq_false_or_eq_true (barQ b) with hq | hq
 · rw [if_pos hq] at HX
   rw [hq]
   clear hq
   go_wp2_with fail
   refine (failq_any (s := s) (p := p1) (n := 3) H3.out.pb).mono ?_
   rintro e w4 ⟨rfl, he, hp⟩
   have H4 := Lib.hid (H3.out.exP he hp)
   clear he hp
   go_wp2_with fail
   go_ret
   rw [HX.out]
   exact H4.out.no_
 · rw [if_neg (by rw [hq]; simp)] at HX
   rw [hq]
   clear hq
   go_wp2_with fail
   refine (one_any (c := b) hbl).mono ?_
   rintro e w5 hl
   have HL := Lib.hid (H3.out.list hl)
   obtain ⟨⟨A, c, rfl, _⟩, _⟩ := hl
   go_wp2_with fail
   go_ret
   rw [HX.out]
   exact HL.out
end Go.Proofs.YtiplipdigabidaaGreat
