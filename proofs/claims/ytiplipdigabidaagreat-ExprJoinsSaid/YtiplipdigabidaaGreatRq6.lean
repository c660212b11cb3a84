/- viaticumref6.compiler.piece, pattern; Compile. -/
import Derived.Test.YtiplipdigabidaaGreatRq5b
set_option linter.unusedVariables false
set_option linter.unusedSimpArgs false
namespace Go.Proofs.YtiplipdigabidaaGreat
open Go.ChangeShapes Go.WideShapes Go.ChangeAt Go.RowKit
set_option maxRecDepth 100000 in
set_option maxHeartbeats 8000000 in
theorem atomq_40 {s : ByteArray} (hs : s.size ≤ 1000) (n m : Nat) (hpat : QCall 97 (patG n) s (fun p => remP s p < m)) {w0 : World} {P : Nat} {p : PS} (hb : Blk w0 P (psA s p)) (hok : OkP s p) (hends : endsP s p = false) (hrem : remP s p.step < m) (hc : byteAt s p.at_ = 40) :
   Calls Tryz.prog 151 #[.pointer (some ⟨P, 0, none⟩)] w0 fun e w' => PEQ P s w0 w' (atomG (n + 1) s p) e := by
 have HPAT := Lib.hid hpat
 clear hpat
 have hat := hok.at_
 have hdp := hok.deep
 have H0 : Hid (QO P s w0 w0 p [] (.slice none 0 0)) := Lib.hid ⟨hb, Exc.refl _ _, hb.lt, OwnR.nil _ _ _ _ _⟩
 obtain ⟨h0, hlt⟩ := more_at hends
 have hst := Less.stepped hends
 have hatS : p.step.at_ ≤ s.size := hst.at_ hat
 have hdS : p.step.deep ≤ 20 := hdp
 have hbl := byteAt_lt s p.at_
 have HX : Hid (atomG (n + 1) s p = _) := Lib.hid (show atomQ s (n + 1) p = _ from by rw [atomQ])
 simp only at HX
 generalize hbb : byteAt s p.at_ = b at *
 have hix := fun wx => run_ix0 hlt hbb wx
 clear hbb hb hok hends hst
 go_enter Tryz.func151, Tryz.ntmps151
 go_wp2_with fail
 have q_p := H0.out.re
 refine wp_region_quiet_below (by kernel_rfl) (by kernel_rfl) ?_
 repeat (go_big_quiet_step (fail))
 refine wpQuiet_nil ?_
 intro w1 hw1
 have hb1 : Below w0.heap.size w0 w1 := by obtain ⟨p, rfl⟩ := hw1; exact below_regrown _ _ _
 have H1 := Lib.hid (H0.out.later hb1)
 clear hw1 q_p hb1 hix
 have k_p := H1.out.cells
 have f_p := H1.out.pb.free
 have hw1 : wrap64 ((p.at_ : Int) + 1) = (p.at_ : Int) + 1 := wrap_at (by omega)
 go_upto_region 3 with fail
 have H2 := Lib.hid H1.out.step
 generalize w1.setCell _ _ = w2 at *
 clear k_p f_p hw1 H1 H0
 generalize p.step = p1 at *
 subst hc
 simp only [show ¬ (40 : Nat) = 92 by decide, show ¬ (40 : Nat) = 46 by decide, show ¬ (40 : Nat) = 94 by decide, show ¬ (40 : Nat) = 36 by decide, show ¬ (40 : Nat) = 91 by decide, if_false, if_true] at HX
 by_cases h20 : p1.deep = 20
 · rw [if_pos h20] at HX
   have hq : decide ((p1.deep : Int) ≥ 20) = true := by simp; omega
   have k_p := H2.out.cells
   clear h20
   go_wp2_with fail
   refine (failq_any (s := s) (p := p1) (n := 4) H2.out.pb).mono ?_
   rintro e w4 ⟨rfl, he, hp⟩
   have H4 := Lib.hid (H2.out.exP he hp)
   clear he hp
   go_wp2_with fail
   go_ret
   rw [HX.out]
   exact H4.out.no_
 · rw [if_neg h20] at HX
   have hq : decide ((p1.deep : Int) ≥ 20) = false := by simp; omega
   have k_p := H2.out.cells
   have f_p := H2.out.pb.free
   have hwd : wrap64 ((p1.deep : Int) + 1) = (p1.deep : Int) + 1 := wrap_at (by omega)
   have hd2 : p1.deep + 1 ≤ 20 := by omega
   clear h20
   go_wp2_with fail
   have H3 : Hid (QO P s w0 (w2.setCell ⟨P, 2, none⟩ (.int .i64 ((p1.deep : Int) + 1))) ⟨p1.at_, p1.deep + 1, p1.e⟩ [] (.slice none 0 0)) := Lib.hid (H2.out.setP 2 _ rfl)
   generalize w2.setCell _ _ = w3 at *
   clear k_p f_p hwd hq H2
   refine (HPAT.out w3 P ⟨p1.at_, p1.deep + 1, p1.e⟩ H3.out.pb ⟨hatS, hd2⟩ hrem).mono ?_
   rintro e w4 hpe
   have hmd : Made s 0 ⟨p1.at_, p1.deep + 1, p1.e⟩ (patG n s ⟨p1.at_, p1.deep + 1, p1.e⟩) := patQ_made s n _
   have HX2 : Hid (atomG (n + 1) s p = if isP s ⟨(patG n s ⟨p1.at_, p1.deep + 1, p1.e⟩).2.at_, (patG n s ⟨p1.at_, p1.deep + 1, p1.e⟩).2.deep - 1, (patG n s ⟨p1.at_, p1.deep + 1, p1.e⟩).2.e⟩ 41 = true then ((patG n s ⟨p1.at_, p1.deep + 1, p1.e⟩).1, PS.step ⟨(patG n s ⟨p1.at_, p1.deep + 1, p1.e⟩).2.at_, (patG n s ⟨p1.at_, p1.deep + 1, p1.e⟩).2.deep - 1, (patG n s ⟨p1.at_, p1.deep + 1, p1.e⟩).2.e⟩) else ([], failP ⟨(patG n s ⟨p1.at_, p1.deep + 1, p1.e⟩).2.at_, (patG n s ⟨p1.at_, p1.deep + 1, p1.e⟩).2.deep - 1, (patG n s ⟨p1.at_, p1.deep + 1, p1.e⟩).2.e⟩ 3)) := HX
   clear HX
   generalize patG n s ⟨p1.at_, p1.deep + 1, p1.e⟩ = r at *
   obtain ⟨l, q⟩ := r
   have HPE := Lib.hid (hpe.low H3.out.ex)
   obtain ⟨⟨A, c, rfl, _⟩, _⟩ := hpe
   simp only at HX2 HPE ⊢
   have hdq : q.deep = p1.deep + 1 := hmd.less.deep
   have hatq : q.at_ ≤ s.size := hmd.less.at_ hatS
   obtain ⟨⟨A', c', e', ho⟩, he, hpb⟩ := HPE.out
   simp only [Ending.returned.injEq, Value.slice.injEq, true_and] at e'
   obtain ⟨rfl, rfl⟩ := e'
   have H4 : Hid (QO P s w0 w4 q l (.slice A l.length c)) := Lib.hid ⟨hpb, he, H3.out.hP, ho⟩
   have hdz : (q.deep : Int) - 1 = ((q.deep - 1 : Nat) : Int) := by omega
   have hwd : wrap64 (((q.deep - 1 : Nat) : Int)) = ((q.deep - 1 : Nat) : Int) := wrap_nat (by omega)
   have k_p := H4.out.cells
   have f_p := H4.out.pb.free
   clear ho he hpb hmd HPE H3 hdq
   go_upto_region 24 with fail
   have H5 : Hid (QO P s w0 (w4.setCell ⟨P, 2, none⟩ (.int .i64 ((q.deep - 1 : Nat) : Int))) ⟨q.at_, q.deep - 1, q.e⟩ l (.slice A l.length c)) := Lib.hid (H4.out.setP 2 _ rfl)
   generalize w4.setCell _ _ = w5 at *
   clear k_p f_p hdz hwd H4
   have hatz : (⟨q.at_, q.deep - 1, q.e⟩ : PS).at_ ≤ s.size := hatq
   generalize (⟨q.at_, q.deep - 1, q.e⟩ : PS) = z at *
   go_wp2_with fail
   go_cut [109] (fun v wx => v = .bool (!isP s z 41) ∧ Hid (QO P s w0 wx z l (.slice A l.length c)))
   case first =>
     have q_p := H5.out.re
     rcases Bool.eq_false_or_eq_true (endsP s z) with he | he
     · have HE : Hid ((!endsP s z) = false) := Lib.hid (by rw [he]; rfl)
       have HI := Lib.hid (isP_end (c := 41) he)
       have HEN := Lib.hid he
       clear he
       refine wp_region_quiet_below (by kernel_rfl) (by kernel_rfl) ?_
       repeat (go_big_quiet_step ((go_at_call 98; exact Calls.regrown_of (as_bool HE.out (more_any (H5.out.pb.later (below_regrown _ _ _)) (by omega) (by omega))))))
       refine wpQuiet_nil ?_
       intro wq hwq
       have hbq : Below w5.heap.size w5 wq := by obtain ⟨p, rfl⟩ := hwq; exact below_regrown _ _ _
       clear hwq q_p
       go_wp2_with fail
       go_meet
       exact ⟨by simp [HI.out, HEN.out], Lib.hid (H5.out.later hbq)⟩
     · have HE : Hid ((!endsP s z) = true) := Lib.hid (by rw [he]; rfl)
       have hlt := (more_at he).2
       have HEN := Lib.hid he
       obtain ⟨bb, hbb⟩ : ∃ bb, byteAt s (z).at_ = bb := ⟨_, rfl⟩
       have hix := fun wx => run_ix0 hlt hbb wx
       have HI := Lib.hid (isP_of (c := 41) he hbb)
       clear he hbb
       rcases Nat.decEq bb 41 with hk | hk
       · have hk1 : ((bb : Int) == 41) = false := by simp; omega
         have hk2 : ((bb : Int) != 41) = true := by rw [bne, hk1]; rfl
         have HI2 : Hid (isP s z 41 = false) := Lib.hid (by rw [HI.out]; simp [hk])
         clear hk
         refine wp_region_quiet_below (by kernel_rfl) (by kernel_rfl) ?_
         repeat (go_big_quiet_step ((go_at_call 98; exact Calls.regrown_of (as_bool HE.out (more_any (H5.out.pb.later (below_regrown _ _ _)) (by omega) (by omega))))))
         refine wpQuiet_nil ?_
         intro wq hwq
         have hbq : Below w5.heap.size w5 wq := by obtain ⟨p, rfl⟩ := hwq; exact below_regrown _ _ _
         clear hwq q_p hix hk1 hk2
         go_wp2_with fail
         go_meet
         exact ⟨by simp [HI2.out, HEN.out], Lib.hid (H5.out.later hbq)⟩
       · have hk1 : ((bb : Int) == 41) = true := by simp; omega
         have hk2 : ((bb : Int) != 41) = false := by rw [bne, hk1]; rfl
         have HI2 : Hid (isP s z 41 = true) := Lib.hid (by rw [HI.out]; simp [hk])
         clear hk
         refine wp_region_quiet_below (by kernel_rfl) (by kernel_rfl) ?_
         repeat (go_big_quiet_step ((go_at_call 98; exact Calls.regrown_of (as_bool HE.out (more_any (H5.out.pb.later (below_regrown _ _ _)) (by omega) (by omega))))))
         refine wpQuiet_nil ?_
         intro wq hwq
         have hbq : Below w5.heap.size w5 wq := by obtain ⟨p, rfl⟩ := hwq; exact below_regrown _ _ _
         clear hwq q_p hix hk1 hk2
         go_wp2_with fail
         go_meet
         exact ⟨by simp [HI2.out, HEN.out], Lib.hid (H5.out.later hbq)⟩
   case rest =>
     obtain ⟨rfl, H6⟩ := hcut
     rcases Bool.eq_false_or_eq_true (isP s z 41) with hi | hi
     · rw [if_pos hi] at HX2
       obtain ⟨hltz, _⟩ := is_lt hi
       rw [hi]
       have k_p := H6.out.cells
       have f_p := H6.out.pb.free
       have hw1 : wrap64 ((z.at_ : Int) + 1) = (z.at_ : Int) + 1 := wrap_at (by omega)
       clear hi
       go_wp2_with fail
       go_ret
       rw [HX2.out]
       exact H6.out.step.pe
     · rw [if_neg (by rw [hi]; simp)] at HX2
       rw [hi]
       clear hi
       go_wp2_with fail
       refine (failq_any (s := s) (p := z) (n := 3) H6.out.pb).mono ?_
       rintro e w7 ⟨rfl, he, hp⟩
       have H7 := Lib.hid (H6.out.exP he hp)
       clear he hp
       go_wp2_with fail
       go_ret
       rw [HX2.out]
       exact H7.out.no_
open Go.ChangeShapes Go.WideShapes Go.ChangeAt Go.RowKit
theorem atomq_step {s : ByteArray} (hs : s.size ≤ 1000) (n m : Nat) (hpat : QCall 97 (patG n) s (fun p => remP s p < m)) :
   QCall 151 (atomG (n + 1)) s (fun p => remP s p ≤ m ∧ remP s p ≠ 0) := by
 intro w0 P p hb hok hm
 obtain ⟨hm, hne⟩ := hm
 have hends : endsP s p = false := by rw [ends_rem]; simpa using hne
 have hrem : remP s p.step < m := by have := (Less.stepped hends).lt hne; omega
 by_cases h1 : byteAt s p.at_ = 92
 · exact atomq_92 hs n m hb hok hends hrem h1
 by_cases h2 : byteAt s p.at_ = 46
 · exact atomq_46 hs n m hb hok hends hrem h2
 by_cases h3 : byteAt s p.at_ = 94
 · exact atomq_94 hs n m hb hok hends hrem h3
 by_cases h4 : byteAt s p.at_ = 36
 · exact atomq_36 hs n m hb hok hends hrem h4
 by_cases h5 : byteAt s p.at_ = 91
 · exact atomq_91 hs n m hb hok hends hrem h5
 by_cases h6 : byteAt s p.at_ = 40
 · exact atomq_40 hs n m hpat hb hok hends hrem h6
 exact atomq_other hs n m hb hok hends hrem ⟨h1, h2, h3, h4, h5, h6⟩
open Go.ChangeShapes Go.WideShapes Go.ChangeAt Go.RowKit
theorem movedq_n {B c L : Nat} {l : List Ins} {A : Option Addr} {k0 : Int} {w : World} (hL : l.length = L) (hl : RL InsR w B l A) (hB : B ≤ w.heap.size) (hn : L ≤ 1000000) :
   Calls Tryz.prog 122 #[.slice A L c, .int .i64 k0] w fun e w' => (∃ A c, e = .returned (.slice A L c) ∧ OwnR InsR 109 w' w.heap.size 0 (.slice A L c) (movedL l k0)) ∧ Below w.heap.size w w' := by
 subst hL
 refine (movedq_any (c := c) (k0 := k0) hl hB hn).mono ?_
 rintro e w' ⟨⟨A, c, rfl, ho⟩, hb⟩
 rw [moved_length] at ho ⊢
 exact ⟨⟨A, c, rfl, ho⟩, hb⟩
theorem pieceQ_of {s : ByteArray} {n : Nat} {p q : PS} {l : List Ins} (h : atomG n s p = (l, q)) : pieceG (n + 1) s p =
   if isP s q 42 then ([splitI 1 (l.length + 2)] ++ movedL l 1 ++ [jumpI 0], q.step)
   else if isP s q 43 then (l ++ [splitI 0 (l.length + 1)], q.step)
   else if isP s q 63 then ([splitI 1 (l.length + 1)] ++ movedL l 1, q.step)
   else (l, q) := by
 unfold pieceG pieceQ
 unfold atomG at h
 rw [h]
set_option maxRecDepth 100000 in
set_option maxHeartbeats 4000000 in
theorem pieceq_step {s : ByteArray} (hs : s.size ≤ 1000) (n m : Nat) (hn : 1 ≤ n) (hat : QCall 151 (atomG n) s (fun p => remP s p ≤ m ∧ remP s p ≠ 0)) :
   QCall 121 (pieceG (n + 1)) s (fun p => remP s p ≤ m ∧ remP s p ≠ 0) := by
 obtain ⟨i0, hi0, hz0, hz1, hz2⟩ := info_parts infoInq
 intro w0 P p hb hok hm
 have hlt := hb.lt
 have HB := Lib.hid hb
 have HAT := Lib.hid hat
 have HOK := Lib.hid hok
 have HM := Lib.hid hm
 clear hb hok hat hm
 go_enter Tryz.func121, Tryz.ntmps121
 go_wp2_with fail
 refine (HAT.out w0 P p HB.out HOK.out HM.out).mono ?_
 rintro e w1 ⟨⟨A, c, rfl, ho⟩, he, hb⟩
 have hmd : Made s 1 p (atomG n s p) := atomQ_made s n p HM.out.2 hn
 have hl : (atomG n s p).1.length ≤ 2000 := made_len hmd hs
 have hok2 := HOK.out.less hmd.less
 have HX : ∀ l q, atomG n s p = (l, q) → _ := fun l q h => pieceQ_of h
 generalize atomG n s p = r at *
 obtain ⟨l, q⟩ := r
 have HXc := Lib.hid (HX l q rfl)
 simp only at ho hb hl hok2
 have hq := hok2.at_
 have H1 : Hid (QO P s w0 w1 q l (.slice A l.length c)) := Lib.hid ⟨hb, he, hlt, ho⟩
 clear ho he hb HX hmd hok2 HB
 generalize hLL : l.length = L at *
 have HLL := Lib.hid hLL
 clear hLL
 go_wp2_with fail
 refine (more_any (s := s) (p := q) H1.out.pb (by omega) (by omega)).mono ?_
 rintro e w2 ⟨rfl, hb⟩
 have H2 := Lib.hid (H1.out.later hb)
 clear hb H1
 rcases Bool.eq_false_or_eq_true (endsP s q) with he | he
 · have HX2 : Hid (pieceG (n + 1) s p = (l, q)) := Lib.hid (by rw [HXc.out, isP_end he, isP_end he, isP_end he]; rfl)
   rw [he]
   clear he HXc
   go_wp2_with fail
   go_ret
   rw [HX2.out]
   exact H2.out.pe
 · obtain ⟨_, hlt1⟩ := more_at he
   rw [he]
   obtain ⟨b, hbb⟩ : ∃ b, byteAt s q.at_ = b := ⟨_, rfl⟩
   have hix := fun wx => run_ix0 hlt1 hbb wx
   have HI : Hid (∀ c, isP s q c = decide (b = c)) := Lib.hid fun c => isP_of he hbb
   clear he hbb
   have hw1 : wrap64 ((q.at_ : Int) + 1) = (q.at_ : Int) + 1 := wrap_at (by omega)
   go_wp2_with fail
   have q_p := H2.out.re
   refine wp_region_quiet_below (by kernel_rfl) (by kernel_rfl) ?_
   repeat (go_big_quiet_step (fail))
   refine wpQuiet_nil ?_
   intro w3 hw3
   have hb3 : Below w2.heap.size w2 w3 := by obtain ⟨p, rfl⟩ := hw3; exact below_regrown _ _ _
   have H3 := Lib.hid (H2.out.later hb3)
   clear hw3 q_p hb3 hix H2
   have k_p := H3.out.cells
   have f_p := H3.out.pb.free
   have hcases : b = 42 ∨ b = 43 ∨ b = 63 ∨ (b ≠ 42 ∧ b ≠ 43 ∧ b ≠ 63) := by omega
   rcases hcases with rfl | rfl | rfl | ⟨h1, h2, h3⟩
   · have HX2 : Hid (pieceG (n + 1) s p = ([splitI 1 (L + 2)] ++ movedL l 1 ++ [jumpI 0], q.step)) := Lib.hid (by rw [HXc.out, HI.out]; rfl)
     clear HXc
     go_wp2_with fail
     generalize hW : World.alloc _ _ = w4
     obtain ⟨hb, hz⟩ := al1 hW
     have H3s := Lib.hid H3.out.step
     have hsz3 := World.size_setCell w3 ⟨P, 1, none⟩ (.int .i64 ((q.at_ : Int) + 1))
     generalize w3.setCell _ _ = w3s at *
     have hn4 := inq_new (i := splitI 1 (L + 2)) (base := w0.heap.size) hW rfl H3s.out.ex.1.size
     rw [hsz3] at hn4
     have HN4 := Lib.hid hn4
     have H4 := Lib.hid (H3s.out.later hb)
     clear hW hz hb H3 H3s k_p f_p hw1 hn4 hsz3
     refine (movedq_n (B := w4.heap.size) (c := c) (k0 := 1) HLL.out (H4.out.own.rowsQ (by rw [HLL.out]; omega)) (Nat.le_refl _) (by omega)).mono ?_
     rintro e w5 ⟨⟨A3, c3, rfl, ho⟩, hb⟩
     have HN5 := Lib.hid (HN4.out.later hb (Nat.zero_le _))
     have H5 := Lib.hid (H4.out.later hb)
     have HM5 := Lib.hid ho.srcQ
     have hle5 := H5.out.ex.1.size
     clear ho hb HN4 H4
     go_upto_region 9 with ((
       at_builtin
       refine wpList_append_R (R := InsR) (e := 109) (base := w0.heap.size) (B := 0) (xs := [splitI 1 (L + 2)]) (ys := movedL l 1) rfl (.tmp 35) (.tmp 37) 84 rfl (bytes := 56) Tryz.underlying84 hi0 hz0 hz1 hz2 rfl (show 0 < 7 by omega) single_in rfl HN5.out rfl HM5.out ((moved_length l 1).trans HLL.out).symm (Nat.zero_le _) (by rw [moved_length, HLL.out]; simp only [List.length_cons, List.length_nil]; omega) (by omega) (hle5) ?_
       intro v wn_ hown hb
       obtain ⟨An, cn, rfl⟩ := hown.formQ (show _ = L + 1 by rw [List.length_append, moved_length, HLL.out]; simp; omega)
       have HOW := Lib.hid hown
       have HBW := Lib.hid hb
       clear hown hb))
     have H6 := Lib.hid (H5.out.to HBW.out HOW.out)
     have HJ6 := Lib.hid (And.intro (H6.out.own.later (below_new (w := wn_) (o := .cells #[.int .i64 3, .int .u64 0, .int .u64 0, .int .u64 0, .int .u64 0, .int .i64 0, .int .i64 0] 109) rfl) (Nat.zero_le _)) (OwnR.src (xs := [jumpI 0]) (inq_new (w := wn_) (i := jumpI 0) (base := w0.heap.size) (o := .cells #[.int .i64 3, .int .u64 0, .int .u64 0, .int .u64 0, .int .u64 0, .int .i64 0, .int .i64 0] 109) rfl rfl H6.out.ex.1.size)))
     have hle6 := H6.out.ex.1.size
     generalize wn_ = w6 at *
     clear HOW HBW H5 HN5 HM5
     go_wp2_with ((
       at_builtin
       refine wpList_append_R (R := InsR) (e := 109) (base := w0.heap.size) (B := 0) (xs := [splitI 1 (L + 2)] ++ movedL l 1) (ys := [jumpI 0]) rfl (.tmp 39) (.tmp 41) 84 rfl (bytes := 56) Tryz.underlying84 hi0 hz0 hz1 hz2 rfl (show 0 < 7 by omega) single_in rfl HJ6.out.1 rfl HJ6.out.2 rfl (Nat.zero_le _) (by rw [List.length_append, moved_length, HLL.out]; simp only [List.length_cons, List.length_nil]; omega) (by omega) ((by rw [World.size_alloc]; omega)) ?_
       intro v wn_ hown hb
       obtain ⟨An, cn, rfl⟩ := hown.formQ (show _ = L + 2 by rw [List.length_append, List.length_append, moved_length, HLL.out]; simp; omega)
       have HOW := Lib.hid hown
       have HBW := Lib.hid hb
       clear hown hb))
     go_ret
     rw [HX2.out]
     exact ((H6.out.later (below_new (w := w6) (o := .cells #[.int .i64 3, .int .u64 0, .int .u64 0, .int .u64 0, .int .u64 0, .int .i64 0, .int .i64 0] 109) rfl)).to HBW.out HOW.out).pe
   · have HX2 : Hid (pieceG (n + 1) s p = (l ++ [splitI 0 (L + 1)], q.step)) := Lib.hid (by rw [HXc.out, HI.out, HI.out]; rfl)
     clear HXc
     go_upto_region 12 with fail
     have H4 := Lib.hid H3.out.step
     generalize w3.setCell _ _ = w4 at *
     clear H3 k_p f_p hw1
     have HJ4 := Lib.hid (And.intro (H4.out.own.later (below_new (w := w4) (o := .cells #[.int .i64 2, .int .u64 0, .int .u64 0, .int .u64 0, .int .u64 0, .int .i64 0, .int .i64 ((L : Int) + 1)] 109) rfl) (Nat.zero_le _)) (OwnR.src (xs := [splitI 0 (L + 1)]) (inq_new (w := w4) (i := splitI 0 (L + 1)) (base := w0.heap.size) (o := .cells #[.int .i64 2, .int .u64 0, .int .u64 0, .int .u64 0, .int .u64 0, .int .i64 0, .int .i64 ((L : Int) + 1)] 109) rfl rfl H4.out.ex.1.size)))
     have hle4 := H4.out.ex.1.size
     go_wp2_with ((
       at_builtin
       refine wpList_append_R (R := InsR) (e := 109) (base := w0.heap.size) (B := 0) (xs := l) (ys := [splitI 0 (L + 1)]) rfl (.tmp 52) (.tmp 56) 84 rfl (bytes := 56) Tryz.underlying84 hi0 hz0 hz1 hz2 rfl (show 0 < 7 by omega) single_in rfl HJ4.out.1 rfl HJ4.out.2 rfl (Nat.zero_le _) (by rw [HLL.out]; simp only [List.length_cons, List.length_nil]; omega) (by omega) ((by rw [World.size_alloc]; omega)) ?_
       intro v wn_ hown hb
       obtain ⟨An, cn, rfl⟩ := hown.formQ (show _ = L + 1 by rw [List.length_append, HLL.out]; rfl)
       have HOW := Lib.hid hown
       have HBW := Lib.hid hb
       clear hown hb))
     go_ret
     rw [HX2.out]
     exact ((H4.out.later (below_new (w := w4) (o := .cells #[.int .i64 2, .int .u64 0, .int .u64 0, .int .u64 0, .int .u64 0, .int .i64 0, .int .i64 ((L : Int) + 1)] 109) rfl)).to HBW.out HOW.out).pe
   · have HX2 : Hid (pieceG (n + 1) s p = ([splitI 1 (L + 1)] ++ movedL l 1, q.step)) := Lib.hid (by rw [HXc.out, HI.out, HI.out, HI.out]; rfl)
     clear HXc
     go_wp2_with fail
     generalize hW : World.alloc _ _ = w4
     obtain ⟨hb, hz⟩ := al1 hW
     have H3s := Lib.hid H3.out.step
     have hsz3 := World.size_setCell w3 ⟨P, 1, none⟩ (.int .i64 ((q.at_ : Int) + 1))
     generalize w3.setCell _ _ = w3s at *
     have hn4 := inq_new (i := splitI 1 (L + 1)) (base := w0.heap.size) hW rfl H3s.out.ex.1.size
     rw [hsz3] at hn4
     have HN4 := Lib.hid hn4
     have H4 := Lib.hid (H3s.out.later hb)
     clear hW hz hb H3 H3s k_p f_p hw1 hn4 hsz3
     refine (movedq_n (B := w4.heap.size) (c := c) (k0 := 1) HLL.out (H4.out.own.rowsQ (by rw [HLL.out]; omega)) (Nat.le_refl _) (by omega)).mono ?_
     rintro e w5 ⟨⟨A3, c3, rfl, ho⟩, hb⟩
     have HN5 := Lib.hid (HN4.out.later hb (Nat.zero_le _))
     have H5 := Lib.hid (H4.out.later hb)
     have HM5 := Lib.hid ho.srcQ
     have hle5 := H5.out.ex.1.size
     clear ho hb HN4 H4
     go_wp2_with ((
       at_builtin
       refine wpList_append_R (R := InsR) (e := 109) (base := w0.heap.size) (B := 0) (xs := [splitI 1 (L + 1)]) (ys := movedL l 1) rfl (.tmp 70) (.tmp 72) 84 rfl (bytes := 56) Tryz.underlying84 hi0 hz0 hz1 hz2 rfl (show 0 < 7 by omega) single_in rfl HN5.out rfl HM5.out ((moved_length l 1).trans HLL.out).symm (Nat.zero_le _) (by rw [moved_length, HLL.out]; simp only [List.length_cons, List.length_nil]; omega) (by omega) (hle5) ?_
       intro v wn_ hown hb
       obtain ⟨An, cn, rfl⟩ := hown.formQ (show _ = L + 1 by rw [List.length_append, moved_length, HLL.out]; simp; omega)
       have HOW := Lib.hid hown
       have HBW := Lib.hid hb
       clear hown hb))
     go_ret
     rw [HX2.out]
     exact (H5.out.to HBW.out HOW.out).pe
   · have HX2 : Hid (pieceG (n + 1) s p = (l, q)) := Lib.hid (by rw [HXc.out, HI.out, HI.out, HI.out]; simp [h1, h2, h3])
     have g1 : ((b : Int) == 42) = false := by simp; omega
     have g2 : ((b : Int) == 43) = false := by simp; omega
     have g3 : ((b : Int) == 63) = false := by simp; omega
     clear HXc h1 h2 h3
     go_wp2_with fail
     go_ret
     rw [HX2.out]
     exact H3.out.pe
end Go.Proofs.YtiplipdigabidaaGreat
