/- viaticumref6.compiler, all; Compile. -/
import Derived.Test.YtiplipdigabidaaGreatRq6
set_option linter.unusedVariables false
set_option linter.unusedSimpArgs false
namespace Go.Proofs.YtiplipdigabidaaGreat
open Go.ChangeShapes Go.WideShapes Go.ChangeAt Go.RowKit
theorem rowQ_stop {s : ByteArray} {n : Nat} {p : PS} {out : List Ins} (h : (!endsP s p && (!isP s p 124 && !isP s p 41)) = false) : rowQ s n p out = (out, p) := by
 cases n with
 | zero => rfl
 | succ n => unfold rowQ; rw [h]; rfl
theorem rowQ_go {s : ByteArray} {n : Nat} {p : PS} {out : List Ins} (h : (!endsP s p && (!isP s p 124 && !isP s p 41)) = true) : rowQ s (n + 1) p out = rowQ s n (pieceG n s p).2 (out ++ movedL (pieceG n s p).1 out.length) := by
 show (if (!endsP s p && (!isP s p 124 && !isP s p 41)) = true then _ else _) = _
 rw [h]
 rfl
set_option maxRecDepth 100000 in
set_option maxHeartbeats 8000000 in
theorem patternq_step {s : ByteArray} (hs : s.size ≤ 1000) (n m : Nat) (hn : 4 * m + 1 ≤ n) (hpc : ∀ r, r ≤ m → ∀ g, 4 * r ≤ g → 1 ≤ r → QCall 121 (pieceG g) s (fun p => remP s p ≤ r ∧ remP s p ≠ 0)) (hpat : QCall 97 (patG n) s (fun p => remP s p < m)) :
   QCall 97 (patG (n + 1)) s (fun p => remP s p ≤ m) := by
 obtain ⟨i0, hi0, hz0, hz1, hz2⟩ := info_parts infoInq
 intro w0 P p hb hok hm
 have hlt := hb.lt
 have HB := Lib.hid hb
 have HPC := Lib.hid hpc
 have HPAT := Lib.hid hpat
 have HOK := Lib.hid hok
 have hrs := rem_le s p
 have HX0 : Hid (patG (n + 1) s p = if isP s (rowQ s n p []).2 124 = true then (eitherL (rowQ s n p []).1 (patG n s (rowQ s n p []).2.step).1, (patG n s (rowQ s n p []).2.step).2) else rowQ s n p []) := Lib.hid rfl
 clear hb hok hpc hpat
 go_enter Tryz.func97, Tryz.ntmps97
 go_wp2_with fail
 go_loopg [3] n (fun g v3 wr => ∃ (p1 : PS) (out : List Ins) (A : Option Addr) (L c : Nat), v3 = .slice A L c ∧ Hid (out.length = L) ∧ Hid (rowQ s g p1 out = rowQ s n p []) ∧ 4 * remP s p1 + 1 ≤ g ∧ remP s p1 ≤ m ∧ Hid (OkP s p1) ∧ L + 2 * remP s p1 ≤ 2000 ∧ Hid (QO P s w0 wr p1 out (.slice A L c)))
 case atStart => exact ⟨p, [], none, 0, 0, rfl, Lib.hid rfl, Lib.hid rfl, by omega, hm, HOK, by omega, Lib.hid ⟨HB.out, Exc.refl _ _, hlt, OwnR.nil _ _ _ _ _⟩⟩
 case round =>
   obtain ⟨p1, out, A, L, c, rfl, HL, HE, hg, hr1, HOK1, hlen, HS⟩ := hrel
   have hat1 := HOK1.out.at_
   go_wp2_with fail
   go_cut [32] (fun v wx => v = .bool (!endsP s p1 && (!isP s p1 124 && !isP s p1 41)) ∧ Hid (QO P s w0 wx p1 out (.slice A L c)))
   case first =>
     have q_p := HS.out.re
     rcases Bool.eq_false_or_eq_true (endsP s p1) with he | he
     · have HE1 := Lib.hid he
       have HE : Hid ((!endsP s p1) = false) := Lib.hid (by rw [he]; rfl)
       clear he
       refine wp_region_quiet_below (by kernel_rfl) (by kernel_rfl) ?_
       repeat (go_big_quiet_step ((go_at_call 98; exact Calls.regrown_of (as_bool HE.out (more_any (HS.out.pb.later (below_regrown _ _ _)) (by omega) (by omega))))))
       refine wpQuiet_nil ?_
       intro wq hwq
       have hbq : Below wr.heap.size wr wq := by obtain ⟨p, rfl⟩ := hwq; exact below_regrown _ _ _
       clear hwq q_p
       go_wp2_with fail
       go_meet
       exact ⟨by simp [HE1.out], Lib.hid (HS.out.later hbq)⟩
     · have HE1 := Lib.hid he
       have HE : Hid ((!endsP s p1) = true) := Lib.hid (by rw [he]; rfl)
       have hlt1 := (more_at he).2
       obtain ⟨bb, hbb⟩ : ∃ bb, byteAt s p1.at_ = bb := ⟨_, rfl⟩
       have hix := fun wx => run_ix0 hlt1 hbb wx
       have HI1 := Lib.hid (isP_of (c := 124) he hbb)
       have HI2 := Lib.hid (isP_of (c := 41) he hbb)
       clear he hbb
       have hcases : bb = 124 ∨ bb = 41 ∨ (bb ≠ 124 ∧ bb ≠ 41) := by omega
       rcases hcases with rfl | rfl | ⟨h1, h2⟩
       · refine wp_region_quiet_below (by kernel_rfl) (by kernel_rfl) ?_
         repeat (go_big_quiet_step ((go_at_call 98; exact Calls.regrown_of (as_bool HE.out (more_any (HS.out.pb.later (below_regrown _ _ _)) (by omega) (by omega))))))
         refine wpQuiet_nil ?_
         intro wq hwq
         have hbq : Below wr.heap.size wr wq := by obtain ⟨p, rfl⟩ := hwq; exact below_regrown _ _ _
         clear hwq q_p hix
         go_wp2_with fail
         go_meet
         exact ⟨by simp [HE1.out, HI1.out], Lib.hid (HS.out.later hbq)⟩
       · refine wp_region_quiet_below (by kernel_rfl) (by kernel_rfl) ?_
         repeat (go_big_quiet_step ((go_at_call 98; exact Calls.regrown_of (as_bool HE.out (more_any (HS.out.pb.later (below_regrown _ _ _)) (by omega) (by omega))))))
         refine wpQuiet_nil ?_
         intro wq hwq
         have hbq : Below wr.heap.size wr wq := by obtain ⟨p, rfl⟩ := hwq; exact below_regrown _ _ _
         clear hwq q_p hix
         go_wp2_with fail
         go_meet
         exact ⟨by simp [HE1.out, HI1.out, HI2.out], Lib.hid (HS.out.later hbq)⟩
       · have HH := Lib.hid (And.intro h1 h2)
         have g1 : ((bb : Int) != 124) = true := by simp; omega
         have g2 : ((bb : Int) != 41) = true := by simp; omega
         clear h1 h2
         refine wp_region_quiet_below (by kernel_rfl) (by kernel_rfl) ?_
         repeat (go_big_quiet_step ((go_at_call 98; exact Calls.regrown_of (as_bool HE.out (more_any (HS.out.pb.later (below_regrown _ _ _)) (by omega) (by omega))))))
         refine wpQuiet_nil ?_
         intro wq hwq
         have hbq : Below wr.heap.size wr wq := by obtain ⟨p, rfl⟩ := hwq; exact below_regrown _ _ _
         clear hwq q_p hix g1 g2
         go_wp2_with fail
         go_meet
         exact ⟨by simp [HE1.out, HI1.out, HI2.out, HH.out.1, HH.out.2], Lib.hid (HS.out.later hbq)⟩
   case rest =>
     obtain ⟨rfl, HS2⟩ := hcut
     clear HS
     rcases Bool.eq_false_or_eq_true (!endsP s p1 && (!isP s p1 124 && !isP s p1 41)) with hc | hc
     · obtain ⟨g, rfl⟩ : ∃ g, gk = g + 1 := ⟨gk - 1, by omega⟩
       have HE2 : Hid (rowQ s g (pieceG g s p1).2 (out ++ movedL (pieceG g s p1).1 L) = rowQ s n p []) := Lib.hid (by rw [← HE.out, rowQ_go hc, HL.out])
       have hne : remP s p1 ≠ 0 := by
         rw [Bool.and_eq_true, ends_rem] at hc
         simpa using hc.1
       rw [hc]
       clear hc HE
       go_wp2_with fail
       refine (HPC.out (remP s p1) hr1 g (by omega) (by omega) wc P p1 HS2.out.pb HOK1.out ⟨Nat.le_refl _, hne⟩).mono ?_
       rintro e w6 ⟨⟨A2, c2, rfl, ho⟩, he, hb⟩
       have hmd : Made s 1 p1 (pieceG g s p1) := pieceQ_made s g p1 hne (by omega)
       have hok2 := HOK1.out.less hmd.less
       have hrem2 := hmd.one hne
       have hlen2 := hmd.len
       have hl2 := made_len hmd hs
       generalize pieceG g s p1 = r at *
       obtain ⟨l, q⟩ := r
       simp only at ho hb hok2 hrem2 hlen2 hl2 HE2
       have HS6 := Lib.hid (HS2.out.exP he hb)
       have HO6 := Lib.hid (ho.rowsQ (by omega))
       have HOK6 := Lib.hid hok2
       generalize hL2 : l.length = L2 at *
       have HL2 := Lib.hid hL2
       clear ho he hb hmd hok2 hL2 HS2
       go_wp2_with fail
       refine (movedq_n (B := w6.heap.size) (c := c2) (k0 := L) HL2.out HO6.out (Nat.le_refl _) (by omega)).mono ?_
       rintro e w7 ⟨⟨A3, c3, rfl, ho⟩, hb⟩
       have HS7 := Lib.hid (HS6.out.later hb)
       have HM7 := Lib.hid ho.srcQ
       have hle7 := HS7.out.ex.1.size
       clear ho hb HS6
       go_wp2_with ((
         at_builtin
         refine wpList_append_R (R := InsR) (e := 109) (base := w0.heap.size) (B := 0) (xs := out) (ys := movedL l L) rfl (.tmp 35) (.tmp 39) 84 rfl (bytes := 56) Tryz.underlying84 hi0 hz0 hz1 hz2 rfl (show 0 < 7 by omega) single_in rfl HS7.out.own rfl HM7.out ((moved_length l L).trans HL2.out).symm (Nat.zero_le _) (by rw [moved_length, HL2.out, HL.out]; omega) (by omega) (hle7) ?_
         intro v wn_ hown hb
         obtain ⟨An, cn, rfl⟩ := hown.formQ (show _ = L + L2 by rw [List.length_append, moved_length, HL2.out, HL.out])
         have HOW := Lib.hid hown
         have HBW := Lib.hid hb
         clear hown hb))
       go_roundg g
       case rel => exact ⟨q, out ++ movedL l L, An, L + L2, cn, rfl, Lib.hid (by rw [List.length_append, moved_length, HL2.out, HL.out]), HE2, by omega, by omega, HOK6, by omega, Lib.hid (HS7.out.to HBW.out HOW.out)⟩
       case measure => omega
     · have HR : Hid (rowQ s n p [] = (out, p1)) := Lib.hid (by rw [← HE.out, rowQ_stop hc])
       rw [HR.out] at HX0
       simp only at HX0
       rw [hc]
       clear hc HE
       go_wp2_with fail
       go_cut [55] (fun v wx => v = .bool (!isP s p1 124) ∧ Hid (QO P s w0 wx p1 out (.slice A L c)))
       case first =>
         have q_p := HS2.out.re
         rcases Bool.eq_false_or_eq_true (endsP s p1) with he | he
         · have HE : Hid ((!endsP s p1) = false) := Lib.hid (by rw [he]; rfl)
           have HI := Lib.hid (isP_end (c := 124) he)
           have HEN := Lib.hid he
           clear he
           refine wp_region_quiet_below (by kernel_rfl) (by kernel_rfl) ?_
           repeat (go_big_quiet_step ((go_at_call 98; exact Calls.regrown_of (as_bool HE.out (more_any (HS2.out.pb.later (below_regrown _ _ _)) (by omega) (by omega))))))
           refine wpQuiet_nil ?_
           intro wq hwq
           have hbq : Below wc.heap.size wc wq := by obtain ⟨p, rfl⟩ := hwq; exact below_regrown _ _ _
           clear hwq q_p
           go_wp2_with fail
           go_meet
           exact ⟨by simp [HI.out, HEN.out], Lib.hid (HS2.out.later hbq)⟩
         · have HE : Hid ((!endsP s p1) = true) := Lib.hid (by rw [he]; rfl)
           have hlt := (more_at he).2
           have HEN := Lib.hid he
           obtain ⟨bb, hbb⟩ : ∃ bb, byteAt s (p1).at_ = bb := ⟨_, rfl⟩
           have hix := fun wx => run_ix0 hlt hbb wx
           have HI := Lib.hid (isP_of (c := 124) he hbb)
           clear he hbb
           rcases Nat.decEq bb 124 with hk | hk
           · have hk1 : ((bb : Int) == 124) = false := by simp; omega
             have hk2 : ((bb : Int) != 124) = true := by rw [bne, hk1]; rfl
             have HI2 : Hid (isP s p1 124 = false) := Lib.hid (by rw [HI.out]; simp [hk])
             clear hk
             refine wp_region_quiet_below (by kernel_rfl) (by kernel_rfl) ?_
             repeat (go_big_quiet_step ((go_at_call 98; exact Calls.regrown_of (as_bool HE.out (more_any (HS2.out.pb.later (below_regrown _ _ _)) (by omega) (by omega))))))
             refine wpQuiet_nil ?_
             intro wq hwq
             have hbq : Below wc.heap.size wc wq := by obtain ⟨p, rfl⟩ := hwq; exact below_regrown _ _ _
             clear hwq q_p hix hk1 hk2
             go_wp2_with fail
             go_meet
             exact ⟨by simp [HI2.out, HEN.out], Lib.hid (HS2.out.later hbq)⟩
           · have hk1 : ((bb : Int) == 124) = true := by simp; omega
             have hk2 : ((bb : Int) != 124) = false := by rw [bne, hk1]; rfl
             have HI2 : Hid (isP s p1 124 = true) := Lib.hid (by rw [HI.out]; simp [hk])
             clear hk
             refine wp_region_quiet_below (by kernel_rfl) (by kernel_rfl) ?_
             repeat (go_big_quiet_step ((go_at_call 98; exact Calls.regrown_of (as_bool HE.out (more_any (HS2.out.pb.later (below_regrown _ _ _)) (by omega) (by omega))))))
             refine wpQuiet_nil ?_
             intro wq hwq
             have hbq : Below wc.heap.size wc wq := by obtain ⟨p, rfl⟩ := hwq; exact below_regrown _ _ _
             clear hwq q_p hix hk1 hk2
             go_wp2_with fail
             go_meet
             exact ⟨by simp [HI2.out, HEN.out], Lib.hid (HS2.out.later hbq)⟩
       case rest =>
         obtain ⟨rfl, HS3⟩ := hcut
         clear HS2
         rcases Bool.eq_false_or_eq_true (isP s p1 124) with hi | hi
         · obtain ⟨hlt1, _⟩ := is_lt hi
           have hst := Less.byte hi
           have hrem : remP s p1.step < m := by have := hst.lt (ends_of hi); omega
           have HOK3 : Hid (OkP s p1.step) := Lib.hid (HOK1.out.less hst)
           rw [if_pos hi] at HX0
           rw [hi]
           have k_p := HS3.out.cells
           have f_p := HS3.out.pb.free
           have hw1 : wrap64 ((p1.at_ : Int) + 1) = (p1.at_ : Int) + 1 := wrap_at (by omega)
           clear hi hst
           go_wp2_with fail
           have HS4 := Lib.hid HS3.out.step
           generalize World.setCell _ _ _ = w4 at *
           clear k_p f_p hw1 HS3
           refine (HPAT.out w4 P p1.step HS4.out.pb HOK3.out hrem).mono ?_
           rintro e w5 ⟨⟨A2, c2, rfl, ho⟩, he, hb⟩
           have hl2 : (patG n s p1.step).1.length ≤ 2000 := made_len (patQ_made s n p1.step) hs
           generalize patG n s p1.step = r at *
           obtain ⟨l2, q2⟩ := r
           simp only at ho hl2 hb HX0 ⊢
           have HS5 := Lib.hid (HS4.out.exP he hb)
           have HQ5 := Lib.hid ho
           generalize hL2 : l2.length = L2 at *
           have HL2 := Lib.hid hL2
           have HEI : Hid (eitherL out l2 = [splitI 1 (L + 2)] ++ movedL out 1 ++ [jumpI (L + 2 + L2)] ++ movedL l2 (L + 2)) := Lib.hid (by unfold eitherL; rw [HL.out, hL2])
           have hle5 := HS5.out.ex.1.size
           clear ho he hb hL2 HS4
           go_wp2_with fail
           generalize hW : World.alloc _ _ = w6
           obtain ⟨hb, hz⟩ := al1 hW
           have HN6 := Lib.hid (inq_new (i := splitI 1 (L + 2)) (base := w5.heap.size) hW rfl (Nat.le_refl _))
           have HB6 := Lib.hid hb
           clear hW hz hb
           refine (movedq_n (B := w5.heap.size) (c := c) (k0 := 1) HL.out ((HS5.out.own.rowsQ (by rw [HL.out]; omega)).keep HB6.out (Nat.le_refl _)) HB6.out.size (by omega)).mono ?_
           rintro e w7 ⟨⟨A3, c3, rfl, ho⟩, hb⟩
           have HN7 := Lib.hid (HN6.out.later hb (Nat.zero_le _))
           have HB7 := Lib.hid (bthen HB6.out hb)
           have HM7 := Lib.hid ho.srcQ
           have hle7 := HB7.out.size
           clear ho hb HN6
           go_upto_region 10 with ((
             at_builtin
             refine wpList_append_R (R := InsR) (e := 109) (base := w5.heap.size) (B := 0) (xs := [splitI 1 (L + 2)]) (ys := movedL out 1) rfl (.tmp 70) (.tmp 72) 84 rfl (bytes := 56) Tryz.underlying84 hi0 hz0 hz1 hz2 rfl (show 0 < 7 by omega) single_in rfl HN7.out rfl HM7.out ((moved_length out 1).trans HL.out).symm (Nat.zero_le _) (by rw [moved_length, HL.out]; simp only [List.length_cons, List.length_nil]; omega) (by omega) (hle7) ?_
             intro v wn_ hown hb
             obtain ⟨An, cn, rfl⟩ := hown.formQ (show _ = L + 1 by rw [List.length_append, moved_length, HL.out]; simp; omega)
             have HOW := Lib.hid hown
             have HBW := Lib.hid hb
             clear hown hb))
           have HB8 := Lib.hid (HB7.out.trans HBW.out)
           have HO8 := Lib.hid HOW.out
           generalize wn_ = w8 at *
           generalize An = A8 at *
           generalize cn = c8 at *
           have hle8 := HB8.out.size
           have HJ8 := Lib.hid (And.intro (HO8.out.later (below_new (w := w8) (o := .cells #[.int .i64 3, .int .u64 0, .int .u64 0, .int .u64 0, .int .u64 0, .int .i64 ((L : Int) + 2 + L2), .int .i64 0] 109) rfl) (Nat.zero_le _)) (OwnR.src (xs := [jumpI (L + 2 + L2)]) (inq_new (w := w8) (i := jumpI (L + 2 + L2)) (base := w5.heap.size) (o := .cells #[.int .i64 3, .int .u64 0, .int .u64 0, .int .u64 0, .int .u64 0, .int .i64 ((L : Int) + 2 + L2), .int .i64 0] 109) rfl rfl hle8)))
           clear HOW HBW HN7 HM7
           go_upto_region 11 with ((
             at_builtin
             refine wpList_append_R (R := InsR) (e := 109) (base := w5.heap.size) (B := 0) (xs := [splitI 1 (L + 2)] ++ movedL out 1) (ys := [jumpI (L + 2 + L2)]) rfl (.tmp 74) (.tmp 82) 84 rfl (bytes := 56) Tryz.underlying84 hi0 hz0 hz1 hz2 rfl (show 0 < 7 by omega) single_in rfl HJ8.out.1 rfl HJ8.out.2 rfl (Nat.zero_le _) (by rw [List.length_append, moved_length, HL.out]; simp only [List.length_cons, List.length_nil]; omega) (by omega) ((by rw [World.size_alloc]; omega)) ?_
             intro v wn_ hown hb
             obtain ⟨An, cn, rfl⟩ := hown.formQ (show _ = L + 2 by rw [List.length_append, List.length_append, moved_length, HL.out]; simp; omega)
             have HOW := Lib.hid hown
             have HBW := Lib.hid hb
             clear hown hb))
           have HB9 := Lib.hid ((HB8.out.alloc hle8 (.cells #[.int .i64 3, .int .u64 0, .int .u64 0, .int .u64 0, .int .u64 0, .int .i64 ((L : Int) + 2 + L2), .int .i64 0] 109)).trans HBW.out)
           have HO9 := Lib.hid HOW.out
           generalize wn_ = w9 at *
           generalize An = A9 at *
           generalize cn = c9 at *
           have hle9 := HB9.out.size
           clear HOW HBW HJ8 HO8
           go_wp2_with fail
           refine (movedq_n (B := w5.heap.size) (c := c2) (k0 := (L : Int) + 2) HL2.out ((HQ5.out.rowsQ (by rw [HL2.out]; omega)).keep HB9.out (Nat.le_refl _)) hle9 (by omega)).mono ?_
           rintro e w10 ⟨⟨A4, c4, rfl, ho⟩, hb⟩
           have HO10 := Lib.hid (HO9.out.later hb (Nat.zero_le _))
           have HB10 := Lib.hid (bthen HB9.out hb)
           have HM10 := Lib.hid ho.srcQ
           have hle10 := HB10.out.size
           clear ho hb HO9
           go_wp2_with ((
             at_builtin
             refine wpList_append_R (R := InsR) (e := 109) (base := w5.heap.size) (B := 0) (xs := [splitI 1 (L + 2)] ++ movedL out 1 ++ [jumpI (L + 2 + L2)]) (ys := movedL l2 (L + 2)) rfl (.tmp 84) (.tmp 89) 84 rfl (bytes := 56) Tryz.underlying84 hi0 hz0 hz1 hz2 rfl (show 0 < 7 by omega) single_in rfl HO10.out rfl HM10.out ((moved_length l2 _).trans HL2.out).symm (Nat.zero_le _) (by simp only [List.length_append, moved_length, List.length_cons, List.length_nil, HL.out, HL2.out]; omega) (by omega) (hle10) ?_
             intro v wn_ hown hb
             obtain ⟨An, cn, rfl⟩ := hown.formQ (show _ = L + 2 + L2 by simp only [List.length_append, moved_length, List.length_cons, List.length_nil, HL.out, HL2.out]; omega)
             have HOW := Lib.hid hown
             have HBW := Lib.hid hb
             clear hown hb))
           go_ret
           rw [HX0.out, HEI.out]
           exact (HS5.out.to ((HB10.out.trans HBW.out).mono hle5) (HOW.out.lowQ hle5)).pe
         · rw [if_neg (by rw [hi]; simp)] at HX0
           rw [hi]
           clear hi
           go_wp2_with fail
           go_ret
           rw [HX0.out]
           exact HS3.out.pe
open Go.ChangeShapes Go.WideShapes Go.ChangeAt Go.RowKit
theorem QCall.mono {F : FuncId} {f : ByteArray → PS → List Ins × PS} {s : ByteArray} {ok ok' : PS → Prop} (h : QCall F f s ok) (hi : ∀ p, ok' p → ok p) : QCall F f s ok' := fun w P p hb hok hp => h w P p hb hok (hi p hp)
theorem pieceq_all {s : ByteArray} (hs : s.size ≤ 1000) (r : Nat) (h : ∀ r', r' < r → ∀ n, 4 * r' + 2 ≤ n → QCall 97 (patG n) s (fun p => remP s p ≤ r')) (g : Nat) (hg : 4 * r ≤ g) (hr : 1 ≤ r) : QCall 121 (pieceG g) s (fun p => remP s p ≤ r ∧ remP s p ≠ 0) := by
 obtain ⟨n, rfl⟩ : ∃ n, g = n + 1 + 1 := ⟨g - 2, by omega⟩
 have hp := h (r - 1) (by omega) n (by omega)
 have ha := atomq_step hs n r (hp.mono fun p hp => by omega)
 exact pieceq_step hs (n + 1) r (by omega) ha
theorem patternq_all {s : ByteArray} (hs : s.size ≤ 1000) (m : Nat) : ∀ n, 4 * m + 2 ≤ n → QCall 97 (patG n) s (fun p => remP s p ≤ m) := by
 induction m using Nat.strongRecOn with
 | _ m ih =>
   intro n hn
   obtain ⟨k, rfl⟩ : ∃ k, n = k + 1 := ⟨n - 1, by omega⟩
   refine patternq_step hs k m (by omega) (fun r hr g hg h1 => pieceq_all hs r (fun r' hr' => ih r' (by omega)) g hg h1) ?_
   cases m with
   | zero => exact fun w P p _ _ hp => absurd hp (by omega)
   | succ m => exact (ih m (by omega) k (by omega)).mono fun p hp => by omega
def CompQE (w w' : World) (r : List Ins × Int) (e : Ending) : Prop :=
 (∃ A c, e = .returned (.tuple #[.slice A r.1.length c, .int .i64 r.2]) ∧ OwnR InsR 109 w' w.heap.size 0 (.slice A r.1.length c) r.1) ∧ Below w.heap.size w w'
set_option maxRecDepth 100000 in
set_option maxHeartbeats 4000000 in
theorem compileq_any {w : World} {s : ByteArray} (hs : s.size ≤ 140737488351232) :
   Calls Tryz.prog 73 #[.string s] w fun e w' => CompQE w w' (compQ s) e := by
 obtain ⟨i0, hi0, hz0, hz1, hz2⟩ := info_parts infoInq
 by_cases h256 : 256 < s.size
 · have HX : Hid (compQ s = ([], 4)) := Lib.hid (by unfold compQ; rw [if_pos h256])
   go_enter Tryz.func73, Tryz.ntmps73
   go_wp2_with fail
   go_ret2
   rw [HX.out]
   exact ⟨⟨none, 0, rfl, OwnR.nil _ _ _ _ _⟩, Below.refl _ _⟩
 · have HX : Hid (compQ s = if (finP s (patG (fuelOf s.size) s ⟨0, 0, 0⟩).2).e = 0 then ((patG (fuelOf s.size) s ⟨0, 0, 0⟩).1 ++ [doneI], 0) else ([], (finP s (patG (fuelOf s.size) s ⟨0, 0, 0⟩).2).e)) := Lib.hid (by unfold compQ patG; rw [if_neg h256])
   have HPA := Lib.hid (patternq_all (s := s) (by omega) s.size (fuelOf s.size) (by unfold fuelOf; omega))
   go_enter Tryz.func73, Tryz.ntmps73
   go_wp2_with fail
   generalize hW : World.alloc _ _ = w1
   obtain ⟨hb, hz⟩ := al1 hW
   have HB1 : Hid (Blk w1 w.heap.size (psA s ⟨0, 0, 0⟩)) := Lib.hid (n11 hW)
   have HBB := Lib.hid hb
   clear hW hz hb
   refine (HPA.out w1 w.heap.size ⟨0, 0, 0⟩ HB1.out ⟨Nat.zero_le _, Nat.zero_le _⟩ (rem_le _ _)).mono ?_
   rintro e w2 ⟨⟨A, c, rfl, ho⟩, he, hb⟩
   have hmd : Made s 0 ⟨0, 0, 0⟩ (patG (fuelOf s.size) s ⟨0, 0, 0⟩) := patQ_made s _ _
   have hl := made_len hmd (by omega)
   have hat : (patG (fuelOf s.size) s ⟨0, 0, 0⟩).2.at_ ≤ s.size := hmd.less.at_ (Nat.zero_le _)
   generalize patG (fuelOf s.size) s ⟨0, 0, 0⟩ = r at *
   obtain ⟨l, q⟩ := r
   simp only at ho hb hl hat HX
   have HB2 := Lib.hid hb
   have HE2 : Hid (Below w.heap.size w w2) := Lib.hid (HBB.out.trans he.1)
   have HO2 := Lib.hid (ho.lowQ (b0 := w.heap.size) HBB.out.size)
   generalize hLL : l.length = L at *
   have HLL := Lib.hid hLL
   clear ho he hb hmd hLL HB1 HPA
   go_wp2_with fail
   refine (more_any (s := s) (p := q) HB2.out (by omega) (by omega)).mono ?_
   rintro e w3 ⟨rfl, hb⟩
   have HB3 := Lib.hid (HB2.out.later hb)
   have HE3 := Lib.hid (bthen HE2.out hb)
   have HO3 := Lib.hid (HO2.out.later hb (Nat.zero_le _))
   clear hb HB2 HE2 HO2
   rcases Bool.eq_false_or_eq_true (endsP s q) with h1 | h1
   · have HF : Hid (finP s q = q) := Lib.hid (by unfold finP; rw [if_pos h1])
     rw [HF.out] at HX
     rw [h1]
     clear h1
     by_cases hye : q.e = 0
     · rw [if_pos hye] at HX
       have hne : ((q.e : Int) != 0) = false := by rw [hye]; rfl
       have k_p : ∀ o, w3.cell? ⟨w.heap.size, o, none⟩ = (#[.string s, .int .i64 q.at_, .int .i64 q.deep, .int .i64 q.e] : Array Value)[o]? := HB3.out.cell
       clear hye
       have HJ3 := Lib.hid (And.intro (HO3.out.later (below_new (w := w3) (o := .cells #[.int .i64 6, .int .u64 0, .int .u64 0, .int .u64 0, .int .u64 0, .int .i64 0, .int .i64 0] 109) rfl) (Nat.zero_le _)) (OwnR.src (xs := [doneI]) (inq_new (w := w3) (i := doneI) (base := w.heap.size) (o := .cells #[.int .i64 6, .int .u64 0, .int .u64 0, .int .u64 0, .int .u64 0, .int .i64 0, .int .i64 0] 109) rfl rfl HE3.out.size)))
       go_wp2_with ((
         at_builtin
         refine wpList_append_R (R := InsR) (e := 109) (base := w.heap.size) (B := 0) (xs := l) (ys := [doneI]) rfl (.tmp 27) (.tmp 29) 84 rfl (bytes := 56) Tryz.underlying84 hi0 hz0 hz1 hz2 rfl (show 0 < 7 by omega) single_in rfl HJ3.out.1 rfl HJ3.out.2 rfl (Nat.zero_le _) (by rw [HLL.out]; simp only [List.length_cons, List.length_nil]; omega) (by omega) ((by rw [World.size_alloc]; have := HE3.out.size; omega)) ?_
         intro v w6 hown hb
         obtain ⟨A5, c5, rfl⟩ := hown.formQ (show _ = L + 1 by rw [List.length_append, HLL.out]; rfl)
         have HOW := Lib.hid hown
         have HBW := Lib.hid hb
         clear hown hb))
       go_ret2
       have e9 : (l ++ [doneI]).length = L + 1 := by rw [List.length_append, HLL.out]; rfl
       rw [HX.out]
       refine ⟨⟨A5, c5, ?_, ?_⟩, (HE3.out.alloc HE3.out.size (.cells #[.int .i64 6, .int .u64 0, .int .u64 0, .int .u64 0, .int .u64 0, .int .i64 0, .int .i64 0] 109)).trans HBW.out⟩
       · rw [e9]; rfl
       · rw [e9]; exact HOW.out
     · have HX2 : Hid (compQ s = ([], q.e)) := Lib.hid (by rw [HX.out, if_neg hye])
       have hne : ((q.e : Int) != 0) = true := by simpa using hye
       have k_p : ∀ o, w3.cell? ⟨w.heap.size, o, none⟩ = (#[.string s, .int .i64 q.at_, .int .i64 q.deep, .int .i64 q.e] : Array Value)[o]? := HB3.out.cell
       clear hye
       go_wp2_with fail
       go_region
       all_goals
         go_wp2_with fail
         go_ret2
         rw [HX2.out]
         exact ⟨⟨none, 0, rfl, OwnR.nil _ _ _ _ _⟩, HE3.out.drew⟩
   · have HF : Hid (finP s q = failP q 3) := Lib.hid (by unfold finP; rw [h1]; rfl)
     rw [HF.out] at HX
     rw [h1]
     clear h1
     go_wp2_with fail
     refine (failq_any (s := s) (p := q) (n := 3) HB3.out).mono ?_
     rintro e w4 ⟨rfl, he, hb⟩
     have hye : (failP q 3).e ≠ 0 := fail_e (by decide)
     have HX2 : Hid (compQ s = ([], (failP q 3).e)) := Lib.hid (by rw [HX.out, if_neg hye])
     have HB4 := Lib.hid hb
     have HE4 : Hid (Below w.heap.size w w4) := Lib.hid (HE3.out.trans he.1)
     generalize failP q 3 = y at *
     clear he hb HF
     have hne : ((y.e : Int) != 0) = true := by simpa using hye
     have k_p : ∀ o, w4.cell? ⟨w.heap.size, o, none⟩ = (#[.string s, .int .i64 y.at_, .int .i64 y.deep, .int .i64 y.e] : Array Value)[o]? := HB4.out.cell
     clear hye
     go_wp2_with fail
     go_region
     all_goals
       go_wp2_with fail
       go_ret2
       rw [HX2.out]
       exact ⟨⟨none, 0, rfl, OwnR.nil _ _ _ _ _⟩, HE4.out.drew⟩
end Go.Proofs.YtiplipdigabidaaGreat
