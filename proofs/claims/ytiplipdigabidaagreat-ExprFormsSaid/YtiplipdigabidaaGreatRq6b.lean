/- viaticumref6.compiler.piece, pattern; Compile. -/
import Derived.Test.YtiplipdigabidaaGreatRq5d
set_option linter.unusedVariables false
set_option linter.unusedSimpArgs false
namespace Go.Proofs.YtiplipdigabidaaGreat
open Go.ChangeShapes Go.WideShapes Go.ChangeAt Go.RowKit
theorem movedq_n {B c L : Nat} {l : List Ins} {A : Option Addr} {k0 : Int} {w : World} (hL : l.length = L) (hl : RL InsR w B l A) (hB : B ≤ w.heap.size) (hn : L ≤ 1000000) :
   Calls Tryz.prog 122 #[.slice A L c, .int .i64 k0] w fun e w' => (∃ A c, e = .returned (.slice A L c) ∧ OwnR InsR 109 w' w.heap.size 0 (.slice A L c) (movedL l k0)) ∧ Below w.heap.size w w' := by
 subst hL
 refine (movedq_any (c := c) (k0 := k0) hl hB hn).mono ?_
 rintro e w' ⟨⟨A, c, rfl, ho⟩, hb⟩
 rw [moved_length] at ho ⊢
 exact ⟨⟨A, c, rfl, ho⟩, hb⟩
theorem pieceQ_of {s : ByteArray} {n : Nat} {p q : PS} {l : List Ins} (h : atomG n s p = (l, q)) : pieceG (n + 1) s p =
   if isP s q 42 then ([splitI 1 (l.length + 2)] ++ movedL l 1 ++ [jumpI 0], q.step)
   else if isP s q 43 then (l ++ [splitI 0 (l.length + 1)], q.step)
   else if isP s q 63 then ([splitI 1 (l.length + 1)] ++ movedL l 1, q.step)
   else (l, q) := by
 unfold pieceG pieceQ
 unfold atomG at h
 rw [h]
set_option maxRecDepth 100000 in
set_option maxHeartbeats 4000000 in
theorem pieceq_step {s : ByteArray} (hs : s.size ≤ 1000) (n m : Nat) (hn : 1 ≤ n) (hat : QCall 151 (atomG n) s (fun p => remP s p ≤ m ∧ remP s p ≠ 0)) :
   QCall 121 (pieceG (n + 1)) s (fun p => remP s p ≤ m ∧ remP s p ≠ 0) := by
 obtain ⟨i0, hi0, hz0, hz1, hz2⟩ := info_parts infoInq
 intro w0 P p hb hok hm
 have hlt := hb.lt
 have HB := Lib.hid hb
 have HAT := Lib.hid hat
 have HOK := Lib.hid hok
 have HM := Lib.hid hm
 clear hb hok hat hm
 go_enter Tryz.func121, Tryz.ntmps121
 go_wp2_with fail
 refine (HAT.out w0 P p HB.out HOK.out HM.out).mono ?_
 rintro e w1 ⟨⟨A, c, rfl, ho⟩, he, hb⟩
 have hmd : Made s 1 p (atomG n s p) := atomQ_made s n p HM.out.2 hn
 have hl : (atomG n s p).1.length ≤ 2000 := made_len hmd hs
 have hok2 := HOK.out.less hmd.less
 have HX : ∀ l q, atomG n s p = (l, q) → _ := fun l q h => pieceQ_of h
 generalize atomG n s p = r at *
 obtain ⟨l, q⟩ := r
 have HXc := Lib.hid (HX l q rfl)
 simp only at ho hb hl hok2
 have hq := hok2.at_
 have H1 : Hid (QO P s w0 w1 q l (.slice A l.length c)) := Lib.hid ⟨hb, he, hlt, ho⟩
 clear ho he hb HX hmd hok2 HB
 generalize hLL : l.length = L at *
 have HLL := Lib.hid hLL
 clear hLL
 go_wp2_with fail
 refine (more_any (s := s) (p := q) H1.out.pb (by omega) (by omega)).mono ?_
 rintro e w2 ⟨rfl, hb⟩
 have H2 := Lib.hid (H1.out.later hb)
 clear hb H1
 rcases Bool.eq_false_or_eq_true (endsP s q) with he | he
 · have HX2 : Hid (pieceG (n + 1) s p = (l, q)) := Lib.hid (by rw [HXc.out, isP_end he, isP_end he, isP_end he]; rfl)
   rw [he]
   clear he HXc
   go_wp2_with fail
   go_ret
   rw [HX2.out]
   exact H2.out.pe
 · obtain ⟨_, hlt1⟩ := more_at he
   rw [he]
   obtain ⟨b, hbb⟩ : ∃ b, byteAt s q.at_ = b := ⟨_, rfl⟩
   have hix := fun wx => run_ix0 hlt1 hbb wx
   have HI : Hid (∀ c, isP s q c = decide (b = c)) := Lib.hid fun c => isP_of he hbb
   clear he hbb
   have hw1 : wrap64 ((q.at_ : Int) + 1) = (q.at_ : Int) + 1 := wrap_at (by omega)
   go_wp2_with fail
   have q_p := H2.out.re
   refine wp_region_quiet_below (by kernel_rfl) (by kernel_rfl) ?_
   repeat (go_big_quiet_step (fail))
   refine wpQuiet_nil ?_
   intro w3 hw3
   have hb3 : Below w2.heap.size w2 w3 := by obtain ⟨p, rfl⟩ := hw3; exact below_regrown _ _ _
   have H3 := Lib.hid (H2.out.later hb3)
   clear hw3 q_p hb3 hix H2
   have k_p := H3.out.cells
   have f_p := H3.out.pb.free
   have hcases : b = 42 ∨ b = 43 ∨ b = 63 ∨ (b ≠ 42 ∧ b ≠ 43 ∧ b ≠ 63) := by omega
   rcases hcases with rfl | rfl | rfl | ⟨h1, h2, h3⟩
   · have HX2 : Hid (pieceG (n + 1) s p = ([splitI 1 (L + 2)] ++ movedL l 1 ++ [jumpI 0], q.step)) := Lib.hid (by rw [HXc.out, HI.out]; rfl)
     clear HXc
     go_wp2_with fail
     generalize hW : World.alloc _ _ = w4
     obtain ⟨hb, hz⟩ := al1 hW
     have H3s := Lib.hid H3.out.step
     have hsz3 := World.size_setCell w3 ⟨P, 1, none⟩ (.int .i64 ((q.at_ : Int) + 1))
     generalize w3.setCell _ _ = w3s at *
     have hn4 := inq_new (i := splitI 1 (L + 2)) (base := w0.heap.size) hW rfl H3s.out.ex.1.size
     rw [hsz3] at hn4
     have HN4 := Lib.hid hn4
     have H4 := Lib.hid (H3s.out.later hb)
     clear hW hz hb H3 H3s k_p f_p hw1 hn4 hsz3
     refine (movedq_n (B := w4.heap.size) (c := c) (k0 := 1) HLL.out (H4.out.own.rowsQ (by rw [HLL.out]; omega)) (Nat.le_refl _) (by omega)).mono ?_
     rintro e w5 ⟨⟨A3, c3, rfl, ho⟩, hb⟩
     have HN5 := Lib.hid (HN4.out.later hb (Nat.zero_le _))
     have H5 := Lib.hid (H4.out.later hb)
     have HM5 := Lib.hid ho.srcQ
     have hle5 := H5.out.ex.1.size
     clear ho hb HN4 H4
     go_upto_region 9 with ((
       at_builtin
       refine wpList_append_R (R := InsR) (e := 109) (base := w0.heap.size) (B := 0) (xs := [splitI 1 (L + 2)]) (ys := movedL l 1) rfl (.tmp 35) (.tmp 37) 84 rfl (bytes := 56) Tryz.underlying84 hi0 hz0 hz1 hz2 rfl (show 0 < 7 by omega) single_in rfl HN5.out rfl HM5.out ((moved_length l 1).trans HLL.out).symm (Nat.zero_le _) (by rw [moved_length, HLL.out]; simp only [List.length_cons, List.length_nil]; omega) (by omega) (hle5) ?_
       intro v wn_ hown hb
       obtain ⟨An, cn, rfl⟩ := hown.formQ (show _ = L + 1 by rw [List.length_append, moved_length, HLL.out]; simp; omega)
       have HOW := Lib.hid hown
       have HBW := Lib.hid hb
       clear hown hb))
     have H6 := Lib.hid (H5.out.to HBW.out HOW.out)
     have HJ6 := Lib.hid (And.intro (H6.out.own.later (below_new (w := wn_) (o := .cells #[.int .i64 3, .int .u64 0, .int .u64 0, .int .u64 0, .int .u64 0, .int .i64 0, .int .i64 0] 109) rfl) (Nat.zero_le _)) (OwnR.src (xs := [jumpI 0]) (inq_new (w := wn_) (i := jumpI 0) (base := w0.heap.size) (o := .cells #[.int .i64 3, .int .u64 0, .int .u64 0, .int .u64 0, .int .u64 0, .int .i64 0, .int .i64 0] 109) rfl rfl H6.out.ex.1.size)))
     have hle6 := H6.out.ex.1.size
     generalize wn_ = w6 at *
     clear HOW HBW H5 HN5 HM5
     go_wp2_with ((
       at_builtin
       refine wpList_append_R (R := InsR) (e := 109) (base := w0.heap.size) (B := 0) (xs := [splitI 1 (L + 2)] ++ movedL l 1) (ys := [jumpI 0]) rfl (.tmp 39) (.tmp 41) 84 rfl (bytes := 56) Tryz.underlying84 hi0 hz0 hz1 hz2 rfl (show 0 < 7 by omega) single_in rfl HJ6.out.1 rfl HJ6.out.2 rfl (Nat.zero_le _) (by rw [List.length_append, moved_length, HLL.out]; simp only [List.length_cons, List.length_nil]; omega) (by omega) ((by rw [World.size_alloc]; omega)) ?_
       intro v wn_ hown hb
       obtain ⟨An, cn, rfl⟩ := hown.formQ (show _ = L + 2 by rw [List.length_append, List.length_append, moved_length, HLL.out]; simp; omega)
       have HOW := Lib.hid hown
       have HBW := Lib.hid hb
       clear hown hb))
     go_ret
     rw [HX2.out]
     exact ((H6.out.later (below_new (w := w6) (o := .cells #[.int .i64 3, .int .u64 0, .int .u64 0, .int .u64 0, .int .u64 0, .int .i64 0, .int .i64 0] 109) rfl)).to HBW.out HOW.out).pe
   · have HX2 : Hid (pieceG (n + 1) s p = (l ++ [splitI 0 (L + 1)], q.step)) := Lib.hid (by rw [HXc.out, HI.out, HI.out]; rfl)
     clear HXc
     go_upto_region 12 with fail
     have H4 := Lib.hid H3.out.step
     generalize w3.setCell _ _ = w4 at *
     clear H3 k_p f_p hw1
     have HJ4 := Lib.hid (And.intro (H4.out.own.later (below_new (w := w4) (o := .cells #[.int .i64 2, .int .u64 0, .int .u64 0, .int .u64 0, .int .u64 0, .int .i64 0, .int .i64 ((L : Int) + 1)] 109) rfl) (Nat.zero_le _)) (OwnR.src (xs := [splitI 0 (L + 1)]) (inq_new (w := w4) (i := splitI 0 (L + 1)) (base := w0.heap.size) (o := .cells #[.int .i64 2, .int .u64 0, .int .u64 0, .int .u64 0, .int .u64 0, .int .i64 0, .int .i64 ((L : Int) + 1)] 109) rfl rfl H4.out.ex.1.size)))
     have hle4 := H4.out.ex.1.size
     go_wp2_with ((
       at_builtin
       refine wpList_append_R (R := InsR) (e := 109) (base := w0.heap.size) (B := 0) (xs := l) (ys := [splitI 0 (L + 1)]) rfl (.tmp 52) (.tmp 56) 84 rfl (bytes := 56) Tryz.underlying84 hi0 hz0 hz1 hz2 rfl (show 0 < 7 by omega) single_in rfl HJ4.out.1 rfl HJ4.out.2 rfl (Nat.zero_le _) (by rw [HLL.out]; simp only [List.length_cons, List.length_nil]; omega) (by omega) ((by rw [World.size_alloc]; omega)) ?_
       intro v wn_ hown hb
       obtain ⟨An, cn, rfl⟩ := hown.formQ (show _ = L + 1 by rw [List.length_append, HLL.out]; rfl)
       have HOW := Lib.hid hown
       have HBW := Lib.hid hb
       clear hown hb))
     go_ret
     rw [HX2.out]
     exact ((H4.out.later (below_new (w := w4) (o := .cells #[.int .i64 2, .int .u64 0, .int .u64 0, .int .u64 0, .int .u64 0, .int .i64 0, .int .i64 ((L : Int) + 1)] 109) rfl)).to HBW.out HOW.out).pe
   · have HX2 : Hid (pieceG (n + 1) s p = ([splitI 1 (L + 1)] ++ movedL l 1, q.step)) := Lib.hid (by rw [HXc.out, HI.out, HI.out, HI.out]; rfl)
     clear HXc
     go_wp2_with fail
     generalize hW : World.alloc _ _ = w4
     obtain ⟨hb, hz⟩ := al1 hW
     have H3s := Lib.hid H3.out.step
     have hsz3 := World.size_setCell w3 ⟨P, 1, none⟩ (.int .i64 ((q.at_ : Int) + 1))
     generalize w3.setCell _ _ = w3s at *
     have hn4 := inq_new (i := splitI 1 (L + 1)) (base := w0.heap.size) hW rfl H3s.out.ex.1.size
     rw [hsz3] at hn4
     have HN4 := Lib.hid hn4
     have H4 := Lib.hid (H3s.out.later hb)
     clear hW hz hb H3 H3s k_p f_p hw1 hn4 hsz3
     refine (movedq_n (B := w4.heap.size) (c := c) (k0 := 1) HLL.out (H4.out.own.rowsQ (by rw [HLL.out]; omega)) (Nat.le_refl _) (by omega)).mono ?_
     rintro e w5 ⟨⟨A3, c3, rfl, ho⟩, hb⟩
     have HN5 := Lib.hid (HN4.out.later hb (Nat.zero_le _))
     have H5 := Lib.hid (H4.out.later hb)
     have HM5 := Lib.hid ho.srcQ
     have hle5 := H5.out.ex.1.size
     clear ho hb HN4 H4
     go_wp2_with ((
       at_builtin
       refine wpList_append_R (R := InsR) (e := 109) (base := w0.heap.size) (B := 0) (xs := [splitI 1 (L + 1)]) (ys := movedL l 1) rfl (.tmp 70) (.tmp 72) 84 rfl (bytes := 56) Tryz.underlying84 hi0 hz0 hz1 hz2 rfl (show 0 < 7 by omega) single_in rfl HN5.out rfl HM5.out ((moved_length l 1).trans HLL.out).symm (Nat.zero_le _) (by rw [moved_length, HLL.out]; simp only [List.length_cons, List.length_nil]; omega) (by omega) (hle5) ?_
       intro v wn_ hown hb
       obtain ⟨An, cn, rfl⟩ := hown.formQ (show _ = L + 1 by rw [List.length_append, moved_length, HLL.out]; simp; omega)
       have HOW := Lib.hid hown
       have HBW := Lib.hid hb
       clear hown hb))
     go_ret
     rw [HX2.out]
     exact (H5.out.to HBW.out HOW.out).pe
   · have HX2 : Hid (pieceG (n + 1) s p = (l, q)) := Lib.hid (by rw [HXc.out, HI.out, HI.out, HI.out]; simp [h1, h2, h3])
     have g1 : ((b : Int) == 42) = false := by simp; omega
     have g2 : ((b : Int) == 43) = false := by simp; omega
     have g3 : ((b : Int) == 63) = false := by simp; omega
     clear HXc h1 h2 h3
     go_wp2_with fail
     go_ret
     rw [HX2.out]
     exact H3.out.pe
open Go.ChangeShapes Go.WideShapes Go.ChangeAt Go.RowKit
theorem rowQ_stop {s : ByteArray} {n : Nat} {p : PS} {out : List Ins} (h : (!endsP s p && (!isP s p 124 && !isP s p 41)) = false) : rowQ s n p out = (out, p) := by
 cases n with
 | zero => rfl
 | succ n => unfold rowQ; rw [h]; rfl
theorem rowQ_go {s : ByteArray} {n : Nat} {p : PS} {out : List Ins} (h : (!endsP s p && (!isP s p 124 && !isP s p 41)) = true) : rowQ s (n + 1) p out = rowQ s n (pieceG n s p).2 (out ++ movedL (pieceG n s p).1 out.length) := by
 show (if (!endsP s p && (!isP s p 124 && !isP s p 41)) = true then _ else _) = _
 rw [h]
 rfl
set_option maxRecDepth 100000 in
set_option maxHeartbeats 8000000 in
theorem patternq_step {s : ByteArray} (hs : s.size ≤ 1000) (n m : Nat) (hn : 4 * m + 1 ≤ n) (hpc : ∀ r, r ≤ m → ∀ g, 4 * r ≤ g → 1 ≤ r → QCall 121 (pieceG g) s (fun p => remP s p ≤ r ∧ remP s p ≠ 0)) (hpat : QCall 97 (patG n) s (fun p => remP s p < m)) :
   QCall 97 (patG (n + 1)) s (fun p => remP s p ≤ m) := by
 obtain ⟨i0, hi0, hz0, hz1, hz2⟩ := info_parts infoInq
 intro w0 P p hb hok hm
 have hlt := hb.lt
 have HB := Lib.hid hb
 have HPC := Lib.hid hpc
 have HPAT := Lib.hid hpat
 have HOK := Lib.hid hok
 have hrs := rem_le s p
 have HX0 : Hid (patG (n + 1) s p = if isP s (rowQ s n p []).2 124 = true then (eitherL (rowQ s n p []).1 (patG n s (rowQ s n p []).2.step).1, (patG n s (rowQ s n p []).2.step).2) else rowQ s n p []) := Lib.hid rfl
 clear hb hok hpc hpat
 go_enter Tryz.func97, Tryz.ntmps97
 go_wp2_with fail
 go_loopg [3] n (fun g v3 wr => ∃ (p1 : PS) (out : List Ins) (A : Option Addr) (L c : Nat), v3 = .slice A L c ∧ Hid (out.length = L) ∧ Hid (rowQ s g p1 out = rowQ s n p []) ∧ 4 * remP s p1 + 1 ≤ g ∧ remP s p1 ≤ m ∧ Hid (OkP s p1) ∧ L + 2 * remP s p1 ≤ 2000 ∧ Hid (QO P s w0 wr p1 out (.slice A L c)))
 case atStart => exact ⟨p, [], none, 0, 0, rfl, Lib.hid rfl, Lib.hid rfl, by omega, hm, HOK, by omega, Lib.hid ⟨HB.out, Exc.refl _ _, hlt, OwnR.nil _ _ _ _ _⟩⟩
 case round =>
   obtain ⟨p1, out, A, L, c, rfl, HL, HE, hg, hr1, HOK1, hlen, HS⟩ := hrel
   have hat1 := HOK1.out.at_
   go_wp2_with fail
   go_cut [32] (fun v wx => v = .bool (!endsP s p1 && (!isP s p1 124 && !isP s p1 41)) ∧ Hid (QO P s w0 wx p1 out (.slice A L c)))
   case first =>
     have q_p := HS.out.re
     rcases Bool.eq_false_or_eq_true (endsP s p1) with he | he
     · have HE1 := Lib.hid he
       have HE : Hid ((!endsP s p1) = false) := Lib.hid (by rw [he]; rfl)
       clear he
       refine wp_region_quiet_below (by kernel_rfl) (by kernel_rfl) ?_
       repeat (go_big_quiet_step ((go_at_call 98; exact Calls.regrown_of (as_bool HE.out (more_any (HS.out.pb.later (below_regrown _ _ _)) (by omega) (by omega))))))
       refine wpQuiet_nil ?_
       intro wq hwq
       have hbq : Below wr.heap.size wr wq := by obtain ⟨p, rfl⟩ := hwq; exact below_regrown _ _ _
       clear hwq q_p
       go_wp2_with fail
       go_meet
       exact ⟨by simp [HE1.out], Lib.hid (HS.out.later hbq)⟩
     · have HE1 := Lib.hid he
       have HE : Hid ((!endsP s p1) = true) := Lib.hid (by rw [he]; rfl)
       have hlt1 := (more_at he).2
       obtain ⟨bb, hbb⟩ : ∃ bb, byteAt s p1.at_ = bb := ⟨_, rfl⟩
       have hix := fun wx => run_ix0 hlt1 hbb wx
       have HI1 := Lib.hid (isP_of (c := 124) he hbb)
       have HI2 := Lib.hid (isP_of (c := 41) he hbb)
       clear he hbb
       have hcases : bb = 124 ∨ bb = 41 ∨ (bb ≠ 124 ∧ bb ≠ 41) := by omega
       rcases hcases with rfl | rfl | ⟨h1, h2⟩
       · refine wp_region_quiet_below (by kernel_rfl) (by kernel_rfl) ?_
         repeat (go_big_quiet_step ((go_at_call 98; exact Calls.regrown_of (as_bool HE.out (more_any (HS.out.pb.later (below_regrown _ _ _)) (by omega) (by omega))))))
         refine wpQuiet_nil ?_
         intro wq hwq
         have hbq : Below wr.heap.size wr wq := by obtain ⟨p, rfl⟩ := hwq; exact below_regrown _ _ _
         clear hwq q_p hix
         go_wp2_with fail
         go_meet
         exact ⟨by simp [HE1.out, HI1.out], Lib.hid (HS.out.later hbq)⟩
       · refine wp_region_quiet_below (by kernel_rfl) (by kernel_rfl) ?_
         repeat (go_big_quiet_step ((go_at_call 98; exact Calls.regrown_of (as_bool HE.out (more_any (HS.out.pb.later (below_regrown _ _ _)) (by omega) (by omega))))))
         refine wpQuiet_nil ?_
         intro wq hwq
         have hbq : Below wr.heap.size wr wq := by obtain ⟨p, rfl⟩ := hwq; exact below_regrown _ _ _
         clear hwq q_p hix
         go_wp2_with fail
         go_meet
         exact ⟨by simp [HE1.out, HI1.out, HI2.out], Lib.hid (HS.out.later hbq)⟩
       · have HH := Lib.hid (And.intro h1 h2)
         have g1 : ((bb : Int) != 124) = true := by simp; omega
         have g2 : ((bb : Int) != 41) = true := by simp; omega
         clear h1 h2
         refine wp_region_quiet_below (by kernel_rfl) (by kernel_rfl) ?_
         repeat (go_big_quiet_step ((go_at_call 98; exact Calls.regrown_of (as_bool HE.out (more_any (HS.out.pb.later (below_regrown _ _ _)) (by omega) (by omega))))))
         refine wpQuiet_nil ?_
         intro wq hwq
         have hbq : Below wr.heap.size wr wq := by obtain ⟨p, rfl⟩ := hwq; exact below_regrown _ _ _
         clear hwq q_p hix g1 g2
         go_wp2_with fail
         go_meet
         exact ⟨by simp [HE1.out, HI1.out, HI2.out, HH.out.1, HH.out.2], Lib.hid (HS.out.later hbq)⟩
   case rest =>
     obtain ⟨rfl, HS2⟩ := hcut
     clear HS
     rcases Bool.eq_false_or_eq_true (!endsP s p1 && (!isP s p1 124 && !isP s p1 41)) with hc | hc
     · obtain ⟨g, rfl⟩ : ∃ g, gk = g + 1 := ⟨gk - 1, by omega⟩
       have HE2 : Hid (rowQ s g (pieceG g s p1).2 (out ++ movedL (pieceG g s p1).1 L) = rowQ s n p []) := Lib.hid (by rw [← HE.out, rowQ_go hc, HL.out])
       have hne : remP s p1 ≠ 0 := by
         rw [Bool.and_eq_true, ends_rem] at hc
         simpa using hc.1
       rw [hc]
       clear hc HE
       go_wp2_with fail
       refine (HPC.out (remP s p1) hr1 g (by omega) (by omega) wc P p1 HS2.out.pb HOK1.out ⟨Nat.le_refl _, hne⟩).mono ?_
       rintro e w6 ⟨⟨A2, c2, rfl, ho⟩, he, hb⟩
       have hmd : Made s 1 p1 (pieceG g s p1) := pieceQ_made s g p1 hne (by omega)
       have hok2 := HOK1.out.less hmd.less
       have hrem2 := hmd.one hne
       have hlen2 := hmd.len
       have hl2 := made_len hmd hs
       generalize pieceG g s p1 = r at *
       obtain ⟨l, q⟩ := r
       simp only at ho hb hok2 hrem2 hlen2 hl2 HE2
       have HS6 := Lib.hid (HS2.out.exP he hb)
       have HO6 := Lib.hid (ho.rowsQ (by omega))
       have HOK6 := Lib.hid hok2
       generalize hL2 : l.length = L2 at *
       have HL2 := Lib.hid hL2
       clear ho he hb hmd hok2 hL2 HS2
       go_wp2_with fail
       refine (movedq_n (B := w6.heap.size) (c := c2) (k0 := L) HL2.out HO6.out (Nat.le_refl _) (by omega)).mono ?_
       rintro e w7 ⟨⟨A3, c3, rfl, ho⟩, hb⟩
       have HS7 := Lib.hid (HS6.out.later hb)
       have HM7 := Lib.hid ho.srcQ
       have hle7 := HS7.out.ex.1.size
       clear ho hb HS6
       go_wp2_with ((
         at_builtin
         refine wpList_append_R (R := InsR) (e := 109) (base := w0.heap.size) (B := 0) (xs := out) (ys := movedL l L) rfl (.tmp 35) (.tmp 39) 84 rfl (bytes := 56) Tryz.underlying84 hi0 hz0 hz1 hz2 rfl (show 0 < 7 by omega) single_in rfl HS7.out.own rfl HM7.out ((moved_length l L).trans HL2.out).symm (Nat.zero_le _) (by rw [moved_length, HL2.out, HL.out]; omega) (by omega) (hle7) ?_
         intro v wn_ hown hb
         obtain ⟨An, cn, rfl⟩ := hown.formQ (show _ = L + L2 by rw [List.length_append, moved_length, HL2.out, HL.out])
         have HOW := Lib.hid hown
         have HBW := Lib.hid hb
         clear hown hb))
       go_roundg g
       case rel => exact ⟨q, out ++ movedL l L, An, L + L2, cn, rfl, Lib.hid (by rw [List.length_append, moved_length, HL2.out, HL.out]), HE2, by omega, by omega, HOK6, by omega, Lib.hid (HS7.out.to HBW.out HOW.out)⟩
       case measure => omega
     · have HR : Hid (rowQ s n p [] = (out, p1)) := Lib.hid (by rw [← HE.out, rowQ_stop hc])
       rw [HR.out] at HX0
       simp only at HX0
       rw [hc]
       clear hc HE
       go_wp2_with fail
       go_cut [55] (fun v wx => v = .bool (!isP s p1 124) ∧ Hid (QO P s w0 wx p1 out (.slice A L c)))
       case first =>
         have q_p := HS2.out.re
         rcases Bool.eq_false_or_eq_true (endsP s p1) with he | he
         · have HE : Hid ((!endsP s p1) = false) := Lib.hid (by rw [he]; rfl)
           have HI := Lib.hid (isP_end (c := 124) he)
           have HEN := Lib.hid he
           clear he
           refine wp_region_quiet_below (by kernel_rfl) (by kernel_rfl) ?_
           repeat (go_big_quiet_step ((go_at_call 98; exact Calls.regrown_of (as_bool HE.out (more_any (HS2.out.pb.later (below_regrown _ _ _)) (by omega) (by omega))))))
           refine wpQuiet_nil ?_
           intro wq hwq
           have hbq : Below wc.heap.size wc wq := by obtain ⟨p, rfl⟩ := hwq; exact below_regrown _ _ _
           clear hwq q_p
           go_wp2_with fail
           go_meet
           exact ⟨by simp [HI.out, HEN.out], Lib.hid (HS2.out.later hbq)⟩
         · have HE : Hid ((!endsP s p1) = true) := Lib.hid (by rw [he]; rfl)
           have hlt := (more_at he).2
           have HEN := Lib.hid he
           obtain ⟨bb, hbb⟩ : ∃ bb, byteAt s (p1).at_ = bb := ⟨_, rfl⟩
           have hix := fun wx => run_ix0 hlt hbb wx
           have HI := Lib.hid (isP_of (c := 124) he hbb)
           clear he hbb
           rcases Nat.decEq bb 124 with hk | hk
           · have hk1 : ((bb : Int) == 124) = false := by simp; omega
             have hk2 : ((bb : Int) != 124) = true := by rw [bne, hk1]; rfl
             have HI2 : Hid (isP s p1 124 = false) := Lib.hid (by rw [HI.out]; simp [hk])
             clear hk
             refine wp_region_quiet_below (by kernel_rfl) (by kernel_rfl) ?_
             repeat (go_big_quiet_step ((go_at_call 98; exact Calls.regrown_of (as_bool HE.out (more_any (HS2.out.pb.later (below_regrown _ _ _)) (by omega) (by omega))))))
             refine wpQuiet_nil ?_
             intro wq hwq
             have hbq : Below wc.heap.size wc wq := by obtain ⟨p, rfl⟩ := hwq; exact below_regrown _ _ _
             clear hwq q_p hix hk1 hk2
             go_wp2_with fail
             go_meet
             exact ⟨by simp [HI2.out, HEN.out], Lib.hid (HS2.out.later hbq)⟩
           · have hk1 : ((bb : Int) == 124) = true := by simp; omega
             have hk2 : ((bb : Int) != 124) = false := by rw [bne, hk1]; rfl
             have HI2 : Hid (isP s p1 124 = true) := Lib.hid (by rw [HI.out]; simp [hk])
             clear hk
             refine wp_region_quiet_below (by kernel_rfl) (by kernel_rfl) ?_
             repeat (go_big_quiet_step ((go_at_call 98; exact Calls.regrown_of (as_bool HE.out (more_any (HS2.out.pb.later (below_regrown _ _ _)) (by omega) (by omega))))))
             refine wpQuiet_nil ?_
             intro wq hwq
             have hbq : Below wc.heap.size wc wq := by obtain ⟨p, rfl⟩ := hwq; exact below_regrown _ _ _
             clear hwq q_p hix hk1 hk2
             go_wp2_with fail
             go_meet
             exact ⟨by simp [HI2.out, HEN.out], Lib.hid (HS2.out.later hbq)⟩
       case rest =>
         obtain ⟨rfl, HS3⟩ := hcut
         clear HS2
         rcases Bool.eq_false_or_eq_true (isP s p1 124) with hi | hi
         · obtain ⟨hlt1, _⟩ := is_lt hi
           have hst := Less.byte hi
           have hrem : remP s p1.step < m := by have := hst.lt (ends_of hi); omega
           have HOK3 : Hid (OkP s p1.step) := Lib.hid (HOK1.out.less hst)
           rw [if_pos hi] at HX0
           rw [hi]
           have k_p := HS3.out.cells
           have f_p := HS3.out.pb.free
           have hw1 : wrap64 ((p1.at_ : Int) + 1) = (p1.at_ : Int) + 1 := wrap_at (by omega)
           clear hi hst
           go_wp2_with fail
           have HS4 := Lib.hid HS3.out.step
           generalize World.setCell _ _ _ = w4 at *
           clear k_p f_p hw1 HS3
           refine (HPAT.out w4 P p1.step HS4.out.pb HOK3.out hrem).mono ?_
           rintro e w5 ⟨⟨A2, c2, rfl, ho⟩, he, hb⟩
           have hl2 : (patG n s p1.step).1.length ≤ 2000 := made_len (patQ_made s n p1.step) hs
           generalize patG n s p1.step = r at *
           obtain ⟨l2, q2⟩ := r
           simp only at ho hl2 hb HX0 ⊢
           have HS5 := Lib.hid (HS4.out.exP he hb)
           have HQ5 := Lib.hid ho
           generalize hL2 : l2.length = L2 at *
           have HL2 := Lib.hid hL2
           have HEI : Hid (eitherL out l2 = [splitI 1 (L + 2)] ++ movedL out 1 ++ [jumpI (L + 2 + L2)] ++ movedL l2 (L + 2)) := Lib.hid (by unfold eitherL; rw [HL.out, hL2])
           have hle5 := HS5.out.ex.1.size
           clear ho he hb hL2 HS4
           go_wp2_with fail
           generalize hW : World.alloc _ _ = w6
           obtain ⟨hb, hz⟩ := al1 hW
           have HN6 := Lib.hid (inq_new (i := splitI 1 (L + 2)) (base := w5.heap.size) hW rfl (Nat.le_refl _))
           have HB6 := Lib.hid hb
           clear hW hz hb
           refine (movedq_n (B := w5.heap.size) (c := c) (k0 := 1) HL.out ((HS5.out.own.rowsQ (by rw [HL.out]; omega)).keep HB6.out (Nat.le_refl _)) HB6.out.size (by omega)).mono ?_
           rintro e w7 ⟨⟨A3, c3, rfl, ho⟩, hb⟩
           have HN7 := Lib.hid (HN6.out.later hb (Nat.zero_le _))
           have HB7 := Lib.hid (bthen HB6.out hb)
           have HM7 := Lib.hid ho.srcQ
           have hle7 := HB7.out.size
           clear ho hb HN6
           go_upto_region 10 with ((
             at_builtin
             refine wpList_append_R (R := InsR) (e := 109) (base := w5.heap.size) (B := 0) (xs := [splitI 1 (L + 2)]) (ys := movedL out 1) rfl (.tmp 70) (.tmp 72) 84 rfl (bytes := 56) Tryz.underlying84 hi0 hz0 hz1 hz2 rfl (show 0 < 7 by omega) single_in rfl HN7.out rfl HM7.out ((moved_length out 1).trans HL.out).symm (Nat.zero_le _) (by rw [moved_length, HL.out]; simp only [List.length_cons, List.length_nil]; omega) (by omega) (hle7) ?_
             intro v wn_ hown hb
             obtain ⟨An, cn, rfl⟩ := hown.formQ (show _ = L + 1 by rw [List.length_append, moved_length, HL.out]; simp; omega)
             have HOW := Lib.hid hown
             have HBW := Lib.hid hb
             clear hown hb))
           have HB8 := Lib.hid (HB7.out.trans HBW.out)
           have HO8 := Lib.hid HOW.out
           generalize wn_ = w8 at *
           generalize An = A8 at *
           generalize cn = c8 at *
           have hle8 := HB8.out.size
           have HJ8 := Lib.hid (And.intro (HO8.out.later (below_new (w := w8) (o := .cells #[.int .i64 3, .int .u64 0, .int .u64 0, .int .u64 0, .int .u64 0, .int .i64 ((L : Int) + 2 + L2), .int .i64 0] 109) rfl) (Nat.zero_le _)) (OwnR.src (xs := [jumpI (L + 2 + L2)]) (inq_new (w := w8) (i := jumpI (L + 2 + L2)) (base := w5.heap.size) (o := .cells #[.int .i64 3, .int .u64 0, .int .u64 0, .int .u64 0, .int .u64 0, .int .i64 ((L : Int) + 2 + L2), .int .i64 0] 109) rfl rfl hle8)))
           clear HOW HBW HN7 HM7
           go_upto_region 11 with ((
             at_builtin
             refine wpList_append_R (R := InsR) (e := 109) (base := w5.heap.size) (B := 0) (xs := [splitI 1 (L + 2)] ++ movedL out 1) (ys := [jumpI (L + 2 + L2)]) rfl (.tmp 74) (.tmp 82) 84 rfl (bytes := 56) Tryz.underlying84 hi0 hz0 hz1 hz2 rfl (show 0 < 7 by omega) single_in rfl HJ8.out.1 rfl HJ8.out.2 rfl (Nat.zero_le _) (by rw [List.length_append, moved_length, HL.out]; simp only [List.length_cons, List.length_nil]; omega) (by omega) ((by rw [World.size_alloc]; omega)) ?_
             intro v wn_ hown hb
             obtain ⟨An, cn, rfl⟩ := hown.formQ (show _ = L + 2 by rw [List.length_append, List.length_append, moved_length, HL.out]; simp; omega)
             have HOW := Lib.hid hown
             have HBW := Lib.hid hb
             clear hown hb))
           have HB9 := Lib.hid ((HB8.out.alloc hle8 (.cells #[.int .i64 3, .int .u64 0, .int .u64 0, .int .u64 0, .int .u64 0, .int .i64 ((L : Int) + 2 + L2), .int .i64 0] 109)).trans HBW.out)
           have HO9 := Lib.hid HOW.out
           generalize wn_ = w9 at *
           generalize An = A9 at *
           generalize cn = c9 at *
           have hle9 := HB9.out.size
           clear HOW HBW HJ8 HO8
           go_wp2_with fail
           refine (movedq_n (B := w5.heap.size) (c := c2) (k0 := (L : Int) + 2) HL2.out ((HQ5.out.rowsQ (by rw [HL2.out]; omega)).keep HB9.out (Nat.le_refl _)) hle9 (by omega)).mono ?_
           rintro e w10 ⟨⟨A4, c4, rfl, ho⟩, hb⟩
           have HO10 := Lib.hid (HO9.out.later hb (Nat.zero_le _))
           have HB10 := Lib.hid (bthen HB9.out hb)
           have HM10 := Lib.hid ho.srcQ
           have hle10 := HB10.out.size
           clear ho hb HO9
           go_wp2_with ((
             at_builtin
             refine wpList_append_R (R := InsR) (e := 109) (base := w5.heap.size) (B := 0) (xs := [splitI 1 (L + 2)] ++ movedL out 1 ++ [jumpI (L + 2 + L2)]) (ys := movedL l2 (L + 2)) rfl (.tmp 84) (.tmp 89) 84 rfl (bytes := 56) Tryz.underlying84 hi0 hz0 hz1 hz2 rfl (show 0 < 7 by omega) single_in rfl HO10.out rfl HM10.out ((moved_length l2 _).trans HL2.out).symm (Nat.zero_le _) (by simp only [List.length_append, moved_length, List.length_cons, List.length_nil, HL.out, HL2.out]; omega) (by omega) (hle10) ?_
             intro v wn_ hown hb
             obtain ⟨An, cn, rfl⟩ := hown.formQ (show _ = L + 2 + L2 by simp only [List.length_append, moved_length, List.length_cons, List.length_nil, HL.out, HL2.out]; omega)
             have HOW := Lib.hid hown
             have HBW := Lib.hid hb
             clear hown hb))
           go_ret
           rw [HX0.out, HEI.out]
           exact (HS5.out.to ((HB10.out.trans HBW.out).mono hle5) (HOW.out.lowQ hle5)).pe
         · rw [if_neg (by rw [hi]; simp)] at HX0
           rw [hi]
           clear hi
           go_wp2_with fail
           go_ret
           rw [HX0.out]
           exact HS3.out.pe
end Go.Proofs.YtiplipdigabidaaGreat
