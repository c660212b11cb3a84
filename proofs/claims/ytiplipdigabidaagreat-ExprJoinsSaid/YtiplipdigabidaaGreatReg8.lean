/- regex.row; the whole parser; Compile. -/
import Derived.Test.YtiplipdigabidaaGreatReg6
import Derived.Test.YtiplipdigabidaaGreatMat1
import Derived.Deep.Cut
import Derived.Deep.CutRange
import Derived.Deep.LoopGhost
import Derived.RegionTactic
set_option linter.unusedVariables false
set_option linter.unusedSimpArgs false
namespace Go.Proofs.YtiplipdigabidaaGreat
open Go.ChangeShapes Go.WideShapes Go.ChangeAt Go.RowKit
theorem moved_n {B c L : Nat} {l : List Ins} {A : Option Addr} {k0 : Int} {w : World} (hL : l.length = L) (hl : RL InsR w B l A) (hB : B ≤ w.heap.size) (hn : L ≤ 1000000) :
   Calls Tryz.prog 172 #[.slice A L c, .int .i64 k0] w fun e w' => (∃ A c, e = .returned (.slice A L c) ∧ OwnR InsR 166 w' w.heap.size 0 (.slice A L c) (movedL l k0)) ∧ Below w.heap.size w w' := by
 subst hL
 refine (moved_any (c := c) (k0 := k0) hl hB hn).mono ?_
 rintro e w' ⟨⟨A, c, rfl, ho⟩, hb⟩
 rw [moved_length] at ho ⊢
 exact ⟨⟨A, c, rfl, ho⟩, hb⟩
theorem piece_of {s : ByteArray} {n : Nat} {p q : PS} {l : List Ins} (h : atomF n s p = (l, q)) : pieceF (n + 1) s p =
   if isP s q 42 then ([splitI 1 (l.length + 2)] ++ movedL l 1 ++ [jumpI 0], q.step)
   else if isP s q 43 then (l ++ [splitI 0 (l.length + 1)], q.step)
   else if isP s q 63 then ([splitI 1 (l.length + 1)] ++ movedL l 1, q.step)
   else (l, q) := by
 unfold pieceF pieceR
 unfold atomF at h
 rw [h]
structure PSt (P : Nat) (s : ByteArray) (w0 w : World) (p : PS) (l : List Ins) (v : Value) : Prop where
 pb : Blk w P (psA s p)
 ex : Exc P w0 w
 own : OwnR InsR 166 w w0.heap.size 0 v l
 hP : P < w0.heap.size
theorem PSt.later {P : Nat} {s : ByteArray} {w0 w w' : World} {p : PS} {l : List Ins} {v : Value} (h : PSt P s w0 w p l v) (hb : Below w.heap.size w w') : PSt P s w0 w' p l v :=
 ⟨h.pb.later hb, h.ex.then (Nat.le_of_lt h.hP) hb, h.own.later hb (Nat.zero_le _), h.hP⟩
theorem PSt.step {P : Nat} {s : ByteArray} {w0 w : World} {p : PS} {l : List Ins} {v : Value} (h : PSt P s w0 w p l v) : PSt P s w0 (w.setCell ⟨P, 1, none⟩ (.int .i64 ((p.at_ : Int) + 1))) p.step l v :=
 ⟨stepped h.pb, h.ex.set 1 _, h.own.far h.hP (Nat.zero_le _) _, h.hP⟩
theorem PSt.to {P : Nat} {s : ByteArray} {w0 w w' : World} {p : PS} {l l' : List Ins} {v v' : Value} (h : PSt P s w0 w p l v) (hb : Below w0.heap.size w w') (ho : OwnR InsR 166 w' w0.heap.size 0 v' l') : PSt P s w0 w' p l' v' :=
 ⟨h.pb.keep hb h.hP, h.ex.own hb (Nat.le_refl _) h.hP, ho, h.hP⟩
theorem PSt.cells {P : Nat} {s : ByteArray} {w0 w : World} {p : PS} {l : List Ins} {v : Value} (h : PSt P s w0 w p l v) : ∀ o, w.cell? ⟨P, o, none⟩ = (#[.string s, .int .i64 p.at_, .int .i64 p.deep, .int .i64 p.e] : Array Value)[o]? := h.pb.cell
theorem PSt.pe {P : Nat} {s : ByteArray} {w0 w : World} {p : PS} {l : List Ins} {A : Option Addr} {n c : Nat} (h : PSt P s w0 w p l (.slice A n c)) : PE P s w0 w (l, p) (.returned (.slice A n c)) := by
 obtain ⟨A', c', e⟩ := h.own.form
 simp only [Value.slice.injEq] at e
 obtain ⟨rfl, rfl, rfl⟩ := e
 exact ⟨⟨_, _, rfl, h.own⟩, h.ex, h.pb⟩
set_option maxRecDepth 100000 in
set_option maxHeartbeats 2000000 in
theorem piece_step {s : ByteArray} (hs : s.size ≤ 1000) (n m : Nat) (hn : 1 ≤ n) (hat : PCall 173 (atomF n) s (fun p => remP s p ≤ m ∧ remP s p ≠ 0)) :
   PCall 171 (pieceF (n + 1)) s (fun p => remP s p ≤ m ∧ remP s p ≠ 0) := by
 obtain ⟨i0, hi0, hz0, hz1, hz2⟩ := info_parts infoIn
 intro w P p hb hok hm
 have hlt := hb.lt
 have HB := Lib.hid hb
 have HAT := Lib.hid hat
 have HOK := Lib.hid hok
 have HM := Lib.hid hm
 clear hb hok hat hm
 go_enter Tryz.func171, Tryz.ntmps171
 go_wp2_with fail
 refine (HAT.out w P p HB.out HOK.out HM.out).mono ?_
 rintro e w1 ⟨⟨A, c, rfl, ho⟩, he, hb⟩
 have hmd : Made s 1 p (atomF n s p) := atom_made s n p HM.out.2 hn
 have hl : (atomF n s p).1.length ≤ 2000 := made_len hmd hs
 have hok2 := HOK.out.less hmd.less
 have HX : ∀ l q, atomF n s p = (l, q) → _ := fun l q h => piece_of h
 generalize atomF n s p = r at *
 obtain ⟨l, q⟩ := r
 have HXc := Lib.hid (HX l q rfl)
 simp only at ho hb hl hok2
 have hq := hok2.at_
 have HS1 := Lib.hid (PSt.mk hb he ho hlt)
 clear ho he hb HX hmd hok2 HB
 generalize hLL : l.length = L at *
 have HLL := Lib.hid hLL
 clear hLL
 go_wp2_with fail
 refine (is_any (s := s) (p := q) (c := 42) HS1.out.pb (by omega) (by omega)).mono ?_
 rintro e w2 ⟨rfl, hb⟩
 have HS2 := Lib.hid (HS1.out.later hb)
 clear hb HS1
 have hcases : isP s q 42 = true ∨ isP s q 42 = false ∧ isP s q 43 = true ∨ isP s q 42 = false ∧ isP s q 43 = false ∧ isP s q 63 = true ∨ isP s q 42 = false ∧ isP s q 43 = false ∧ isP s q 63 = false := by
   cases isP s q 42 <;> cases isP s q 43 <;> cases isP s q 63 <;> simp
 rcases hcases with h1 | ⟨h1, h2⟩ | ⟨h1, h2, h3⟩ | ⟨h1, h2, h3⟩
 · have HX2 : Hid (pieceF (n + 1) s p = ([splitI 1 (L + 2)] ++ movedL l 1 ++ [jumpI 0], q.step)) := Lib.hid (by rw [HXc.out, h1]; rfl)
   obtain ⟨hq1, _⟩ := is_lt h1
   rw [h1]
   clear HXc h1
   go_wp2_with fail
   generalize hW : World.alloc _ _ = w3
   obtain ⟨hb, hz⟩ := al1 hW
   have HN3 := Lib.hid (ins_new (i := splitI 1 (L + 2)) (base := w.heap.size) hW rfl HS2.out.ex.1.size)
   have HS3 := Lib.hid (HS2.out.later hb)
   clear hW hz hb HS2
   refine (moved_n (B := w3.heap.size) (c := c) (k0 := 1) HLL.out (HS3.out.own.rows (by rw [HLL.out]; omega)) (Nat.le_refl _) (by omega)).mono ?_
   rintro e w4 ⟨⟨A3, c3, rfl, ho⟩, hb⟩
   have HN4 := Lib.hid (HN3.out.later hb (Nat.zero_le _))
   have HS4 := Lib.hid (HS3.out.later hb)
   have HM4 := Lib.hid ho.srcn
   have hle4 := HS4.out.ex.1.size
   clear ho hb HN3 HS3
   go_upto_region 6 with ((
     at_builtin
     refine wpList_append_R (R := InsR) (e := 166) (base := w.heap.size) (B := 0) (xs := [splitI 1 (L + 2)]) (ys := movedL l 1) rfl (.tmp 16) (.tmp 18) 139 rfl (bytes := 56) Tryz.underlying139 hi0 hz0 hz1 hz2 rfl (show 0 < 7 by omega) single_in rfl HN4.out rfl HM4.out ((moved_length l 1).trans HLL.out).symm (Nat.zero_le _) (by rw [moved_length, HLL.out]; simp only [List.length_cons, List.length_nil]; omega) (by omega) (hle4) ?_
     intro v w5 hown hb
     obtain ⟨A4, c4, rfl⟩ := hown.form' (show _ = L + 1 by rw [List.length_append, moved_length, HLL.out]; simp; omega)
     have HOW := Lib.hid hown
     have HBW := Lib.hid hb
     clear hown hb))
   have HS5 := Lib.hid (HS4.out.to HBW.out HOW.out)
   have HJ5 := Lib.hid (And.intro (HS5.out.own.later (below_new (w := w5) (o := .cells #[.int .i64 3, .int .u64 0, .int .u64 0, .int .u64 0, .int .u64 0, .int .i64 0, .int .i64 0] 166) rfl) (Nat.zero_le _)) (OwnR.src (xs := [jumpI 0]) (ins_new (w := w5) (i := jumpI 0) (base := w.heap.size) (o := .cells #[.int .i64 3, .int .u64 0, .int .u64 0, .int .u64 0, .int .u64 0, .int .i64 0, .int .i64 0] 166) rfl rfl HS5.out.ex.1.size)))
   clear HOW HBW HS4 HN4 HM4
   go_wp2_with ((
     at_builtin
     refine wpList_append_R (R := InsR) (e := 166) (base := w.heap.size) (B := 0) (xs := [splitI 1 (L + 2)] ++ movedL l 1) (ys := [jumpI 0]) rfl (.tmp 20) (.tmp 22) 139 rfl (bytes := 56) Tryz.underlying139 hi0 hz0 hz1 hz2 rfl (show 0 < 7 by omega) single_in rfl HJ5.out.1 rfl HJ5.out.2 rfl (Nat.zero_le _) (by rw [List.length_append, moved_length, HLL.out]; simp only [List.length_cons, List.length_nil]; omega) (by omega) ((by rw [World.size_alloc]; have := HS5.out.ex.1.size; omega)) ?_
     intro v w6 hown hb
     obtain ⟨A5, c5, rfl⟩ := hown.form' (show _ = L + 2 by rw [List.length_append, List.length_append, moved_length, HLL.out]; simp; omega)
     have HOW := Lib.hid hown
     have HBW := Lib.hid hb
     clear hown hb
     have HS6 := Lib.hid ((HS5.out.later (below_new (w := w5) (o := .cells #[.int .i64 3, .int .u64 0, .int .u64 0, .int .u64 0, .int .u64 0, .int .i64 0, .int .i64 0] 166) rfl)).to HBW.out HOW.out)
     have k_p := HS6.out.cells
     have f_p := HS6.out.pb.free))
   go_ret
   rw [HX2.out]
   exact HS6.out.step.pe
 · have HX2 : Hid (pieceF (n + 1) s p = (l ++ [splitI 0 (L + 1)], q.step)) := Lib.hid (by rw [HXc.out, h1, h2]; rfl)
   obtain ⟨hq1, _⟩ := is_lt h2
   rw [h1]
   clear HXc h1
   go_wp2_with fail
   refine (is_any (s := s) (p := q) (c := 43) HS2.out.pb (by omega) (by omega)).mono ?_
   rintro e w3 ⟨rfl, hb⟩
   have HS3 := Lib.hid (HS2.out.later hb)
   clear hb HS2
   rw [h2]
   clear h2
   have HJ3 := Lib.hid (And.intro (HS3.out.own.later (below_new (w := w3) (o := .cells #[.int .i64 2, .int .u64 0, .int .u64 0, .int .u64 0, .int .u64 0, .int .i64 0, .int .i64 ((L : Int) + 1)] 166) rfl) (Nat.zero_le _)) (OwnR.src (xs := [splitI 0 (L + 1)]) (ins_new (w := w3) (i := splitI 0 (L + 1)) (base := w.heap.size) (o := .cells #[.int .i64 2, .int .u64 0, .int .u64 0, .int .u64 0, .int .u64 0, .int .i64 0, .int .i64 ((L : Int) + 1)] 166) rfl rfl HS3.out.ex.1.size)))
   go_wp2_with ((
     at_builtin
     refine wpList_append_R (R := InsR) (e := 166) (base := w.heap.size) (B := 0) (xs := l) (ys := [splitI 0 (L + 1)]) rfl (.tmp 27) (.tmp 31) 139 rfl (bytes := 56) Tryz.underlying139 hi0 hz0 hz1 hz2 rfl (show 0 < 7 by omega) single_in rfl HJ3.out.1 rfl HJ3.out.2 rfl (Nat.zero_le _) (by rw [HLL.out]; simp only [List.length_cons, List.length_nil]; omega) (by omega) ((by rw [World.size_alloc]; have := HS3.out.ex.1.size; omega)) ?_
     intro v w6 hown hb
     obtain ⟨A5, c5, rfl⟩ := hown.form' (show _ = L + 1 by rw [List.length_append, HLL.out]; rfl)
     have HOW := Lib.hid hown
     have HBW := Lib.hid hb
     clear hown hb
     have HS6 := Lib.hid ((HS3.out.later (below_new (w := w3) (o := .cells #[.int .i64 2, .int .u64 0, .int .u64 0, .int .u64 0, .int .u64 0, .int .i64 0, .int .i64 ((L : Int) + 1)] 166) rfl)).to HBW.out HOW.out)
     have k_p := HS6.out.cells
     have f_p := HS6.out.pb.free))
   go_ret
   rw [HX2.out]
   exact HS6.out.step.pe
 · have HX2 : Hid (pieceF (n + 1) s p = ([splitI 1 (L + 1)] ++ movedL l 1, q.step)) := Lib.hid (by rw [HXc.out, h1, h2, h3]; rfl)
   obtain ⟨hq1, _⟩ := is_lt h3
   rw [h1]
   clear HXc h1
   go_wp2_with fail
   refine (is_any (s := s) (p := q) (c := 43) HS2.out.pb (by omega) (by omega)).mono ?_
   rintro e w3 ⟨rfl, hb⟩
   have HS3 := Lib.hid (HS2.out.later hb)
   clear hb HS2
   rw [h2]
   clear h2
   go_wp2_with fail
   refine (is_any (s := s) (p := q) (c := 63) HS3.out.pb (by omega) (by omega)).mono ?_
   rintro e w4 ⟨rfl, hb⟩
   have HS4 := Lib.hid (HS3.out.later hb)
   clear hb HS3
   rw [h3]
   clear h3
   go_wp2_with fail
   generalize hW : World.alloc _ _ = w5
   obtain ⟨hb, hz⟩ := al1 hW
   have HN5 := Lib.hid (ins_new (i := splitI 1 (L + 1)) (base := w.heap.size) hW rfl HS4.out.ex.1.size)
   have HS5 := Lib.hid (HS4.out.later hb)
   clear hW hz hb HS4
   refine (moved_n (B := w5.heap.size) (c := c) (k0 := 1) HLL.out (HS5.out.own.rows (by rw [HLL.out]; omega)) (Nat.le_refl _) (by omega)).mono ?_
   rintro e w6 ⟨⟨A3, c3, rfl, ho⟩, hb⟩
   have HN6 := Lib.hid (HN5.out.later hb (Nat.zero_le _))
   have HS6 := Lib.hid (HS5.out.later hb)
   have HM6 := Lib.hid ho.srcn
   have hle6 := HS6.out.ex.1.size
   clear ho hb HN5 HS5
   go_wp2_with ((
     at_builtin
     refine wpList_append_R (R := InsR) (e := 166) (base := w.heap.size) (B := 0) (xs := [splitI 1 (L + 1)]) (ys := movedL l 1) rfl (.tmp 39) (.tmp 41) 139 rfl (bytes := 56) Tryz.underlying139 hi0 hz0 hz1 hz2 rfl (show 0 < 7 by omega) single_in rfl HN6.out rfl HM6.out ((moved_length l 1).trans HLL.out).symm (Nat.zero_le _) (by rw [moved_length, HLL.out]; simp only [List.length_cons, List.length_nil]; omega) (by omega) (hle6) ?_
     intro v w7 hown hb
     obtain ⟨A4, c4, rfl⟩ := hown.form' (show _ = L + 1 by rw [List.length_append, moved_length, HLL.out]; simp; omega)
     have HOW := Lib.hid hown
     have HBW := Lib.hid hb
     clear hown hb
     have HS7 := Lib.hid (HS6.out.to HBW.out HOW.out)
     have k_p := HS7.out.cells
     have f_p := HS7.out.pb.free))
   go_ret
   rw [HX2.out]
   exact HS7.out.step.pe
 · have HX2 : Hid (pieceF (n + 1) s p = (l, q)) := Lib.hid (by rw [HXc.out, h1, h2, h3]; rfl)
   rw [h1]
   clear HXc h1
   go_wp2_with fail
   refine (is_any (s := s) (p := q) (c := 43) HS2.out.pb (by omega) (by omega)).mono ?_
   rintro e w3 ⟨rfl, hb⟩
   have HS3 := Lib.hid (HS2.out.later hb)
   clear hb HS2
   rw [h2]
   clear h2
   go_wp2_with fail
   refine (is_any (s := s) (p := q) (c := 63) HS3.out.pb (by omega) (by omega)).mono ?_
   rintro e w4 ⟨rfl, hb⟩
   have HS4 := Lib.hid (HS3.out.later hb)
   clear hb HS3
   rw [h3]
   clear h3
   go_wp2_with fail
   go_ret
   rw [HX2.out]
   exact HS4.out.pe
open Go.ChangeShapes Go.WideShapes Go.ChangeAt Go.RowKit
theorem rowR_stop {s : ByteArray} {n : Nat} {p : PS} {out : List Ins} (h : (!endsP s p && (!isP s p 124 && !isP s p 41)) = false) : rowR s n p out = (out, p) := by
 cases n with
 | zero => rfl
 | succ n => unfold rowR; rw [h]; rfl
theorem rowR_go {s : ByteArray} {n : Nat} {p : PS} {out : List Ins} (h : (!endsP s p && (!isP s p 124 && !isP s p 41)) = true) : rowR s (n + 1) p out = rowR s n (pieceF n s p).2 (out ++ movedL (pieceF n s p).1 out.length) := by
 show (if (!endsP s p && (!isP s p 124 && !isP s p 41)) = true then _ else _) = _
 rw [h]
 rfl
set_option maxRecDepth 100000 in
set_option maxHeartbeats 2000000 in
theorem row_step {s : ByteArray} (hs : s.size ≤ 1000) (n m : Nat) (hn : 4 * m + 1 ≤ n) (hpc : ∀ r, r ≤ m → ∀ g, 4 * r ≤ g → 1 ≤ r → PCall 171 (pieceF g) s (fun p => remP s p ≤ r ∧ remP s p ≠ 0)) :
   PCall 167 (rowF n) s (fun p => remP s p ≤ m) := by
 obtain ⟨i0, hi0, hz0, hz1, hz2⟩ := info_parts infoIn
 intro w P p hb hok hm
 have hlt := hb.lt
 have HB := Lib.hid hb
 have HPC := Lib.hid hpc
 have HOK := Lib.hid hok
 have hrs := rem_le s p
 clear hb hok hpc
 go_enter Tryz.func167, Tryz.ntmps167
 go_wp2_with fail
 go_loopg [3] n (fun g v3 wr => ∃ (p1 : PS) (out : List Ins) (A : Option Addr) (L c : Nat), v3 = .slice A L c ∧ Hid (out.length = L) ∧ Hid (rowR s g p1 out = rowF n s p) ∧ 4 * remP s p1 + 1 ≤ g ∧ remP s p1 ≤ m ∧ Hid (OkP s p1) ∧ L + 2 * remP s p1 ≤ 2000 ∧ Hid (PSt P s w wr p1 out (.slice A L c)))
 case atStart => exact ⟨p, [], none, 0, 0, rfl, Lib.hid rfl, Lib.hid rfl, by omega, hm, HOK, by omega, Lib.hid ⟨HB.out, Exc.refl _ _, OwnR.nil _ _ _ _ _, hlt⟩⟩
 case round =>
   obtain ⟨p1, out, A, L, c, rfl, HL, HE, hg, hr1, HOK1, hlen, HS⟩ := hrel
   have hat1 := HOK1.out.at_
   rcases Bool.eq_false_or_eq_true (!endsP s p1 && (!isP s p1 124 && !isP s p1 41)) with hc | hc
   · obtain ⟨g, rfl⟩ : ∃ g, gk = g + 1 := ⟨gk - 1, by omega⟩
     have HE2 : Hid (rowR s g (pieceF g s p1).2 (out ++ movedL (pieceF g s p1).1 L) = rowF n s p) := Lib.hid (by rw [← HE.out, rowR_go hc, HL.out])
     have hc2 : endsP s p1 = false ∧ isP s p1 124 = false ∧ isP s p1 41 = false := by
       revert hc
       cases endsP s p1 <;> cases isP s p1 124 <;> cases isP s p1 41 <;> simp
     obtain ⟨h1, h2, h3⟩ := hc2
     have hne : remP s p1 ≠ 0 := by
       rw [ends_rem] at h1
       simpa using h1
     clear hc HE
     go_wp2_with fail
     refine (ends_any (s := s) (p := p1) HS.out.pb (by omega) (by omega)).mono ?_
     rintro e w3 ⟨rfl, hb⟩
     have HS3 := Lib.hid (HS.out.later hb)
     clear hb
     rw [h1]
     clear h1
     go_wp2_with fail
     refine (is_any (s := s) (p := p1) (c := 124) HS3.out.pb (by omega) (by omega)).mono ?_
     rintro e w4 ⟨rfl, hb⟩
     have HS4 := Lib.hid (HS3.out.later hb)
     clear hb HS3
     rw [h2]
     clear h2
     go_wp2_with fail
     refine (is_any (s := s) (p := p1) (c := 41) HS4.out.pb (by omega) (by omega)).mono ?_
     rintro e w5 ⟨rfl, hb⟩
     have HS5 := Lib.hid (HS4.out.later hb)
     clear hb HS4
     rw [h3]
     clear h3
     go_wp2_with fail
     refine (HPC.out (remP s p1) hr1 g (by omega) (by omega) w5 P p1 HS5.out.pb HOK1.out ⟨Nat.le_refl _, hne⟩).mono ?_
     rintro e w6 ⟨⟨A2, c2, rfl, ho⟩, he, hb⟩
     have hmd : Made s 1 p1 (pieceF g s p1) := piece_made s g p1 hne (by omega)
     have hok2 := HOK1.out.less hmd.less
     have hrem2 := hmd.one hne
     have hlen2 := hmd.len
     have hl2 := made_len hmd hs
     generalize pieceF g s p1 = r at *
     obtain ⟨l, q⟩ := r
     simp only at ho hb hok2 hrem2 hlen2 hl2 HE2
     have HS6 := Lib.hid (PSt.mk (l := out) hb (HS5.out.ex.trans he) (own_exc HS5.out.own he hlt) hlt)
     have HO6 := Lib.hid (ho.rows (by omega))
     have HOK6 := Lib.hid hok2
     generalize hL2 : l.length = L2 at *
     have HL2 := Lib.hid hL2
     clear ho he hb hmd hok2 hL2 HS5
     go_wp2_with fail
     refine (moved_n (B := w6.heap.size) (c := c2) (k0 := L) HL2.out HO6.out (Nat.le_refl _) (by omega)).mono ?_
     rintro e w7 ⟨⟨A3, c3, rfl, ho⟩, hb⟩
     have HS7 := Lib.hid (HS6.out.later hb)
     have HM7 := Lib.hid ho.srcn
     have hle7 := HS7.out.ex.1.size
     clear ho hb HS6
     go_wp2_with ((
       at_builtin
       refine wpList_append_R (R := InsR) (e := 166) (base := w.heap.size) (B := 0) (xs := out) (ys := movedL l L) rfl (.tmp 20) (.tmp 25) 139 rfl (bytes := 56) Tryz.underlying139 hi0 hz0 hz1 hz2 rfl (show 0 < 7 by omega) single_in rfl HS7.out.own rfl HM7.out ((moved_length l L).trans HL2.out).symm (Nat.zero_le _) (by rw [moved_length, HL2.out, HL.out]; omega) (by omega) (hle7) ?_
       intro v w8 hown hb
       obtain ⟨A4, c4, rfl⟩ := hown.form' (show _ = L + L2 by rw [List.length_append, moved_length, HL2.out, HL.out])
       have HOW := Lib.hid hown
       have HBW := Lib.hid hb
       clear hown hb))
     go_roundg g
     case rel => exact ⟨q, out ++ movedL l L, A4, L + L2, c4, rfl, Lib.hid (by rw [List.length_append, moved_length, HL2.out, HL.out]), HE2, by omega, by omega, HOK6, by omega, Lib.hid (HS7.out.to HBW.out HOW.out)⟩
     case measure => omega
   · have HX : Hid (rowF n s p = (out, p1)) := Lib.hid (by rw [← HE.out, rowR_stop hc])
     have hc2 : endsP s p1 = true ∨ endsP s p1 = false ∧ isP s p1 124 = true ∨ endsP s p1 = false ∧ isP s p1 124 = false ∧ isP s p1 41 = true := by
       revert hc
       cases endsP s p1 <;> cases isP s p1 124 <;> cases isP s p1 41 <;> simp
     clear hc HE
     rcases hc2 with h1 | ⟨h1, h2⟩ | ⟨h1, h2, h3⟩
     all_goals
       go_wp2_with fail
       refine (ends_any (s := s) (p := p1) HS.out.pb (by omega) (by omega)).mono ?_
       rintro e w3 ⟨rfl, hb⟩
       have HS3 := Lib.hid (HS.out.later hb)
       clear hb
       rw [h1]
       clear h1
       go_wp2_with fail
     · go_ret
       rw [HX.out]
       exact HS3.out.pe
     · refine (is_any (s := s) (p := p1) (c := 124) HS3.out.pb (by omega) (by omega)).mono ?_
       rintro e w4 ⟨rfl, hb⟩
       have HS4 := Lib.hid (HS3.out.later hb)
       clear hb HS3
       rw [h2]
       clear h2
       go_wp2_with fail
       go_ret
       rw [HX.out]
       exact HS4.out.pe
     · refine (is_any (s := s) (p := p1) (c := 124) HS3.out.pb (by omega) (by omega)).mono ?_
       rintro e w4 ⟨rfl, hb⟩
       have HS4 := Lib.hid (HS3.out.later hb)
       clear hb HS3
       rw [h2]
       clear h2
       go_wp2_with fail
       refine (is_any (s := s) (p := p1) (c := 41) HS4.out.pb (by omega) (by omega)).mono ?_
       rintro e w5 ⟨rfl, hb⟩
       have HS5 := Lib.hid (HS4.out.later hb)
       clear hb HS4
       rw [h3]
       clear h3
       go_wp2_with fail
       go_ret
       rw [HX.out]
       exact HS5.out.pe
theorem PCall.mono {F : FuncId} {f : ByteArray → PS → List Ins × PS} {s : ByteArray} {ok ok' : PS → Prop} (h : PCall F f s ok) (hi : ∀ p, ok' p → ok p) : PCall F f s ok' := fun w P p hb hok hp => h w P p hb hok (hi p hp)
theorem piece_all {s : ByteArray} (hs : s.size ≤ 1000) (r : Nat) (h : ∀ r', r' < r → ∀ n, 4 * r' + 2 ≤ n → PCall 154 (patF n) s (fun p => remP s p ≤ r')) (g : Nat) (hg : 4 * r ≤ g) (hr : 1 ≤ r) : PCall 171 (pieceF g) s (fun p => remP s p ≤ r ∧ remP s p ≠ 0) := by
 obtain ⟨n, rfl⟩ : ∃ n, g = n + 1 + 1 := ⟨g - 2, by omega⟩
 have hp := h (r - 1) (by omega) n (by omega)
 have hg := group_step hs n (r - 1) hp
 have ha := atom_step hs n r (hg.mono fun p hp => by omega)
 exact piece_step hs (n + 1) r (by omega) ha
theorem pattern_all {s : ByteArray} (hs : s.size ≤ 1000) (m : Nat) : ∀ n, 4 * m + 2 ≤ n → PCall 154 (patF n) s (fun p => remP s p ≤ m) := by
 induction m using Nat.strongRecOn with
 | _ m ih =>
   intro n hn
   obtain ⟨k, rfl⟩ : ∃ k, n = k + 1 := ⟨n - 1, by omega⟩
   have hrow := row_step hs k m (by omega) fun r hr g hg h1 => piece_all hs r (fun r' hr' => ih r' (by omega)) g hg h1
   refine pattern_step hs k m hrow ?_
   cases m with
   | zero => exact fun w P p _ _ hp => absurd hp (by omega)
   | succ m => exact (ih m (by omega) k (by omega)).mono fun p hp => by omega
def CompE (w w' : World) (r : List Ins × Int) (e : Ending) : Prop :=
 (∃ A c, e = .returned (.tuple #[.slice A r.1.length c, .int .i64 r.2]) ∧ OwnR InsR 166 w' w.heap.size 0 (.slice A r.1.length c) r.1) ∧ Below w.heap.size w w'
set_option maxRecDepth 100000 in
set_option maxHeartbeats 2000000 in
theorem compile_any {w : World} {s : ByteArray} (hs : s.size ≤ 140737488351232) :
   Calls Tryz.prog 134 #[.string s] w fun e w' => CompE w w' (compR s) e := by
 obtain ⟨i0, hi0, hz0, hz1, hz2⟩ := info_parts infoIn
 by_cases h256 : 256 < s.size
 · have HX : Hid (compR s = ([], 4)) := Lib.hid (by unfold compR; rw [if_pos h256])
   go_enter Tryz.func134, Tryz.ntmps134
   go_wp2_with fail
   go_ret2
   rw [HX.out]
   exact ⟨⟨none, 0, rfl, OwnR.nil _ _ _ _ _⟩, Below.refl _ _⟩
 · have HX : Hid (compR s = if (finP s (patF (fuelOf s.size) s ⟨0, 0, 0⟩).2).e = 0 then ((patF (fuelOf s.size) s ⟨0, 0, 0⟩).1 ++ [doneI], 0) else ([], (finP s (patF (fuelOf s.size) s ⟨0, 0, 0⟩).2).e)) := Lib.hid (by unfold compR patF; rw [if_neg h256])
   have HPA := Lib.hid (pattern_all (s := s) (by omega) s.size (fuelOf s.size) (by unfold fuelOf; omega))
   go_enter Tryz.func134, Tryz.ntmps134
   go_wp2_with fail
   generalize hW : World.alloc _ _ = w1
   obtain ⟨hb, hz⟩ := al1 hW
   have HB1 : Hid (Blk w1 w.heap.size (psA s ⟨0, 0, 0⟩)) := Lib.hid (n11 hW)
   have HBB := Lib.hid hb
   clear hW hz hb
   refine (HPA.out w1 w.heap.size ⟨0, 0, 0⟩ HB1.out ⟨Nat.zero_le _, Nat.zero_le _⟩ (rem_le _ _)).mono ?_
   rintro e w2 ⟨⟨A, c, rfl, ho⟩, he, hb⟩
   have hmd : Made s 0 ⟨0, 0, 0⟩ (patF (fuelOf s.size) s ⟨0, 0, 0⟩) := pat_made s _ _
   have hl := made_len hmd (by omega)
   have hat : (patF (fuelOf s.size) s ⟨0, 0, 0⟩).2.at_ ≤ s.size := hmd.less.at_ (Nat.zero_le _)
   generalize patF (fuelOf s.size) s ⟨0, 0, 0⟩ = r at *
   obtain ⟨l, q⟩ := r
   simp only at ho hb hl hat HX
   have HB2 := Lib.hid hb
   have HE2 : Hid (Below w.heap.size w w2) := Lib.hid (HBB.out.trans he.1)
   have HO2 := Lib.hid (ho.low (b0 := w.heap.size) HBB.out.size)
   generalize hLL : l.length = L at *
   have HLL := Lib.hid hLL
   clear ho he hb hmd hLL HB1 HPA
   go_wp2_with fail
   refine (ends_any (s := s) (p := q) HB2.out (by omega) (by omega)).mono ?_
   rintro e w3 ⟨rfl, hb⟩
   have HB3 := Lib.hid (HB2.out.later hb)
   have HE3 := Lib.hid (bthen HE2.out hb)
   have HO3 := Lib.hid (HO2.out.later hb (Nat.zero_le _))
   clear hb HB2 HE2 HO2
   rcases Bool.eq_false_or_eq_true (endsP s q) with h1 | h1
   · have HF : Hid (finP s q = q) := Lib.hid (by unfold finP; rw [if_pos h1])
     rw [HF.out] at HX
     rw [h1]
     clear h1
     by_cases hye : q.e = 0
     · rw [if_pos hye] at HX
       have hne : ((q.e : Int) != 0) = false := by rw [hye]; rfl
       have k_p : ∀ o, w3.cell? ⟨w.heap.size, o, none⟩ = (#[.string s, .int .i64 q.at_, .int .i64 q.deep, .int .i64 q.e] : Array Value)[o]? := HB3.out.cell
       clear hye
       have HJ3 := Lib.hid (And.intro (HO3.out.later (below_new (w := w3) (o := .cells #[.int .i64 6, .int .u64 0, .int .u64 0, .int .u64 0, .int .u64 0, .int .i64 0, .int .i64 0] 166) rfl) (Nat.zero_le _)) (OwnR.src (xs := [doneI]) (ins_new (w := w3) (i := doneI) (base := w.heap.size) (o := .cells #[.int .i64 6, .int .u64 0, .int .u64 0, .int .u64 0, .int .u64 0, .int .i64 0, .int .i64 0] 166) rfl rfl HE3.out.size)))
       go_wp2_with ((
         at_builtin
         refine wpList_append_R (R := InsR) (e := 166) (base := w.heap.size) (B := 0) (xs := l) (ys := [doneI]) rfl (.tmp 28) (.tmp 30) 139 rfl (bytes := 56) Tryz.underlying139 hi0 hz0 hz1 hz2 rfl (show 0 < 7 by omega) single_in rfl HJ3.out.1 rfl HJ3.out.2 rfl (Nat.zero_le _) (by rw [HLL.out]; simp only [List.length_cons, List.length_nil]; omega) (by omega) ((by rw [World.size_alloc]; have := HE3.out.size; omega)) ?_
         intro v w6 hown hb
         obtain ⟨A5, c5, rfl⟩ := hown.form' (show _ = L + 1 by rw [List.length_append, HLL.out]; rfl)
         have HOW := Lib.hid hown
         have HBW := Lib.hid hb
         clear hown hb))
       go_ret2
       have e9 : (l ++ [doneI]).length = L + 1 := by rw [List.length_append, HLL.out]; rfl
       rw [HX.out]
       refine ⟨⟨A5, c5, ?_, ?_⟩, (HE3.out.alloc HE3.out.size (.cells #[.int .i64 6, .int .u64 0, .int .u64 0, .int .u64 0, .int .u64 0, .int .i64 0, .int .i64 0] 166)).trans HBW.out⟩
       · rw [e9]; rfl
       · rw [e9]; exact HOW.out
     · have HX2 : Hid (compR s = ([], q.e)) := Lib.hid (by rw [HX.out, if_neg hye])
       have hne : ((q.e : Int) != 0) = true := by simpa using hye
       have k_p : ∀ o, w3.cell? ⟨w.heap.size, o, none⟩ = (#[.string s, .int .i64 q.at_, .int .i64 q.deep, .int .i64 q.e] : Array Value)[o]? := HB3.out.cell
       clear hye
       go_wp2_with fail
       go_region
       all_goals
         go_wp2_with fail
         go_ret2
         rw [HX2.out]
         exact ⟨⟨none, 0, rfl, OwnR.nil _ _ _ _ _⟩, HE3.out.drew⟩
   · have HF : Hid (finP s q = failP q 3) := Lib.hid (by unfold finP; rw [h1]; rfl)
     rw [HF.out] at HX
     rw [h1]
     clear h1
     go_wp2_with fail
     refine (fails_any (s := s) (p := q) (n := 3) HB3.out).mono ?_
     rintro e w4 ⟨rfl, he, hb⟩
     have hye : (failP q 3).e ≠ 0 := fail_e (by decide)
     have HX2 : Hid (compR s = ([], (failP q 3).e)) := Lib.hid (by rw [HX.out, if_neg hye])
     have HB4 := Lib.hid hb
     have HE4 : Hid (Below w.heap.size w w4) := Lib.hid (HE3.out.trans he.1)
     generalize failP q 3 = y at *
     clear he hb HF
     have hne : ((y.e : Int) != 0) = true := by simpa using hye
     have k_p : ∀ o, w4.cell? ⟨w.heap.size, o, none⟩ = (#[.string s, .int .i64 y.at_, .int .i64 y.deep, .int .i64 y.e] : Array Value)[o]? := HB4.out.cell
     clear hye
     go_wp2_with fail
     go_region
     all_goals
       go_wp2_with fail
       go_ret2
       rw [HX2.out]
       exact ⟨⟨none, 0, rfl, OwnR.nil _ _ _ _ _⟩, HE4.out.drew⟩
end Go.Proofs.YtiplipdigabidaaGreat
