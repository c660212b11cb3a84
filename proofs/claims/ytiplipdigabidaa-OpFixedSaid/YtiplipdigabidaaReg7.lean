/- regex.piece, row; the whole parser; Compile. -/
import Derived.Test.YtiplipdigabidaaReg6
import Derived.Test.YtiplipdigabidaaRegSpec
import Derived.Deep.Cut
import Derived.Deep.CutRange
import Derived.Deep.LoopGhost
set_option linter.unusedVariables false
set_option linter.unusedSimpArgs false
namespace Go.Proofs.Ytiplipdigabidaa
open Go.ChangeShapes Go.WideShapes Go.ChangeAt Go.RowKit

theorem moved_n {B c L : Nat} {l : List Ins} {A : Option Addr} {k0 : Int} {w : World} (hL : l.length = L) (hl : RL InsR w B l A) (hB : B ≤ w.heap.size) (hn : L ≤ 1000000) :
    Calls Try.prog 90 #[.slice A L c, .int .i64 k0] w fun e w' => (∃ A c, e = .returned (.slice A L c) ∧ OwnR InsR 95 w' w.heap.size 0 (.slice A L c) (movedL l k0)) ∧ Below w.heap.size w w' := by
  subst hL
  refine (moved_any (c := c) (k0 := k0) hl hB hn).mono ?_
  rintro e w' ⟨⟨A, c, rfl, ho⟩, hb⟩
  rw [moved_length] at ho ⊢
  exact ⟨⟨A, c, rfl, ho⟩, hb⟩
theorem piece_of {s : ByteArray} {n : Nat} {p q : PS} {l : List Ins} (h : atomF n s p = (l, q)) : pieceF (n + 1) s p =
    if isP s q 42 then ([splitI 1 (l.length + 2)] ++ movedL l 1 ++ [jumpI 0], q.step)
    else if isP s q 43 then (l ++ [splitI 0 (l.length + 1)], q.step)
    else if isP s q 63 then ([splitI 1 (l.length + 1)] ++ movedL l 1, q.step)
    else (l, q) := by
  unfold pieceF pieceR
  unfold atomF at h
  rw [h]
theorem is_byte {s : ByteArray} {p : PS} {c d : Nat} (h : isP s p c = true) (hd : d ≠ c) : isP s p d = false := by
  unfold isP at h ⊢
  rw [Bool.and_eq_true, decide_eq_true_eq] at h
  rw [h.1, h.2]
  simp; omega
/-- The parser goes on by a byte; all else stays. -/
structure PSt (P : Nat) (s : ByteArray) (w0 w : World) (p : PS) (l : List Ins) (v : Value) : Prop where
  pb : Blk w P (psA s p)
  ex : Exc P w0 w
  own : OwnR InsR 95 w w0.heap.size 0 v l
  hP : P < w0.heap.size
theorem PSt.later {P : Nat} {s : ByteArray} {w0 w w' : World} {p : PS} {l : List Ins} {v : Value} (h : PSt P s w0 w p l v) (hb : Below w.heap.size w w') : PSt P s w0 w' p l v :=
  ⟨h.pb.later hb, h.ex.then (Nat.le_of_lt h.hP) hb, h.own.later hb (Nat.zero_le _), h.hP⟩
theorem PSt.step {P : Nat} {s : ByteArray} {w0 w : World} {p : PS} {l : List Ins} {v : Value} (h : PSt P s w0 w p l v) : PSt P s w0 (w.setCell ⟨P, 1, none⟩ (.int .i64 ((p.at_ : Int) + 1))) p.step l v :=
  ⟨stepped h.pb, h.ex.set 1 _, h.own.far h.hP (Nat.zero_le _) _, h.hP⟩
/-- Behind an append. -/
theorem PSt.to {P : Nat} {s : ByteArray} {w0 w w' : World} {p : PS} {l l' : List Ins} {v v' : Value} (h : PSt P s w0 w p l v) (hb : Below w0.heap.size w w') (ho : OwnR InsR 95 w' w0.heap.size 0 v' l') : PSt P s w0 w' p l' v' :=
  ⟨h.pb.keep hb h.hP, h.ex.own hb (Nat.le_refl _) h.hP, ho, h.hP⟩
theorem PSt.cells {P : Nat} {s : ByteArray} {w0 w : World} {p : PS} {l : List Ins} {v : Value} (h : PSt P s w0 w p l v) : ∀ o, w.cell? ⟨P, o, none⟩ = (#[.string s, .int .i64 p.at_, .int .i64 p.deep, .int .i64 p.e] : Array Value)[o]? := h.pb.cell
theorem PSt.pe {P : Nat} {s : ByteArray} {w0 w : World} {p : PS} {l : List Ins} {A : Option Addr} {n c : Nat} (h : PSt P s w0 w p l (.slice A n c)) : PE P s w0 w (l, p) (.returned (.slice A n c)) := by
  obtain ⟨A', c', e⟩ := h.own.form
  simp only [Value.slice.injEq] at e
  obtain ⟨rfl, rfl, rfl⟩ := e
  exact ⟨⟨_, _, rfl, h.own⟩, h.ex, h.pb⟩

set_option maxRecDepth 100000 in
set_option maxHeartbeats 2000000 in
theorem piece_step {s : ByteArray} (hs : s.size ≤ 1000) (n m : Nat) (hn : 1 ≤ n) (hat : PCall 91 (atomF n) s (fun p => remP s p ≤ m ∧ remP s p ≠ 0)) :
    PCall 89 (pieceF (n + 1)) s (fun p => remP s p ≤ m ∧ remP s p ≠ 0) := by
  obtain ⟨i0, hi0, hz0, hz1, hz2⟩ := info_parts infoIn
  intro w P p hb hok hm
  have hlt := hb.lt
  have HB := Lib.hid hb
  have HAT := Lib.hid hat
  have HOK := Lib.hid hok
  have HM := Lib.hid hm
  clear hb hok hat hm
  go_enter Try.func89, Try.ntmps89
  go_wp2_with fail
  refine (HAT.out w P p HB.out HOK.out HM.out).mono ?_
  rintro e w1 ⟨⟨A, c, rfl, ho⟩, he, hb⟩
  have hmd : Made s 1 p (atomF n s p) := atom_made s n p HM.out.2 hn
  have hl : (atomF n s p).1.length ≤ 2000 := made_len hmd hs
  have hok2 := HOK.out.less hmd.less
  have HX : ∀ l q, atomF n s p = (l, q) → _ := fun l q h => piece_of h
  generalize atomF n s p = r at *
  obtain ⟨l, q⟩ := r
  have HXc := Lib.hid (HX l q rfl)
  simp only at ho hb hl hok2
  have hq := hok2.at_
  have HS1 := Lib.hid (PSt.mk hb he ho hlt)
  clear ho he hb HX hmd hok2 HB
  generalize hLL : l.length = L at *
  have HLL := Lib.hid hLL
  clear hLL
  go_wp2_with fail
  refine (is_any (s := s) (p := q) (c := 42) HS1.out.pb (by omega) (by omega)).mono ?_
  rintro e w2 ⟨rfl, hb⟩
  have HS2 := Lib.hid (HS1.out.later hb)
  clear hb HS1
  have hcases : isP s q 42 = true ∨ isP s q 42 = false ∧ isP s q 43 = true ∨ isP s q 42 = false ∧ isP s q 43 = false ∧ isP s q 63 = true ∨ isP s q 42 = false ∧ isP s q 43 = false ∧ isP s q 63 = false := by
    cases isP s q 42 <;> cases isP s q 43 <;> cases isP s q 63 <;> simp
  rcases hcases with h1 | ⟨h1, h2⟩ | ⟨h1, h2, h3⟩ | ⟨h1, h2, h3⟩
  · have HX2 : Hid (pieceF (n + 1) s p = ([splitI 1 (L + 2)] ++ movedL l 1 ++ [jumpI 0], q.step)) := Lib.hid (by rw [HXc.out, h1]; rfl)
    obtain ⟨hq1, _⟩ := is_lt h1
    rw [h1]
    clear HXc h1
    go_wp2_with fail
    generalize hW : World.alloc _ _ = w3
    obtain ⟨hb, hz⟩ := al1 hW
    have HN3 := Lib.hid (ins_new (i := splitI 1 (L + 2)) (base := w.heap.size) hW rfl HS2.out.ex.1.size)
    have HS3 := Lib.hid (HS2.out.later hb)
    clear hW hz hb HS2
    refine (moved_n (B := w3.heap.size) (c := c) (k0 := 1) HLL.out (HS3.out.own.rows (by rw [HLL.out]; omega)) (Nat.le_refl _) (by omega)).mono ?_
    rintro e w4 ⟨⟨A3, c3, rfl, ho⟩, hb⟩
    have HN4 := Lib.hid (HN3.out.later hb (Nat.zero_le _))
    have HS4 := Lib.hid (HS3.out.later hb)
    have HM4 := Lib.hid ho.srcn
    have hle4 := HS4.out.ex.1.size
    clear ho hb HN3 HS3
    go_upto_region 6 with ((
      at_builtin
      refine wpList_append_R (R := InsR) (e := 95) (base := w.heap.size) (B := 0) (xs := [splitI 1 (L + 2)]) (ys := movedL l 1) rfl (.tmp 16) (.tmp 18) 65 rfl (bytes := 56) Try.underlying65 hi0 hz0 hz1 hz2 rfl (show 0 < 7 by omega) single_in rfl HN4.out rfl HM4.out ((moved_length l 1).trans HLL.out).symm (Nat.zero_le _) (by rw [moved_length, HLL.out]; simp only [List.length_cons, List.length_nil]; omega) (by omega) (hle4) ?_
      intro v w5 hown hb
      obtain ⟨A4, c4, rfl⟩ := hown.form' (show _ = L + 1 by rw [List.length_append, moved_length, HLL.out]; simp; omega)
      have HOW := Lib.hid hown
      have HBW := Lib.hid hb
      clear hown hb))
    have HS5 := Lib.hid (HS4.out.to HBW.out HOW.out)
    have HJ5 := Lib.hid (And.intro (HS5.out.own.later (below_new (w := w5) (o := .cells #[.int .i64 3, .int .u64 0, .int .u64 0, .int .u64 0, .int .u64 0, .int .i64 0, .int .i64 0] 95) rfl) (Nat.zero_le _)) (OwnR.src (xs := [jumpI 0]) (ins_new (w := w5) (i := jumpI 0) (base := w.heap.size) (o := .cells #[.int .i64 3, .int .u64 0, .int .u64 0, .int .u64 0, .int .u64 0, .int .i64 0, .int .i64 0] 95) rfl rfl HS5.out.ex.1.size)))
    clear HOW HBW HS4 HN4 HM4
    go_wp2_with ((
      at_builtin
      refine wpList_append_R (R := InsR) (e := 95) (base := w.heap.size) (B := 0) (xs := [splitI 1 (L + 2)] ++ movedL l 1) (ys := [jumpI 0]) rfl (.tmp 20) (.tmp 22) 65 rfl (bytes := 56) Try.underlying65 hi0 hz0 hz1 hz2 rfl (show 0 < 7 by omega) single_in rfl HJ5.out.1 rfl HJ5.out.2 rfl (Nat.zero_le _) (by rw [List.length_append, moved_length, HLL.out]; simp only [List.length_cons, List.length_nil]; omega) (by omega) ((by rw [World.size_alloc]; have := HS5.out.ex.1.size; omega)) ?_
      intro v w6 hown hb
      obtain ⟨A5, c5, rfl⟩ := hown.form' (show _ = L + 2 by rw [List.length_append, List.length_append, moved_length, HLL.out]; simp; omega)
      have HOW := Lib.hid hown
      have HBW := Lib.hid hb
      clear hown hb
      have HS6 := Lib.hid ((HS5.out.later (below_new (w := w5) (o := .cells #[.int .i64 3, .int .u64 0, .int .u64 0, .int .u64 0, .int .u64 0, .int .i64 0, .int .i64 0] 95) rfl)).to HBW.out HOW.out)
      have k_p := HS6.out.cells
      have f_p := HS6.out.pb.free))
    go_ret
    rw [HX2.out]
    exact HS6.out.step.pe
  · have HX2 : Hid (pieceF (n + 1) s p = (l ++ [splitI 0 (L + 1)], q.step)) := Lib.hid (by rw [HXc.out, h1, h2]; rfl)
    obtain ⟨hq1, _⟩ := is_lt h2
    rw [h1]
    clear HXc h1
    go_wp2_with fail
    refine (is_any (s := s) (p := q) (c := 43) HS2.out.pb (by omega) (by omega)).mono ?_
    rintro e w3 ⟨rfl, hb⟩
    have HS3 := Lib.hid (HS2.out.later hb)
    clear hb HS2
    rw [h2]
    clear h2
    have HJ3 := Lib.hid (And.intro (HS3.out.own.later (below_new (w := w3) (o := .cells #[.int .i64 2, .int .u64 0, .int .u64 0, .int .u64 0, .int .u64 0, .int .i64 0, .int .i64 ((L : Int) + 1)] 95) rfl) (Nat.zero_le _)) (OwnR.src (xs := [splitI 0 (L + 1)]) (ins_new (w := w3) (i := splitI 0 (L + 1)) (base := w.heap.size) (o := .cells #[.int .i64 2, .int .u64 0, .int .u64 0, .int .u64 0, .int .u64 0, .int .i64 0, .int .i64 ((L : Int) + 1)] 95) rfl rfl HS3.out.ex.1.size)))
    go_wp2_with ((
      at_builtin
      refine wpList_append_R (R := InsR) (e := 95) (base := w.heap.size) (B := 0) (xs := l) (ys := [splitI 0 (L + 1)]) rfl (.tmp 27) (.tmp 31) 65 rfl (bytes := 56) Try.underlying65 hi0 hz0 hz1 hz2 rfl (show 0 < 7 by omega) single_in rfl HJ3.out.1 rfl HJ3.out.2 rfl (Nat.zero_le _) (by rw [HLL.out]; simp only [List.length_cons, List.length_nil]; omega) (by omega) ((by rw [World.size_alloc]; have := HS3.out.ex.1.size; omega)) ?_
      intro v w6 hown hb
      obtain ⟨A5, c5, rfl⟩ := hown.form' (show _ = L + 1 by rw [List.length_append, HLL.out]; rfl)
      have HOW := Lib.hid hown
      have HBW := Lib.hid hb
      clear hown hb
      have HS6 := Lib.hid ((HS3.out.later (below_new (w := w3) (o := .cells #[.int .i64 2, .int .u64 0, .int .u64 0, .int .u64 0, .int .u64 0, .int .i64 0, .int .i64 ((L : Int) + 1)] 95) rfl)).to HBW.out HOW.out)
      have k_p := HS6.out.cells
      have f_p := HS6.out.pb.free))
    go_ret
    rw [HX2.out]
    exact HS6.out.step.pe
  · have HX2 : Hid (pieceF (n + 1) s p = ([splitI 1 (L + 1)] ++ movedL l 1, q.step)) := Lib.hid (by rw [HXc.out, h1, h2, h3]; rfl)
    obtain ⟨hq1, _⟩ := is_lt h3
    rw [h1]
    clear HXc h1
    go_wp2_with fail
    refine (is_any (s := s) (p := q) (c := 43) HS2.out.pb (by omega) (by omega)).mono ?_
    rintro e w3 ⟨rfl, hb⟩
    have HS3 := Lib.hid (HS2.out.later hb)
    clear hb HS2
    rw [h2]
    clear h2
    go_wp2_with fail
    refine (is_any (s := s) (p := q) (c := 63) HS3.out.pb (by omega) (by omega)).mono ?_
    rintro e w4 ⟨rfl, hb⟩
    have HS4 := Lib.hid (HS3.out.later hb)
    clear hb HS3
    rw [h3]
    clear h3
    go_wp2_with fail
    generalize hW : World.alloc _ _ = w5
    obtain ⟨hb, hz⟩ := al1 hW
    have HN5 := Lib.hid (ins_new (i := splitI 1 (L + 1)) (base := w.heap.size) hW rfl HS4.out.ex.1.size)
    have HS5 := Lib.hid (HS4.out.later hb)
    clear hW hz hb HS4
    refine (moved_n (B := w5.heap.size) (c := c) (k0 := 1) HLL.out (HS5.out.own.rows (by rw [HLL.out]; omega)) (Nat.le_refl _) (by omega)).mono ?_
    rintro e w6 ⟨⟨A3, c3, rfl, ho⟩, hb⟩
    have HN6 := Lib.hid (HN5.out.later hb (Nat.zero_le _))
    have HS6 := Lib.hid (HS5.out.later hb)
    have HM6 := Lib.hid ho.srcn
    have hle6 := HS6.out.ex.1.size
    clear ho hb HN5 HS5
    go_wp2_with ((
      at_builtin
      refine wpList_append_R (R := InsR) (e := 95) (base := w.heap.size) (B := 0) (xs := [splitI 1 (L + 1)]) (ys := movedL l 1) rfl (.tmp 39) (.tmp 41) 65 rfl (bytes := 56) Try.underlying65 hi0 hz0 hz1 hz2 rfl (show 0 < 7 by omega) single_in rfl HN6.out rfl HM6.out ((moved_length l 1).trans HLL.out).symm (Nat.zero_le _) (by rw [moved_length, HLL.out]; simp only [List.length_cons, List.length_nil]; omega) (by omega) (hle6) ?_
      intro v w7 hown hb
      obtain ⟨A4, c4, rfl⟩ := hown.form' (show _ = L + 1 by rw [List.length_append, moved_length, HLL.out]; simp; omega)
      have HOW := Lib.hid hown
      have HBW := Lib.hid hb
      clear hown hb
      have HS7 := Lib.hid (HS6.out.to HBW.out HOW.out)
      have k_p := HS7.out.cells
      have f_p := HS7.out.pb.free))
    go_ret
    rw [HX2.out]
    exact HS7.out.step.pe
  · have HX2 : Hid (pieceF (n + 1) s p = (l, q)) := Lib.hid (by rw [HXc.out, h1, h2, h3]; rfl)
    rw [h1]
    clear HXc h1
    go_wp2_with fail
    refine (is_any (s := s) (p := q) (c := 43) HS2.out.pb (by omega) (by omega)).mono ?_
    rintro e w3 ⟨rfl, hb⟩
    have HS3 := Lib.hid (HS2.out.later hb)
    clear hb HS2
    rw [h2]
    clear h2
    go_wp2_with fail
    refine (is_any (s := s) (p := q) (c := 63) HS3.out.pb (by omega) (by omega)).mono ?_
    rintro e w4 ⟨rfl, hb⟩
    have HS4 := Lib.hid (HS3.out.later hb)
    clear hb HS3
    rw [h3]
    clear h3
    go_wp2_with fail
    go_ret
    rw [HX2.out]
    exact HS4.out.pe

end Go.Proofs.Ytiplipdigabidaa
