/- regex.either. -/
import Derived.Test.YtiplipdigabidaaGreatReg2
import Derived.Deep.Cut
import Derived.Deep.CutRange
import Derived.Deep.LoopGhost
set_option linter.unusedVariables false
set_option linter.unusedSimpArgs false
namespace Go.Proofs.YtiplipdigabidaaGreat
open Go.ChangeShapes Go.WideShapes Go.ChangeAt Go.RowKit

theorem OwnR.form' {w : World} {base n : Nat} {v : Value} {xs : List Ins} (h : OwnR InsR 166 w base 0 v xs) (hn : xs.length = n) : ∃ A c, v = .slice A n c := by
  subst hn
  exact h.form
theorem OwnR.rows {w : World} {base n c : Nat} {A : Option Addr} {xs : List Ins} (h : OwnR InsR 166 w base 0 (.slice A n c) xs) (hn : xs.length ≤ 1000000) : RL InsR w w.heap.size xs A := by
  obtain ⟨A3, c3, e3, r1, r2, r3⟩ := h.reads (Nat.zero_le _) (by show xs.length * (8 * 7) ≤ _; omega)
  simp only [Value.slice.injEq] at e3
  obtain ⟨rfl, _, rfl⟩ := e3
  exact r3
theorem OwnR.low {w : World} {base b0 : Nat} {v : Value} {xs : List Ins} (h : OwnR InsR 166 w base 0 v xs) (hb : b0 ≤ base) : OwnR InsR 166 w b0 0 v xs := by
  obtain ⟨cells, h, hf⟩ := h
  refine ⟨cells, ⟨h.1, ?_⟩, hf⟩
  rcases h.2 with h2 | ⟨g, cap, cur, hv, hg, r⟩
  · exact .inl h2
  · exact .inr ⟨g, cap, cur, hv, Nat.le_trans hb hg, r⟩
theorem OwnR.srcn {w : World} {base n c : Nat} {A : Option Addr} {xs : List Ins} (h : OwnR InsR 166 w base 0 (.slice A n c) xs) : SrcR InsR w 0 A xs := by
  obtain ⟨_, _, e⟩ := h.form
  simp only [Value.slice.injEq] at e
  obtain ⟨rfl, rfl, rfl⟩ := e
  exact h.src
theorem ins_new {w W : World} {i : Ins} {base : Nat} {o : Obj} (h : w.alloc o = W) (ho : o = .cells (insC i).toArray 166) (hb : base ≤ w.heap.size) : OwnR InsR 166 W base 0 (.slice (some ⟨w.heap.size, 0, none⟩) 1 1) [i] := by
  subst ho
  have hB : BlkT W w.heap.size (insC i).toArray 166 := h ▸ heap_alloc_new w _
  exact hB.own (R := InsR) (xs := [i]) (Flat.one rfl) hb rfl (by unfold maxLen; omega)
theorem below_new {w W : World} {o : Obj} (h : w.alloc o = W) : Below w.heap.size w W := (al1 h).1

set_option maxRecDepth 100000 in
set_option maxHeartbeats 1000000 in
theorem either_any {B c1 c2 : Nat} {l1 l2 : List Ins} {A1 A2 : Option Addr} {w : World} (h1 : RL InsR w B l1 A1) (h2 : RL InsR w B l2 A2) (hB : B ≤ w.heap.size) (hn1 : l1.length ≤ 100000) (hn2 : l2.length ≤ 100000) :
    Calls Tryz.prog 169 #[.slice A1 l1.length c1, .slice A2 l2.length c2] w fun e w' => ListE w w' (eitherL l1 l2) e := by
  obtain ⟨i0, hi0, hz0, hz1, hz2⟩ := info_parts infoIn
  have H1 := Lib.hid h1
  have H2 := Lib.hid h2
  clear h1 h2
  go_enter Tryz.func169, Tryz.ntmps169
  go_wp2_with fail
  generalize hW : World.alloc _ _ = w1
  obtain ⟨hb, hz⟩ := al1 hW
  have HO := Lib.hid (ins_new (i := splitI 1 (l1.length + 2)) hW rfl (Nat.le_refl _))
  have HB1 := Lib.hid hb
  clear hW hz hb
  refine (moved_any (B := B) (H1.out.keep HB1.out hB) (Nat.le_trans hB HB1.out.size) (by omega)).mono ?_
  rintro e w2 ⟨⟨A3, c3, rfl, ho⟩, hb⟩
  rw [moved_length]
  have HB2 := Lib.hid (bthen HB1.out hb)
  have HO2 := Lib.hid (HO.out.later hb (Nat.zero_le _))
  have HS2 := Lib.hid ho.src
  clear ho hb
  go_upto_region 3 with ((
    at_builtin
    refine wpList_append_R (R := InsR) (e := 166) (base := w.heap.size) (B := 0) (xs := [splitI 1 (l1.length + 2)]) (ys := movedL l1 1) rfl (.tmp 12) (.tmp 14) 139 rfl (bytes := 56) Tryz.underlying139 hi0 hz0 hz1 hz2 rfl (show 0 < 7 by omega) single_in rfl HO2.out rfl HS2.out (moved_length l1 1).symm (Nat.zero_le _) (by rw [moved_length]; simp only [List.length_cons, List.length_nil]; omega) (by omega) (HB2.out.size) ?_
    intro v w3 hown hb
    obtain ⟨A4, c4, rfl⟩ := hown.form' (show _ = l1.length + 1 by simp [moved_length])
    have HOW := Lib.hid hown
    have HBW := Lib.hid hb
    clear hown hb))
  have HB3 := Lib.hid (HB2.out.trans HBW.out)
  have HJ4 := Lib.hid (And.intro (HOW.out.later (below_new (w := w3) (o := .cells #[.int .i64 3, .int .u64 0, .int .u64 0, .int .u64 0, .int .u64 0, .int .i64 ((l1.length : Int) + 2 + l2.length), .int .i64 0] 166) rfl) (Nat.zero_le _)) (OwnR.src (xs := [jumpI (l1.length + 2 + l2.length)]) (ins_new (w := w3) (i := jumpI (l1.length + 2 + l2.length)) (base := w.heap.size) (o := .cells #[.int .i64 3, .int .u64 0, .int .u64 0, .int .u64 0, .int .u64 0, .int .i64 ((l1.length : Int) + 2 + l2.length), .int .i64 0] 166) rfl rfl HB3.out.size)))
  clear HOW HBW
  go_upto_region 4 with ((
    at_builtin
    refine wpList_append_R (R := InsR) (e := 166) (base := w.heap.size) (B := 0) (xs := [splitI 1 (l1.length + 2)] ++ movedL l1 1) (ys := [jumpI (l1.length + 2 + l2.length)]) rfl (.tmp 16) (.tmp 23) 139 rfl (bytes := 56) Tryz.underlying139 hi0 hz0 hz1 hz2 rfl (show 0 < 7 by omega) single_in rfl HJ4.out.1 rfl HJ4.out.2 rfl (Nat.zero_le _) (by rw [List.length_append, moved_length]; simp only [List.length_cons, List.length_nil]; omega) (by omega) ((by rw [World.size_alloc]; have := HB3.out.size; omega)) ?_
    intro v w4 hown hb
    obtain ⟨A5, c5, rfl⟩ := hown.form' (show _ = l1.length + 2 by simp [moved_length])
    have HOW := Lib.hid hown
    have HBW := Lib.hid hb
    clear hown hb))
  have HB4 := Lib.hid ((HB3.out.alloc HB3.out.size (.cells #[.int .i64 3, .int .u64 0, .int .u64 0, .int .u64 0, .int .u64 0, .int .i64 ((l1.length : Int) + 2 + l2.length), .int .i64 0] 166)).trans HBW.out)
  have HO4 := Lib.hid HOW.out
  clear HOW HBW HJ4
  go_wp2_with fail
  refine (moved_any (B := B) (H2.out.keep HB4.out hB) (Nat.le_trans hB HB4.out.size) (by omega)).mono ?_
  rintro e w5 ⟨⟨A6, c6, rfl, ho⟩, hb⟩
  rw [moved_length]
  have HB5 := Lib.hid (bthen HB4.out hb)
  have HO5 := Lib.hid (HO4.out.later hb (Nat.zero_le _))
  have HS5 := Lib.hid ho.srcn
  clear ho hb
  go_wp2_with ((
    at_builtin
    refine wpList_append_R (R := InsR) (e := 166) (base := w.heap.size) (B := 0) (xs := [splitI 1 (l1.length + 2)] ++ movedL l1 1 ++ [jumpI (l1.length + 2 + l2.length)]) (ys := movedL l2 (l1.length + 2)) rfl (.tmp 25) (.tmp 29) 139 rfl (bytes := 56) Tryz.underlying139 hi0 hz0 hz1 hz2 rfl (show 0 < 7 by omega) single_in rfl HO5.out rfl HS5.out (moved_length l2 _).symm (Nat.zero_le _) (by simp only [List.length_append, moved_length, List.length_cons, List.length_nil]; omega) (by omega) (HB5.out.size) ?_
    intro v w6 hown hb
    obtain ⟨A7, c7, rfl⟩ := hown.form' (show _ = (eitherL l1 l2).length from rfl)
    have HOW := Lib.hid hown
    have HBW := Lib.hid hb
    clear hown hb))
  go_ret
  exact ⟨⟨A7, c7, rfl, HOW.out⟩, HB5.out.trans HBW.out⟩

end Go.Proofs.YtiplipdigabidaaGreat
