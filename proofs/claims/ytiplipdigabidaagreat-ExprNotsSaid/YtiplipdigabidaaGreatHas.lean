/- term.Same, term.Has, slices.Clone at terms, op.contains. -/
import Derived.Test.YtiplipdigabidaaGreatSingle
import Derived.Test.YtiplipdigabidaaGreatExc
import Derived.Test.YtiplipdigabidaaGreatShelf
import Derived.Laws.Cover3
set_option linter.unusedVariables false
set_option linter.unusedSimpArgs false
namespace Go.Proofs.YtiplipdigabidaaGreat
open Go.ChangeShapes Go.WideShapes Go.ChangeAt Go.RowKit

theorem eql_slice_nil {P : Program} (t e : TypeId) (a : Addr) (l c : Nat) (h : P.underlying t = some (.slice e)) (w : World) : (binOp .eql t (.slice (some a) l c) (.slice none 0 0)).run P w = .ok (.bool false) w := by
  simp only [binOp]
  simp [run_equal_slice_nil w t e (some a) l c h]

theorem eql_none_nil {P : Program} (t e : TypeId) (l c : Nat) (h : P.underlying t = some (.slice e)) (w : World) : (binOp .eql t (.slice none l c) (.slice none 0 0)).run P w = .ok (.bool true) w := by
  simp only [binOp]
  simp [run_equal_slice_nil w t e none l c h]

def sameB (a b : Tm) : Bool := decide (cmpT 3 a b = 0)
def hasB (s t : Tm) : Bool := decide (s.kind = 7) && s.l.any fun x => sameB x t

set_option maxRecDepth 100000 in
set_option maxHeartbeats 1000000 in
theorem same_any {d d' B : Nat} {a b : Tm} {vs ws : List Value} {w : World} (ha : RTm w B d a vs) (hb : RTm w B d' b ws) (hB : B ≤ w.heap.size) :
    Calls Tryz.prog 133 #[.agg vs.toArray, .agg ws.toArray] w fun e w' => e = .returned (.bool (sameB a b)) ∧ Below w.heap.size w w' := by
  have HA := Lib.hid ha
  have HB_ := Lib.hid hb
  obtain ⟨A, c, rfl, _⟩ := ha.cells
  obtain ⟨A', c', rfl, _⟩ := hb.cells
  clear ha hb
  go_enter Tryz.func133, Tryz.ntmps133
  go_wp2_with fail
  generalize hW : World.alloc _ _ = w1
  obtain ⟨hb, hz⟩ := al2 hW
  have HB1 := Lib.hid hb
  clear hW hz hb
  refine (compare_any d d' a b [_, _, _, _] [_, _, _, _] B w1 (HA.out.below HB1.out hB) (HB_.out.below HB1.out hB) (Nat.le_trans hB HB1.out.size)).mono ?_
  rintro e w2 ⟨rfl, hb⟩
  have HB2 := Lib.hid (bthen HB1.out hb)
  clear hb
  go_wp2_with fail
  go_ret
  exact ⟨rfl, HB2.out⟩

set_option maxRecDepth 100000 in
set_option maxHeartbeats 1000000 in
theorem hasLit_any {d d' B G : Nat} {t : Tm} {ws : List Value} {w : World} (hG : Blk w G ws.toArray) (ht : RTm w B d' t ws) (hB : B ≤ w.heap.size) :
    Tells Tryz.prog (TmR d) aggOf B w 132 #[.pointer (some ⟨G, 0, none⟩)] (fun x => sameB x t) := by
  intro x vs w1 hb hr
  have HR : Hid (RTm w1 B d x vs) := Lib.hid hr
  obtain ⟨A, c, rfl, _⟩ := RTm.cells (show RTm w1 B d x vs from hr)
  have HT := Lib.hid (ht.below hb hB)
  have hG1 := hG.later hb
  have hB1 := Nat.le_trans hB hb.size
  obtain ⟨A', c', rfl, _⟩ := ht.cells
  clear hr ht hb hG
  show Calls Tryz.prog 132 #[.agg #[_, _, _, _], .pointer (some ⟨G, 0, none⟩)] w1 _
  have kG := hG1.cell
  have lG := hG1.lt
  go_enter Tryz.func132, Tryz.ntmps132
  go_wp2_with fail
  generalize hW : World.alloc _ _ = w2
  obtain ⟨hb, hz⟩ := al1 hW
  have HB1 := Lib.hid hb
  clear hW hz hb kG lG
  refine (same_any (d := d) (d' := d') (a := x) (b := t) (vs := [_, _, _, _]) (ws := [_, _, _, _]) (B := B) (HR.out.below HB1.out hB1) (HT.out.below HB1.out hB1) (Nat.le_trans hB1 HB1.out.size)).mono ?_
  rintro e w3 ⟨rfl, hb⟩
  have HB2 := Lib.hid (bthen HB1.out hb)
  clear hb
  go_wp2_with fail
  go_ret
  exact ⟨rfl, HB2.out⟩

set_option maxRecDepth 100000 in
set_option maxHeartbeats 1000000 in
theorem has_any {d d' B : Nat} {s t : Tm} {vs ws : List Value} {w : World} (hs : RTm w B (d + 1) s vs) (ht : RTm w B d' t ws) (hB : B ≤ w.heap.size) :
    Calls Tryz.prog 116 #[.agg vs.toArray, .agg ws.toArray] w fun e w' => e = .returned (.bool (hasB s t)) ∧ Below w.heap.size w w' := by
  obtain ⟨A, c, rfl, q1, q2, q3, q4, q5, hl⟩ := hs
  have HT := Lib.hid ht
  obtain ⟨A', c', rfl, _⟩ := ht.cells
  have HL : Hid (RL (TmR d) w B s.l A) := Lib.hid hl
  clear hl ht
  by_cases h7 : s.kind = 7
  · go_enter Tryz.func116, Tryz.ntmps116
    go_wp2_with fail
    generalize hW : World.alloc _ _ = w1
    obtain ⟨hb, hz⟩ := al2 hW
    have bt := n22 hW
    have HB1 := Lib.hid hb
    clear hW hz hb
    refine (containsFuncTerm_any d 132 _ _ s.l A _ B w1 (ent Tryz.func132 (by kernel_rfl) rfl) (HL.out.keep HB1.out hB) (Nat.le_trans hB HB1.out.size) (by omega) (hasLit_any (d' := d') (ws := [_, _, _, _]) bt (HT.out.below HB1.out hB) (Nat.le_trans hB HB1.out.size))).mono ?_
    rintro e w2 ⟨rfl, hb⟩
    have HB2 := Lib.hid (bthen HB1.out hb)
    clear hb
    go_wp2_with fail
    go_ret
    exact ⟨ret_bool (by simp [hasB, h7]), HB2.out⟩
  · go_enter Tryz.func116, Tryz.ntmps116
    go_wp2_with fail
    go_ret
    exact ⟨ret_bool (by simp [hasB, h7]), ((Below.refl _ _).alloc (Nat.le_refl _) _).alloc (by simp) _⟩

set_option maxRecDepth 100000 in
set_option maxHeartbeats 1000000 in
theorem cloneTm_any {d B c : Nat} {xs : List Tm} {A : Option Addr} {w : World} (hl : RL (TmR d) w B xs A) (hB : B ≤ w.heap.size) (hn : xs.length * 56 ≤ 140737488351232) :
    Calls Tryz.prog 64 #[.slice A xs.length c] w fun e w' => (∃ v, e = .returned v ∧ OwnR (TmR d) 33 w' w.heap.size B v xs) ∧ Below w.heap.size w w' := by
  obtain ⟨i0, hi0, hz0, hz1, hz2⟩ := info_parts infoTm
  have hsrc := Lib.hid (hl.keep ((Below.refl w.heap.size w).alloc (Nat.le_refl _) (.cells #[] 33)) hB).src
  have hown := Lib.hid (OwnR.empty (base := w.heap.size) (TmR d) 33 (w := w.alloc (.cells #[] 33)) (b := w.heap.size) (heap_alloc_new w _) (Nat.le_refl _) B)
  have HA := Lib.hid ((Below.refl w.heap.size w).alloc (Nat.le_refl _) (.cells #[] 33))
  rcases A with _ | a
  · have h0 : xs = [] := by
      rcases xs with _ | ⟨x, xs⟩
      · rfl
      · obtain ⟨_, _, e, _⟩ := hl (by simp)
        cases e
    subst h0
    clear hl
    have he : ∀ wx : World, (binOp BinOp.eql 26 (.slice none 0 c) (.slice none 0 0)).run Tryz.prog wx = .ok (.bool true) wx := fun wx => eql_none_nil 26 33 0 c Tryz.underlying26 wx
    go_enter Tryz.func64, Tryz.ntmps64
    go_wp2_with fail
    go_ret
    exact ⟨⟨_, rfl, OwnR.nil _ _ _ _ _⟩, Below.refl _ _⟩
  · clear hl
    have he : ∀ wx : World, (binOp BinOp.eql 26 (.slice (some a) xs.length c) (.slice none 0 0)).run Tryz.prog wx = .ok (.bool false) wx := fun wx => eql_slice_nil 26 33 a xs.length c Tryz.underlying26 wx
    go_enter Tryz.func64, Tryz.ntmps64
    go_wp2_with ((
       at_builtin
       refine wpList_append_R (R := TmR d) (e := 33) rfl (.tmp 5) (.tmp 6) 26 rfl (bytes := 56) Tryz.underlying26 hi0 hz0 hz1 hz2 rfl (show 0 < 4 by omega) (single_tm d) rfl hown.out rfl hsrc.out rfl hB (by simp only [List.length_nil]; omega) (by omega) HA.out.size ?_
       intro v1 w1 hown1 hb1
       have HO := Lib.hid hown1
       have HB1 := Lib.hid (HA.out.trans hb1)
       clear hown1 hb1))
    go_ret
    exact ⟨⟨_, rfl, HO.out⟩, HB1.out⟩
end Go.Proofs.YtiplipdigabidaaGreat
