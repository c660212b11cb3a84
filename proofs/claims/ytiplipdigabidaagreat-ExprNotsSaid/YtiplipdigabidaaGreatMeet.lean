/- op.meet, op.join. -/
import Derived.Test.YtiplipdigabidaaGreatSet2
import Derived.Test.YtiplipdigabidaaGreatSetLaw
import Derived.Test.YtiplipdigabidaaGreatOpenT
set_option linter.unusedVariables false
set_option linter.unusedSimpArgs false
namespace Go.Proofs.YtiplipdigabidaaGreat
open Go.ChangeShapes Go.WideShapes Go.ChangeAt Go.RowKit

structure MeetInv (d B R O S base : Nat) (bc : Array Value) (wr : World) (out : List Tm) (A : Option Addr) (c : Nat) : Prop where
  res : Blk wr R zero4
  side : Blk wr S bc
  set_ : Blk wr O (set4 A out.length c)
  own : OwnR (TmR d) 33 wr base B (.slice A out.length c) out
theorem MeetInv.later {d B R O S base c : Nat} {bc : Array Value} {w w' : World} {out : List Tm} {A : Option Addr} (h : MeetInv d B R O S base bc w out A c) (hb : Below w.heap.size w w') (hB : B ≤ w.heap.size) : MeetInv d B R O S base bc w' out A c :=
  ⟨h.res.later hb, h.side.later hb, h.set_.later hb, h.own.later hb hB⟩
theorem filter_take {p : Tm → Bool} {l : List Tm} {k : Nat} {x : Tm} (h : l[k]? = some x) : (l.take (k + 1)).filter p = (l.take k).filter p ++ (if p x then [x] else []) := by
  obtain ⟨hk, e⟩ := List.getElem?_eq_some_iff.1 h
  rw [List.take_succ_eq_append_getElem hk, List.filter_append, e]
  cases hp : p x <;> simp [List.filter_cons, hp]

set_option maxRecDepth 100000 in
set_option maxHeartbeats 4000000 in
theorem meet_any {d d' B : Nat} {a b : Tm} {vs ws : List Value} {w : World} (ha : RTm w B (d + 1) a vs) (hb : RTm w B (d' + 1) b ws) (hB : B ≤ w.heap.size) (hn : a.l.length ≤ 16) (hlf : ∀ x ∈ a.l, Leaf x) :
    Calls Tryz.prog 91 #[.agg vs.toArray, .agg ws.toArray] w fun e w' => TermE d w w' (meetT a b, 0) e := by
  obtain ⟨i0, hi0, hz0, hz1, hz2⟩ := info_parts infoTm
  have HS := Lib.hid hb
  obtain ⟨As, cs, rfl, _⟩ := hb.cells
  obtain ⟨A, c, rfl, q1, q2, q3, q4, q5, hl⟩ := ha
  have HL : Hid (RL (TmR d) w B a.l A) := Lib.hid hl
  have HN := Lib.hid hn
  clear hl hb hn
  go_enter Tryz.func91, Tryz.ntmps91
  go_wp2_with fail
  generalize hW : World.alloc _ _ = w1
  obtain ⟨hb, hz⟩ := al4 hW
  have b_s := n42 hW
  have b_r := n43 hW
  have b_o := n44 hW
  have HB1 := Lib.hid hb
  have HZ1 := Lib.hid hz
  clear hW hz hb
  have hB1 := Nat.le_trans hB HB1.out.size
  have HINV := Lib.hid (show MeetInv d B (w.heap.size + 2) (w.heap.size + 3) (w.heap.size + 1) w1.heap.size _ w1 [] none 0 from ⟨b_r, b_s, b_o, OwnR.nil _ _ _ _ _⟩)
  clear b_s b_r b_o
  go_loopw [13] (fun i wr => ∃ (k : Nat) (A2 : Option Addr) (c2 : Nat), k ≤ a.l.length ∧ i = .int .i64 k ∧ Hid (Below w.heap.size w wr) ∧ w1.heap.size ≤ wr.heap.size ∧ Hid (MeetInv d B (w.heap.size + 2) (w.heap.size + 3) (w.heap.size + 1) w1.heap.size #[.int .i64 b.kind, .int .i64 b.n, .string b.s, .slice As b.l.length cs] wr ((a.l.take k).filter (hasB b)) A2 c2)) (fun i _ => a.l.length - (intOf i).toNat)
  case atStart => exact ⟨0, none, 0, Nat.zero_le _, rfl, HB1, Nat.le_refl _, HINV⟩
  case round =>
    obtain ⟨k, A2, c2, hk, rfl, HBW, hsz, HI⟩ := hrel
    have hBr := Nat.le_trans hB1 hsz
    have hzw := HZ1.out
    by_cases hlt : k < a.l.length
    · have HLr := Lib.hid (HL.out.keep HBW.out hB)
      obtain ⟨b_, off, rfl, hob⟩ := HLr.out.base (Below.refl _ _) hBr (by omega)
      obtain ⟨x, vs, hx, hlen, hcell, hr⟩ := HLr.out.at_ (Below.refl _ _) hBr hlt
      obtain ⟨Ax, cx, rfl, g1, g2, g3, g4, g5, _⟩ := RTm.cells (show RTm wr B d x vs from hr)
      have c0 : wr.cell? ⟨b_, off + k * 4, none⟩ = some (.int .i64 x.kind) := hcell 0 _ rfl
      have c1 : wr.cell? ⟨b_, off + k * 4 + 1, none⟩ = some (.int .i64 x.n) := hcell 1 _ rfl
      have c2 : wr.cell? ⟨b_, off + k * 4 + 2, none⟩ = some (.string x.s) := hcell 2 _ rfl
      have c3 : wr.cell? ⟨b_, off + k * 4 + 3, none⟩ = some (.slice Ax x.l.length cx) := hcell 3 _ rfl
      have HX := Lib.hid hx
      have HR : Hid (RTm wr B d x _) := Lib.hid hr
      have kt := HI.out.side.cell
      have lt := HI.out.side.lt
      clear hcell hlen hx hr
      go_wp2_with fail
      generalize hW : World.alloc _ _ = W
      obtain ⟨hb1, hz⟩ := al1 hW
      have bx := n11 hW
      have HBa := Lib.hid hb1
      have HIa := Lib.hid (HI.out.later hb1 hBr)
      have kt3 := HIa.out.side.cell
      have hBa := Nat.le_trans hBr hb1.size
      have HRa := Lib.hid (HR.out.below hb1 hBr)
      clear hW hb1 hz c0 c1 c2 c3 kt lt
      go_wp2_with fail
      refine (has_any (d := d') (d' := d) (s := b) (t := x) (B := B) (vs := [_, _, _, _]) (ws := [_, _, _, _]) (HS.out.below (bthen HBW.out HBa.out) hB) (HRa.out) hBa).mono ?_
      rintro e w3 ⟨rfl, hb3⟩
      have HI3 := Lib.hid (HIa.out.later hb3 hBa)
      have bx3 := bx.later hb3
      have HR3 := Lib.hid (HRa.out.below hb3 hBa)
      have HB3 := Lib.hid (bthen HBW.out (bthen HBa.out hb3))
      have hsz3 := Nat.le_trans hsz (Nat.le_trans HBa.out.size hb3.size)
      have hB3 := Nat.le_trans hBa hb3.size
      clear hb3 kt3 bx
      by_cases hm : hasB b x = true
      · have HT : Hid ((a.l.take (k + 1)).filter (hasB b) = (a.l.take k).filter (hasB b) ++ [x]) := Lib.hid (by rw [filter_take HX.out, if_pos hm])
        rw [hm]
        clear hm
        generalize hout : (a.l.take k).filter (hasB b) = out at *
        have HLN : Hid (out.length ≤ 16) := Lib.hid (by rw [← hout]; exact Nat.le_trans (List.length_filter_le _ _) (by rw [List.length_take]; have := HN.out; omega))
        clear hout
        have k_o := HI3.out.set_.cell
        have k_x := bx3.cell
        have l_o := HI3.out.set_.lt
        have l_x := bx3.lt
        have HOW := Lib.hid (And.intro (HI3.out.own.later ((Below.refl _ w3).alloc (Nat.le_refl _) (.cells #[.int .i64 x.kind, .int .i64 x.n, .string x.s, .slice Ax x.l.length cx] 33)) hB3) (Blk.src (R := TmR d) (B := B) (x := x) (Blk.new w3 #[.int .i64 x.kind, .int .i64 x.n, .string x.s, .slice Ax x.l.length cx] 33) ((HR3.out.below ((Below.refl _ w3).alloc (Nat.le_refl _) (.cells #[.int .i64 x.kind, .int .i64 x.n, .string x.s, .slice Ax x.l.length cx] 33)) hB3))))
        go_wp2_with ((
          at_builtin
          refine wpList_append_R (R := TmR d) (e := 33) (base := w1.heap.size) (B := B) (xs := out) (ys := [x]) rfl (.tmp 21) (.tmp 23) 26 rfl (bytes := 56) Tryz.underlying26 hi0 hz0 hz1 hz2 rfl (show 0 < 4 by omega) (single_tm d) rfl HOW.out.1 rfl HOW.out.2 rfl (by omega) (by have := HLN.out; simp only [List.length_cons, List.length_nil]; omega) (by omega) (by rw [World.size_alloc]; omega) ?_
          intro v2 w7 hown2 hb2
          obtain ⟨A3, c3, rfl⟩ := hown2.form
          have hb3 := ((Below.refl w1.heap.size w3).alloc hsz3 (.cells #[.int .i64 x.kind, .int .i64 x.n, .string x.s, .slice Ax x.l.length cx] 33)).trans hb2
          have b_o_7 := HI3.out.set_.keep hb3 (by omega)
          have H7 := Lib.hid (And.intro hown2 hb3)
          have B7 := Lib.hid b_o_7
          have f_7 := b_o_7.free
          have k_7 := b_o_7.cell
          clear hown2 hb2 hb3 b_o_7 k_o k_x l_o l_x bx3))
        go_roundw
        case rel =>
          have hb3 := H7.out.2
          have hle := hb3.size
          have hw1 : w.heap.size + 3 < w1.heap.size := by omega
          refine ⟨k + 1, A3, c3, by omega, by go_num, Lib.hid ((HB3.out.trans (hb3.mono (by omega))).setCell (by show w.heap.size ≤ w.heap.size + 3; omega) _), by simp only [World.size_setCell]; omega, Lib.hid ?_⟩
          rw [HT.out]
          refine ⟨(HI3.out.res.keep hb3 (by omega)).far (by omega) _ _, (HI3.out.side.keep hb3 (by omega)).far (by omega) _ _, ?_, ?_⟩
          · rw [List.length_append]; exact B7.out.set_ 3 _
          · have h9 := H7.out.1.far (c := w.heap.size + 3) (i := 3) hw1 (by omega) (.slice A3 (out ++ [x]).length c3)
            first
              | exact h9
              | (simp only [List.length_append, List.length_cons, List.length_nil, Nat.zero_add] at h9 ⊢; exact h9)
        case measure => simp [intOf]; omega
      · simp only [Bool.not_eq_true] at hm
        have HT : Hid ((a.l.take (k + 1)).filter (hasB b) = (a.l.take k).filter (hasB b)) := Lib.hid (by rw [filter_take HX.out, hm]; simp)
        rw [hm]
        clear hm
        go_wp2_with fail
        go_roundw
        case rel => exact ⟨k + 1, A2, _, by omega, by go_num, HB3, hsz3, Lib.hid (by rw [HT.out]; exact HI3.out)⟩
        case measure => simp [intOf]; omega
    · have HT : Hid ((a.l.take k).filter (hasB b) = (meetT a b).l) := Lib.hid (by rw [List.take_of_length_le (by omega)]; rfl)
      have HLN : Hid ((meetT a b).l.length ≤ 16) := Lib.hid (Nat.le_trans (List.length_filter_le _ _) HN.out)
      rw [HT.out] at HI
      generalize hout : (meetT a b).l = out at *
      have HO := Lib.hid hout
      clear hout
      have kO := HI.out.set_.cell
      have kR := HI.out.res.cell
      have fR := HI.out.res.free
      go_wp2_with fail
      have hbr := put4b HI.out.res (.int .i64 7) (.int .i64 0) (.string ⟨#[]⟩) (.slice A2 out.length c2)
      have how := (((HI.out.own.far (c := w.heap.size + 2) (i := 0) (by omega) (by omega) (.int .i64 7)).far (c := w.heap.size + 2) (i := 1) (by omega) (by omega) (.int .i64 0)).far (c := w.heap.size + 2) (i := 2) (by omega) (by omega) (.string ⟨#[]⟩)).far (c := w.heap.size + 2) (i := 3) (by omega) (by omega) (.slice A2 out.length c2)
      refine bodyPost_ret (ret_tm2 rfl rfl hbr rfl) rfl ?_
      have hlm : (meetT a b).l = out := HO.out
      have hgl : ∀ t ∈ (meetT a b).l, Leaf t := fun t ht => hlf t (List.mem_filter.1 ht).1
      refine ⟨⟨A2, c2, ?_, ?_, by simp [I64, meetT], by simp [I64, meetT], by show emptyS.size ≤ _; decide, by have := HLN.out; rw [hlm]; omega⟩, put4u HBW.out (by omega) _ _ _ _⟩
      · rw [hlm]; rfl
      · rw [hlm] at hgl ⊢; exact (how.leaves hgl).lower (by omega)
end Go.Proofs.YtiplipdigabidaaGreat
