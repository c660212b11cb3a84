/- match.ways.takes. -/
import Derived.Test.YtiplipdigabidaaGreatMat2
import Derived.Laws.MakeOwn
import Derived.Test.YtiplipdigabidaaGreatReg8

set_option linter.unusedVariables false
set_option linter.unusedSimpArgs false
namespace Go.Proofs.YtiplipdigabidaaGreat
open Go.ChangeShapes Go.WideShapes Go.ChangeAt Go.RowKit

theorem made_bools (n : Nat) : madeCells #[.bool false] n = boolsA (List.replicate n false) := by
  apply Array.ext'
  apply List.ext_getElem?
  intro q
  simp [madeCells, boolsA, List.getElem?_replicate]
  split <;> simp_all [Nat.mod_one]
theorem make_bools (n : Nat) (hn : n ≤ 1000000) (w : World) : (Instr.makeSlice 110 (.int .i64 (n : Int)) (.int .i64 (n : Int))).run Tryz.prog w = .ok (.slice (some ⟨w.heap.size, 0, none⟩) n n) (w.alloc (.cells (boolsA (List.replicate n false)) 4)) := by
  obtain ⟨i0, hi0, hz0, hz1, hz2⟩ := info_parts infoBool
  have hr := run_make (P := Tryz.prog) w 110 4 i0 _ Tryz.underlying110 hi0 hz0 .i64 .i64 n n (by omega) (Int.le_refl _) (by rw [hz2]; omega) (by omega)
  simp only [Int.toNat_natCast] at hr
  rw [hz1, Nat.mul_one] at hr
  rw [hr, ← made_bools]
  rfl
theorem takesL_step {l : List Ins} {c : Nat} {last : Bool} {on : List Bool} {k : Nat} {st : List Bool × Bool} {b : Bool} (h : on[k]? = some b) : takesL l c last k (on.drop k) st = takesL l c last (k + 1) (on.drop (k + 1)) (if b && takesI (insAt l k) c then entered l false last (k + 1) st else st) := by
  obtain ⟨hk, e⟩ := List.getElem?_eq_some_iff.1 h
  rw [List.drop_eq_getElem_cons hk, e]
  rfl
theorem enter_at {w : World} {W G cl ca B : Nat} {l : List Ins} {Al : Option Addr} {i : Int} {first last : Bool} {st : List Bool × Bool} (h0 : 0 ≤ i) (hi : i < l.length) (hw : Ways W G l Al cl ca w st) (hl : RL InsR w B l Al) (hBW : B ≤ W) (hBG : B ≤ G) (hp : Prg l) (hca : l.length ≤ ca) :
    Calls Tryz.prog 135 #[.pointer (some ⟨W, 0, none⟩), .int .i64 i, .bool first, .bool last] w fun e w' => EnterE W G l Al cl ca w w' (entered l first last i st) e := by
  obtain ⟨i0, rfl⟩ := Int.eq_ofNat_of_zero_le h0
  exact enter_any hw hl hBW hBG hp (by omega) hca
theorem takes_word {x : Ins} {c j : Nat} (hk : x.kind = 1) (hj : c / 64 = j) : takesI x c = (bits .and .u64 (x.word j / 2 ^ (c % 64)) 1 == 1) := by
  unfold takesI
  rw [hk, hj]
  simp
/-- The ways behind a byte: new memory. -/
def TakesE (l : List Ins) (Al : Option Addr) (cl : Nat) (w w' : World) (st : List Bool × Bool) (e : Ending) : Prop :=
  ∃ W G ca, e = .returned (.pointer (some ⟨W, 0, none⟩)) ∧ Ways W G l Al cl ca w' st ∧ w.heap.size ≤ W ∧ w.heap.size ≤ G ∧ l.length ≤ ca ∧ Below w.heap.size w w'

set_option maxRecDepth 100000 in
set_option maxHeartbeats 4000000 in
theorem takes_any {w : World} {W G cl ca B : Nat} {l : List Ins} {Al : Option Addr} {c : Nat} {last : Bool} {st : List Bool × Bool} (hw : Ways W G l Al cl ca w st) (hl : RL InsR w B l Al) (hBW : B ≤ W) (hBG : B ≤ G) (hp : Prg l) (hc : c < 256) (hca : l.length ≤ ca) :
    Calls Tryz.prog 136 #[.pointer (some ⟨W, 0, none⟩), .int .u8 c, .bool last] w fun e w' => TakesE l Al cl w w' (takes l c last st) e := by
  have hWlt := hw.wb.blk.lt
  have hGlt := hw.gb.blk.lt
  have HW := Lib.hid hw
  have HL := Lib.hid hl
  have HP := Lib.hid hp
  have hlen := hp.len
  have hmk := fun w => make_bools l.length (by omega) w
  have k_w : ∀ o, w.cell? ⟨W, o, none⟩ = (#[.slice Al l.length cl, .slice (some ⟨G, 0, none⟩) l.length ca, .bool st.2] : Array Value)[o]? := hw.wb.blk.cell
  clear hw hl hp
  go_enter Tryz.func136, Tryz.ntmps136
  go_wp2_with fail
  go_region
  have HB1 : Hid (Below w.heap.size w ((w.alloc (.cells (boolsA (List.replicate l.length false)) 4)).alloc (.cells #[.slice Al l.length cl, .slice (some ⟨w.heap.size, 0, none⟩) l.length l.length, .bool false] 144)).drew) := Lib.hid (al2 rfl).1.drew
  have HN1 : Hid (Ways (w.heap.size + 1) w.heap.size l Al cl l.length ((w.alloc (.cells (boolsA (List.replicate l.length false)) 4)).alloc (.cells #[.slice Al l.length cl, .slice (some ⟨w.heap.size, 0, none⟩) l.length l.length, .bool false] 144)).drew (noneOn l)) := Lib.hid (by
    have h0 : BlkT (w.alloc (.cells (boolsA (List.replicate l.length false)) 4)) w.heap.size (boolsA (List.replicate l.length false)) 4 := heap_alloc_new w _
    have h1 := h0.later (below_new (w := w.alloc (.cells (boolsA (List.replicate l.length false)) 4)) (o := .cells #[.slice Al l.length cl, .slice (some ⟨w.heap.size, 0, none⟩) l.length l.length, .bool false] 144) rfl)
    have h2 := heap_alloc_new (w.alloc (.cells (boolsA (List.replicate l.length false)) 4)) (.cells #[.slice Al l.length cl, .slice (some ⟨w.heap.size, 0, none⟩) l.length l.length, .bool false] 144)
    rw [World.size_alloc] at h2
    exact ⟨h2, h1, by simp [noneOn], by omega⟩)
  generalize World.drew _ = w1 at *
  have HT1 : Hid (takes l c last st = takesL l c last 0 (st.1.drop 0) (noneOn l)) := Lib.hid rfl
  have HWO := Lib.hid (HW.out.later HB1.out)
  clear hmk k_w
  have k_w : ∀ o, w1.cell? ⟨W, o, none⟩ = (#[.slice Al l.length cl, .slice (some ⟨G, 0, none⟩) l.length ca, .bool st.2] : Array Value)[o]? := HWO.out.wb.blk.cell
  have hz1 : w.heap.size + 1 < w1.heap.size := HN1.out.wb.blk.lt
  go_wp2_with fail
  clear k_w
  go_loopw [28] (fun v wr => ∃ (k : Nat) (s2 : List Bool × Bool), k ≤ l.length ∧ v = .int .i64 k ∧ Hid (takes l c last st = takesL l c last k (st.1.drop k) s2) ∧ Hid (Ways (w.heap.size + 1) w.heap.size l Al cl l.length wr s2) ∧ Hid (Below w.heap.size w wr) ∧ w.heap.size + 1 < wr.heap.size) (fun v _ => l.length - (intOf v).toNat)
  case atStart => exact ⟨0, _, Nat.zero_le _, rfl, HT1, HN1, HB1, hz1⟩
  case round =>
    obtain ⟨k, s2, hk, rfl, HE, HN, HB, hzr⟩ := hrel
    have HWr := Lib.hid (HW.out.later HB.out)
    by_cases hlt : k < l.length
    · have hks : k < st.1.length := by rw [HW.out.len]; exact hlt
      obtain ⟨b, hb⟩ : ∃ b, st.1[k]? = some b := ⟨_, List.getElem?_eq_getElem hks⟩
      have HE2 := Lib.hid (HE.out.trans (takesL_step (l := l) (c := c) (last := last) (st := s2) hb))
      have k_w : ∀ o, wr.cell? ⟨W, o, none⟩ = (#[.slice Al l.length cl, .slice (some ⟨G, 0, none⟩) l.length ca, .bool st.2] : Array Value)[o]? := HWr.out.wb.blk.cell
      have c_g : wr.cell? ⟨G, k, none⟩ = some (.bool b) := by rw [HWr.out.gb.blk.cell, boolsA_get, hb]; rfl
      have HLr := Lib.hid (HL.out.keep HB.out (by omega))
      have hB2 : B ≤ wr.heap.size := by omega
      obtain ⟨b_, off, rfl, hob⟩ := HLr.out.base (Below.refl _ _) hB2 (by omega)
      obtain ⟨x, vs, hx, hxl, hxc, hxr⟩ := HLr.out.at_ (Below.refl _ _) hB2 hlt
      obtain rfl : vs = insC x := hxr
      have c0 : wr.cell? ⟨b_, off + k * 7, none⟩ = some (.int .i64 x.kind) := hxc 0 _ rfl
      have c1 : wr.cell? ⟨b_, off + k * 7 + 1, none⟩ = some (.int .u64 x.a) := hxc 1 _ rfl
      have c2 : wr.cell? ⟨b_, off + k * 7 + 2, none⟩ = some (.int .u64 x.b) := hxc 2 _ rfl
      have c3 : wr.cell? ⟨b_, off + k * 7 + 3, none⟩ = some (.int .u64 x.c) := hxc 3 _ rfl
      have c4 : wr.cell? ⟨b_, off + k * 7 + 4, none⟩ = some (.int .u64 x.d) := hxc 4 _ rfl
      have c5 : wr.cell? ⟨b_, off + k * 7 + 5, none⟩ = some (.int .i64 x.x) := hxc 5 _ rfl
      have c6 : wr.cell? ⟨b_, off + k * 7 + 6, none⟩ = some (.int .i64 x.y) := hxc 6 _ rfl
      have hIX : insAt l k = x := by
        unfold insAt
        rw [Int.toNat_natCast, List.getD_eq_getElem?_getD, hx]
        rfl
      have HTI : Hid (takesI x c = true → k + 1 < l.length) := Lib.hid (fun ht => takes_in HP.out hlt (by rw [hIX]; exact ht))
      rw [hIX] at HE2
      clear hxc hxl hx hIX hks hb HE
      have hn64 : c / 64 = 0 ∨ c / 64 = 1 ∨ c / 64 = 2 ∨ c / 64 = 3 := by omega
      have hr : (c : Int).tmod 64 = ((c % 64 : Nat) : Int) := rfl
      have hr2 : ((c % 64 : Nat) : Int) < 64 := by omega
      have hr3 : (0 : Int) ≤ ((c % 64 : Nat) : Int) := by omega
      have hq : (c : Int).tdiv 64 = ((c / 64 : Nat) : Int) := rfl
      cases b
      · have HE3 : Hid (takes l c last st = takesL l c last (k + 1) (st.1.drop (k + 1)) s2) := Lib.hid (by rw [HE2.out]; simp)
        go_wp2_with fail
        go_roundw
        case rel => exact ⟨k + 1, s2, by omega, by go_num, HE3, Lib.hid (HN.out.later (below_new rfl)), Lib.hid (bthen HB.out (below_new rfl)), by rw [World.size_alloc]; omega⟩
        case measure => simp [intOf]; omega
      · by_cases hk1 : x.kind = 1
        · have q1 : (x.kind == 1) = true := by simpa using hk1
          have HTW := fun (j : Nat) (hj : c / 64 = j) => takes_word (c := c) hk1 hj
          clear hk1
          rcases hn64 with hj | hj | hj | hj
          · have HTW2 := Lib.hid (HTW 0 hj)
            rw [hj] at hq
            clear HTW hj
            have hword : x.word 0 = x.a := rfl
            rw [hword] at HTW2
            clear hword
            rcases Bool.eq_false_or_eq_true (bits .and .u64 (x.a / 2 ^ (c % 64)) 1 == 1) with hbit | hbit
            · have HT : Hid (takesI x c = true) := Lib.hid (by rw [HTW2.out, hbit])
              have HE3 : Hid (takes l c last st = takesL l c last (k + 1) (st.1.drop (k + 1)) (entered l false last ((k : Int) + 1) s2)) := Lib.hid (by rw [HE2.out, HT.out]; rfl)
              have hk2 := HTI.out HT.out
              go_wp2_with fail
              generalize hA : World.alloc _ _ = w4
              have hb4 := below_new hA
              have HN4 := Lib.hid (HN.out.later hb4)
              have HB4 := Lib.hid (bthen HB.out hb4)
              clear hA hb4
              refine (enter_at (B := B) (by omega) (by omega) HN4.out (HL.out.keep HB4.out (by omega)) (by omega) (by omega) HP.out (Nat.le_refl _)).mono ?_
              rintro e w5 ⟨rfl, he, hn⟩
              have HN5 := Lib.hid hn
              have HB5 := Lib.hid (HB4.out.trans (he.1.mono (by omega)))
              have hz5 : w.heap.size + 1 < w5.heap.size := HN5.out.wb.blk.lt
              clear he hn
              go_wp2_with fail
              go_roundw
              case rel => exact ⟨k + 1, _, by omega, by go_num, HE3, HN5, HB5, hz5⟩
              case measure => simp [intOf]; omega
            · have HT : Hid (takesI x c = false) := Lib.hid (by rw [HTW2.out, hbit])
              have HE3 : Hid (takes l c last st = takesL l c last (k + 1) (st.1.drop (k + 1)) s2) := Lib.hid (by rw [HE2.out, HT.out]; rfl)
              go_wp2_with fail
              go_roundw
              case rel => exact ⟨k + 1, s2, by omega, by go_num, HE3, Lib.hid (HN.out.later (below_new rfl)), Lib.hid (bthen HB.out (below_new rfl)), by rw [World.size_alloc]; omega⟩
              case measure => simp [intOf]; omega
          · have HTW2 := Lib.hid (HTW 1 hj)
            rw [hj] at hq
            clear HTW hj
            have hword : x.word 1 = x.b := rfl
            rw [hword] at HTW2
            clear hword
            rcases Bool.eq_false_or_eq_true (bits .and .u64 (x.b / 2 ^ (c % 64)) 1 == 1) with hbit | hbit
            · have HT : Hid (takesI x c = true) := Lib.hid (by rw [HTW2.out, hbit])
              have HE3 : Hid (takes l c last st = takesL l c last (k + 1) (st.1.drop (k + 1)) (entered l false last ((k : Int) + 1) s2)) := Lib.hid (by rw [HE2.out, HT.out]; rfl)
              have hk2 := HTI.out HT.out
              go_wp2_with fail
              generalize hA : World.alloc _ _ = w4
              have hb4 := below_new hA
              have HN4 := Lib.hid (HN.out.later hb4)
              have HB4 := Lib.hid (bthen HB.out hb4)
              clear hA hb4
              refine (enter_at (B := B) (by omega) (by omega) HN4.out (HL.out.keep HB4.out (by omega)) (by omega) (by omega) HP.out (Nat.le_refl _)).mono ?_
              rintro e w5 ⟨rfl, he, hn⟩
              have HN5 := Lib.hid hn
              have HB5 := Lib.hid (HB4.out.trans (he.1.mono (by omega)))
              have hz5 : w.heap.size + 1 < w5.heap.size := HN5.out.wb.blk.lt
              clear he hn
              go_wp2_with fail
              go_roundw
              case rel => exact ⟨k + 1, _, by omega, by go_num, HE3, HN5, HB5, hz5⟩
              case measure => simp [intOf]; omega
            · have HT : Hid (takesI x c = false) := Lib.hid (by rw [HTW2.out, hbit])
              have HE3 : Hid (takes l c last st = takesL l c last (k + 1) (st.1.drop (k + 1)) s2) := Lib.hid (by rw [HE2.out, HT.out]; rfl)
              go_wp2_with fail
              go_roundw
              case rel => exact ⟨k + 1, s2, by omega, by go_num, HE3, Lib.hid (HN.out.later (below_new rfl)), Lib.hid (bthen HB.out (below_new rfl)), by rw [World.size_alloc]; omega⟩
              case measure => simp [intOf]; omega
          · have HTW2 := Lib.hid (HTW 2 hj)
            rw [hj] at hq
            clear HTW hj
            have hword : x.word 2 = x.c := rfl
            rw [hword] at HTW2
            clear hword
            rcases Bool.eq_false_or_eq_true (bits .and .u64 (x.c / 2 ^ (c % 64)) 1 == 1) with hbit | hbit
            · have HT : Hid (takesI x c = true) := Lib.hid (by rw [HTW2.out, hbit])
              have HE3 : Hid (takes l c last st = takesL l c last (k + 1) (st.1.drop (k + 1)) (entered l false last ((k : Int) + 1) s2)) := Lib.hid (by rw [HE2.out, HT.out]; rfl)
              have hk2 := HTI.out HT.out
              go_wp2_with fail
              generalize hA : World.alloc _ _ = w4
              have hb4 := below_new hA
              have HN4 := Lib.hid (HN.out.later hb4)
              have HB4 := Lib.hid (bthen HB.out hb4)
              clear hA hb4
              refine (enter_at (B := B) (by omega) (by omega) HN4.out (HL.out.keep HB4.out (by omega)) (by omega) (by omega) HP.out (Nat.le_refl _)).mono ?_
              rintro e w5 ⟨rfl, he, hn⟩
              have HN5 := Lib.hid hn
              have HB5 := Lib.hid (HB4.out.trans (he.1.mono (by omega)))
              have hz5 : w.heap.size + 1 < w5.heap.size := HN5.out.wb.blk.lt
              clear he hn
              go_wp2_with fail
              go_roundw
              case rel => exact ⟨k + 1, _, by omega, by go_num, HE3, HN5, HB5, hz5⟩
              case measure => simp [intOf]; omega
            · have HT : Hid (takesI x c = false) := Lib.hid (by rw [HTW2.out, hbit])
              have HE3 : Hid (takes l c last st = takesL l c last (k + 1) (st.1.drop (k + 1)) s2) := Lib.hid (by rw [HE2.out, HT.out]; rfl)
              go_wp2_with fail
              go_roundw
              case rel => exact ⟨k + 1, s2, by omega, by go_num, HE3, Lib.hid (HN.out.later (below_new rfl)), Lib.hid (bthen HB.out (below_new rfl)), by rw [World.size_alloc]; omega⟩
              case measure => simp [intOf]; omega
          · have HTW2 := Lib.hid (HTW 3 hj)
            rw [hj] at hq
            clear HTW hj
            have hword : x.word 3 = x.d := rfl
            rw [hword] at HTW2
            clear hword
            rcases Bool.eq_false_or_eq_true (bits .and .u64 (x.d / 2 ^ (c % 64)) 1 == 1) with hbit | hbit
            · have HT : Hid (takesI x c = true) := Lib.hid (by rw [HTW2.out, hbit])
              have HE3 : Hid (takes l c last st = takesL l c last (k + 1) (st.1.drop (k + 1)) (entered l false last ((k : Int) + 1) s2)) := Lib.hid (by rw [HE2.out, HT.out]; rfl)
              have hk2 := HTI.out HT.out
              go_wp2_with fail
              generalize hA : World.alloc _ _ = w4
              have hb4 := below_new hA
              have HN4 := Lib.hid (HN.out.later hb4)
              have HB4 := Lib.hid (bthen HB.out hb4)
              clear hA hb4
              refine (enter_at (B := B) (by omega) (by omega) HN4.out (HL.out.keep HB4.out (by omega)) (by omega) (by omega) HP.out (Nat.le_refl _)).mono ?_
              rintro e w5 ⟨rfl, he, hn⟩
              have HN5 := Lib.hid hn
              have HB5 := Lib.hid (HB4.out.trans (he.1.mono (by omega)))
              have hz5 : w.heap.size + 1 < w5.heap.size := HN5.out.wb.blk.lt
              clear he hn
              go_wp2_with fail
              go_roundw
              case rel => exact ⟨k + 1, _, by omega, by go_num, HE3, HN5, HB5, hz5⟩
              case measure => simp [intOf]; omega
            · have HT : Hid (takesI x c = false) := Lib.hid (by rw [HTW2.out, hbit])
              have HE3 : Hid (takes l c last st = takesL l c last (k + 1) (st.1.drop (k + 1)) s2) := Lib.hid (by rw [HE2.out, HT.out]; rfl)
              go_wp2_with fail
              go_roundw
              case rel => exact ⟨k + 1, s2, by omega, by go_num, HE3, Lib.hid (HN.out.later (below_new rfl)), Lib.hid (bthen HB.out (below_new rfl)), by rw [World.size_alloc]; omega⟩
              case measure => simp [intOf]; omega
        · have q1 : (x.kind == 1) = false := by simpa using hk1
          have HT : Hid (takesI x c = false) := Lib.hid (by unfold takesI; rw [decide_eq_false hk1]; rfl)
          have HE3 : Hid (takes l c last st = takesL l c last (k + 1) (st.1.drop (k + 1)) s2) := Lib.hid (by rw [HE2.out, HT.out]; rfl)
          clear hk1
          go_wp2_with fail
          go_roundw
          case rel => exact ⟨k + 1, s2, by omega, by go_num, HE3, Lib.hid (HN.out.later (below_new rfl)), Lib.hid (bthen HB.out (below_new rfl)), by rw [World.size_alloc]; omega⟩
          case measure => simp [intOf]; omega
    · have HE3 : Hid (takes l c last st = s2) := Lib.hid (by
        rw [HE.out, List.drop_eq_nil_iff.2 (by rw [HW.out.len]; omega)]
        rfl)
      go_wp2_with fail
      go_ret
      rw [HE3.out]
      exact ⟨w.heap.size + 1, w.heap.size, l.length, rfl, HN.out, by omega, Nat.le_refl _, Nat.le_refl _, HB.out⟩
end Go.Proofs.YtiplipdigabidaaGreat

/- match.fits (a part of a text), Find. -/
set_option linter.unusedVariables false
set_option linter.unusedSimpArgs false
namespace Go.Proofs.YtiplipdigabidaaGreat
open Go.ChangeShapes Go.WideShapes Go.ChangeAt Go.RowKit

theorem run_at {s : ByteArray} {k b : Nat} (h : k < s.size) (hb : byteAt s k = b) (w : World) : (Instr.index 9 (.string s) (.int .i64 (k : Int))).run Tryz.prog w = .ok (.int .u8 (b : Int)) w := by
  rw [run_index_string w 9 s .i64 _ Tryz.underlying9, dif_pos ⟨by omega, by omega⟩]
  rw [← hb, byteAt_get h]
  rfl
theorem empty_size (t : ByteArray) : t = ByteArray.empty ↔ t.size = 0 := ⟨fun h => by rw [h]; rfl, fun h => ByteArray.ext (Array.eq_empty_of_size_eq_zero h)⟩
theorem fitsL_done {l : List Ins} {t : ByteArray} {n i : Nat} {st : List Bool × Bool} (h : st.2 = true) : fitsL l t false n i st = true := by
  cases n with
  | zero => exact h
  | succ n => unfold fitsL; rw [h]; rfl
theorem fitsL_go {l : List Ins} {t : ByteArray} {n i : Nat} {st : List Bool × Bool} (h : st.2 = false) : fitsL l t false (n + 1) i st = fitsL l t false n (i + 1) (entered l false (decide (i + 1 = t.size)) 0 (takes l (byteAt t i) (decide (i + 1 = t.size)) st)) := by
  show (if (st.2 && !false) = true then _ else _) = _
  rw [h]
  rfl
theorem ret_be {b c : Bool} {m n : Int} (h : b = c) (h2 : m = n) : Ending.returned (.tuple #[.bool b, .int .i64 m]) = .returned (.tuple #[.bool c, .int .i64 n]) := by rw [h, h2]

set_option maxRecDepth 100000 in
set_option maxHeartbeats 4000000 in
theorem fits_any {w : World} {p t : ByteArray} (hp : p.size ≤ 140737488351232) (ht : t.size ≤ 140737488351232) :
    Calls Tryz.prog 117 #[.string p, .string t, .bool false] w fun e w' => e = .returned (.tuple #[.bool (fitsR p t false).1, .int .i64 (fitsR p t false).2]) ∧ Below w.heap.size w w' := by
  by_cases h256 : 256 < t.size
  · have HX : Hid (fitsR p t false = (false, 1)) := Lib.hid (by unfold fitsR; rw [if_pos h256])
    go_enter Tryz.func117, Tryz.ntmps117
    go_wp2_with fail
    go_ret2
    rw [HX.out]
    exact ⟨rfl, Below.refl _ _⟩
  · have HX : Hid (fitsR p t false = if (compR p).2 ≠ 0 then (false, (compR p).2) else (fitsL (compR p).1 t false t.size 0 (entered (compR p).1 true (decide (t.size = 0)) 0 (noneOn (compR p).1)), 0)) := Lib.hid (by unfold fitsR; rw [if_neg h256])
    have h256' : decide (256 < (t.size : Int)) = false := by simp; omega
    go_enter Tryz.func117, Tryz.ntmps117
    go_wp2_with fail
    clear h256'
    refine (compile_any hp).mono ?_
    rintro e w1 ⟨⟨Al, cl, rfl, ho⟩, hb⟩
    by_cases he : (compR p).2 = 0
    · have HPR := Lib.hid (comp_prg he)
      rw [if_neg (by simp [he])] at HX
      generalize compR p = r at *
      obtain ⟨l, e⟩ := r
      simp only at he ho HX HPR
      have hq : ((e : Int) != 0) = false := by rw [he]; rfl
      have hlen := HPR.out.len
      have hpos := HPR.out.pos
      have HL := Lib.hid (ho.rows (by omega))
      have HB1 := Lib.hid hb
      have hmk := fun w => make_bools l.length (by omega) w
      clear ho hb he
      go_wp2_with fail
      generalize hA : World.alloc _ _ = w2
      obtain ⟨hb, hz⟩ := al2 hA
      have HN2 : Hid (Ways (w1.heap.size + 1) w1.heap.size l Al cl l.length w2 (noneOn l)) := Lib.hid (by
        have h0 : BlkT (w1.alloc (.cells (boolsA (List.replicate l.length false)) 4)) w1.heap.size (boolsA (List.replicate l.length false)) 4 := heap_alloc_new w1 _
        have h1 := h0.later (below_new (w := w1.alloc (.cells (boolsA (List.replicate l.length false)) 4)) (o := .cells #[.slice Al l.length cl, .slice (some ⟨w1.heap.size, 0, none⟩) l.length l.length, .bool false] 144) rfl)
        have h2 := heap_alloc_new (w1.alloc (.cells (boolsA (List.replicate l.length false)) 4)) (.cells #[.slice Al l.length cl, .slice (some ⟨w1.heap.size, 0, none⟩) l.length l.length, .bool false] 144)
        rw [World.size_alloc] at h2
        exact hA ▸ ⟨h2, h1, by simp [noneOn], by omega⟩)
      have HB2 := Lib.hid hb
      clear hA hz hb hmk
      refine (enter_at (B := w1.heap.size) (Int.le_refl _) (by omega) HN2.out (HL.out.keep HB2.out (Nat.le_refl _)) (by omega) (Nat.le_refl _) HPR.out (Nat.le_refl _)).mono ?_
      rintro e w3 ⟨rfl, hx, hn⟩
      have hie : t.toList.isEmpty = decide (t.size = 0) := by rw [isEmpty_empty, Bool.eq_iff_iff, decide_eq_true_eq, decide_eq_true_eq]; exact empty_size t
      rw [hie] at hn
      have HN3 := Lib.hid hn
      have HB3 : Hid (Below w1.heap.size w1 w3) := Lib.hid (HB2.out.trans (hx.1.mono (by omega)))
      generalize entered l true (decide (t.size = 0)) 0 (noneOn l) = st0 at *
      clear hx hn hie HN2 HB2
      have hz3 : w1.heap.size + 1 < w3.heap.size := HN3.out.wb.blk.lt
      go_wp2_with fail
      go_loopw [10, 36] (fun v10 v36 wr => ∃ (k W G ca : Nat) (st : List Bool × Bool), k ≤ t.size ∧ v10 = .pointer (some ⟨W, 0, none⟩) ∧ v36 = .int .i64 k ∧ w1.heap.size ≤ W ∧ w1.heap.size ≤ G ∧ l.length ≤ ca ∧ Hid (fitsL l t false t.size 0 st0 = fitsL l t false (t.size - k) k st) ∧ Hid (Ways W G l Al cl ca wr st) ∧ Hid (Below w1.heap.size w1 wr)) (fun _ v _ => t.size - (intOf v).toNat)
      case atStart => exact ⟨0, _, _, _, st0, Nat.zero_le _, rfl, rfl, by omega, Nat.le_refl _, Nat.le_refl _, Lib.hid (by rw [Nat.sub_zero]), HN3, HB3⟩
      case round =>
        obtain ⟨k, W, G, ca, st, hk, rfl, rfl, hBW, hBG, hca, HE, HN, HBr⟩ := hrel
        have hWlt := HN.out.wb.blk.lt
        have k_w : ∀ o, wr.cell? ⟨W, o, none⟩ = (#[.slice Al l.length cl, .slice (some ⟨G, 0, none⟩) l.length ca, .bool st.2] : Array Value)[o]? := HN.out.wb.blk.cell
        by_cases hlt : k < t.size
        · rcases Bool.eq_false_or_eq_true st.2 with hd | hd
          · have HR : Hid (fitsL l t false t.size 0 st0 = true) := Lib.hid (by rw [HE.out, fitsL_done hd])
            rw [hd] at k_w
            clear hd HE
            go_wp2_with fail
            go_ret2
            rw [HX.out, HR.out]
            exact ⟨rfl, bthen HB1.out HBr.out⟩
          · obtain ⟨n, hn⟩ : ∃ n, t.size - k = n + 1 := ⟨t.size - k - 1, by omega⟩
            obtain ⟨lb, hlb⟩ : ∃ lb, decide (k + 1 = t.size) = lb := ⟨_, rfl⟩
            obtain ⟨c, hcb⟩ : ∃ c, byteAt t k = c := ⟨_, rfl⟩
            have HE2 : Hid (fitsL l t false t.size 0 st0 = fitsL l t false (t.size - (k + 1)) (k + 1) (entered l false lb 0 (takes l c lb st))) := Lib.hid (by
              rw [HE.out, hn, fitsL_go hd, hlb, hcb, show t.size - (k + 1) = n by omega])
            have hc256 : c < 256 := by rw [← hcb]; exact byteAt_lt _ _
            have hix := fun wx => run_at hlt hcb wx
            have hql : ((k : Int) == (t.size : Int) - 1) = lb := by
              rw [← hlb, Bool.eq_iff_iff]
              simp
              omega
            rw [hd] at k_w
            clear hd HE hn hlb hcb
            go_wp2_with fail
            refine (takes_any (B := w1.heap.size) (c := c) HN.out (HL.out.keep HBr.out (Nat.le_refl _)) hBW hBG HPR.out hc256 hca).mono ?_
            rintro e w4 ⟨W2, G2, ca2, rfl, hn2, hW2, hG2, hca2, hb4⟩
            have HN4 := Lib.hid hn2
            have HB4 := Lib.hid (bthen HBr.out hb4)
            have hszr := HBr.out.size
            clear hn2 hb4 k_w hix
            go_wp2_with fail
            refine (enter_at (B := w1.heap.size) (Int.le_refl _) (by omega) HN4.out (HL.out.keep HB4.out (Nat.le_refl _)) (by omega) (by omega) HPR.out hca2).mono ?_
            rintro e w5 ⟨rfl, hx, hn⟩
            have HN5 := Lib.hid hn
            have HB5 : Hid (Below w1.heap.size w1 w5) := Lib.hid (HB4.out.trans (hx.1.mono (by omega)))
            clear hx hn HN4 HB4 hql
            go_wp2_with fail
            go_roundw
            case rel => exact ⟨k + 1, W2, G2, ca2, _, by omega, rfl, by go_num, by omega, by omega, hca2, HE2, HN5, HB5⟩
            case measure => simp [intOf]; omega
        · have HR : Hid (fitsL l t false t.size 0 st0 = st.2) := Lib.hid (by rw [HE.out, show t.size - k = 0 by omega]; rfl)
          go_wp2_with fail
          go_ret2
          rw [HX.out, HR.out]
          exact ⟨rfl, bthen HB1.out HBr.out⟩
    · have hq : (((compR p).2 : Int) != 0) = true := by simpa using he
      rw [if_pos he] at HX
      have HB := Lib.hid hb
      clear hb ho he
      go_wp2_with fail
      go_ret2
      rw [HX.out]
      exact ⟨rfl, HB.out⟩

set_option maxHeartbeats 400000 in
theorem find_any {w : World} {p t : ByteArray} (hp : p.size ≤ 140737488351232) (ht : t.size ≤ 140737488351232) :
    Calls Tryz.prog 90 #[.string p, .string t] w fun e w' => e = .returned (.tuple #[.bool (fitsR p t false).1, .int .i64 (fitsR p t false).2]) ∧ Below w.heap.size w w' := by
  go_enter Tryz.func90, Tryz.ntmps90
  go_wp2_with fail
  refine (fits_any hp ht).mono ?_
  rintro e w1 ⟨rfl, hb⟩
  have HB := Lib.hid hb
  clear hb
  go_wp2_with fail
  go_ret2
  exact ⟨rfl, HB.out⟩
end Go.Proofs.YtiplipdigabidaaGreat

