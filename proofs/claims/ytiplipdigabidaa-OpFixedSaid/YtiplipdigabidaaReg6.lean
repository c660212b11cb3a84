/- regex.atom. -/
import Derived.Test.YtiplipdigabidaaReg5
import Derived.Deep.Cut
import Derived.Deep.CutRange
import Derived.Deep.LoopGhost
set_option linter.unusedVariables false
set_option linter.unusedSimpArgs false
namespace Go.Proofs.Ytiplipdigabidaa
open Go.ChangeShapes Go.WideShapes Go.ChangeAt Go.RowKit

/-- What holds in atom: the parser, the step under way. -/
structure AS (P G : Nat) (s : ByteArray) (w0 w : World) (p : PS) (i : Ins) : Prop where
  pb : Blk w P (psA s p)
  gb : Blk w G (inA i)
  ex : Exc P w0 w
  hP : P < w0.heap.size
  hG : w0.heap.size ≤ G
section
variable {P G : Nat} {s : ByteArray} {w0 w w' : World} {p q : PS} {i j : Ins}
theorem AS.later (h : AS P G s w0 w p i) (hb : Below w.heap.size w w') : AS P G s w0 w' p i :=
  ⟨h.pb.later hb, h.gb.later hb, h.ex.then (Nat.le_of_lt h.hP) hb, h.hP, h.hG⟩
theorem AS.exP (h : AS P G s w0 w p i) (he : Exc P w w') (hp : Blk w' P (psA s q)) : AS P G s w0 w' q i :=
  ⟨hp, he.blk (by have := h.hP; have := h.hG; omega) h.gb, h.ex.trans he, h.hP, h.hG⟩
theorem AS.exG (h : AS P G s w0 w p i) (he : Exc G w w') (hg : Blk w' G (inA j)) : AS P G s w0 w' p j :=
  ⟨he.blk (by have := h.hP; have := h.hG; omega) h.pb, hg, h.ex.fresh he h.hP h.hG, h.hP, h.hG⟩
theorem AS.cellsG (h : AS P G s w0 w p i) : ∀ o, w.cell? ⟨G, o, none⟩ = (#[.int .i64 i.kind, .int .u64 i.a, .int .u64 i.b, .int .u64 i.c, .int .u64 i.d, .int .i64 i.x, .int .i64 i.y] : Array Value)[o]? := h.gb.cell
theorem AS.cellsP (h : AS P G s w0 w p i) : ∀ o, w.cell? ⟨P, o, none⟩ = (#[.string s, .int .i64 p.at_, .int .i64 p.deep, .int .i64 p.e] : Array Value)[o]? := h.pb.cell
/-- The end: the step alone, in a slice of one's own. -/
theorem AS.ends (h : AS P G s w0 w p i) : PE P s w0 (w.alloc (.cells #[.int .i64 i.kind, .int .u64 i.a, .int .u64 i.b, .int .u64 i.c, .int .u64 i.d, .int .i64 i.x, .int .i64 i.y] 95)) ([i], p) (.returned (.slice (some ⟨w.heap.size, 0, none⟩) 1 1)) := by
  have hb := below_new (w := w) (o := .cells #[.int .i64 i.kind, .int .u64 i.a, .int .u64 i.b, .int .u64 i.c, .int .u64 i.d, .int .i64 i.x, .int .i64 i.y] 95) rfl
  exact ⟨⟨_, 1, rfl, ins_new (w := w) (i := i) (o := .cells #[.int .i64 i.kind, .int .u64 i.a, .int .u64 i.b, .int .u64 i.c, .int .u64 i.d, .int .i64 i.x, .int .i64 i.y] 95) rfl rfl h.ex.1.size⟩, (h.later hb).ex, h.pb.later hb⟩
theorem AS.put1 (h : AS P G s w0 w p i) (n : Nat) (v : Value) (hj : inA j = (inA i).setIfInBounds n v) : AS P G s w0 (w.setCell ⟨G, n, none⟩ v) p j :=
  h.exG ((Exc.refl G w).set n v) (by rw [hj]; exact h.gb.set_ n v)
end
theorem PE.size {P : Nat} {s : ByteArray} {w w' : World} {r : List Ins × PS} {e : Ending} (h : PE P s w w' r e) : w.heap.size ≤ w'.heap.size := h.2.1.1.size
theorem OwnE.low {P : Nat} {s : ByteArray} {w0 w w' : World} {r : List Ins × PS} {e : Ending} (h : PE P s w w' r e) (h0 : Exc P w0 w) : PE P s w0 w' r e := by
  obtain ⟨⟨A, c, e1, ho⟩, he, hb⟩ := h
  exact ⟨⟨A, c, e1, ho.low h0.1.size⟩, h0.trans he, hb⟩
theorem barred_ix (c : Nat) (hc : c < 256) : decide (0 ≤ Lib.indexByte [41, 42, 43, 63, 124] ((c : Int).toNat.toUInt8)) = barred c := by
  have key : ∀ c : Fin 256, decide (0 ≤ Lib.indexByte [41, 42, 43, 63, 124] (((c.val : Nat) : Int).toNat.toUInt8)) = barred c.val := by decide +kernel
  exact key ⟨c, hc⟩
theorem atom_of {s : ByteArray} {n : Nat} {p q : PS} {c : Nat} (h : nextP s p = (c, q)) : atomF (n + 1) s p =
    if c = 40 ∧ q.e = 0 then groupF n s q
    else if c = 91 then ([(classP s q).1], (classP s q).2)
    else if c = 46 then ([anyI], q)
    else if c = 94 then ([⟨4, 0, 0, 0, 0, 0, 0⟩], q)
    else if c = 36 then ([⟨5, 0, 0, 0, 0, 0, 0⟩], q)
    else if c = 92 then ([hasI charI (nextP s q).1], (nextP s q).2)
    else if barred c then ([charI], failP q 3)
    else ([hasI charI c], q) := by
  unfold atomF atomR groupF patF
  rw [h]
theorem next_40 {s : ByteArray} {p q : PS} {c : Nat} (h : nextP s p = (c, q)) (hc : c ≠ 0) : q.e = 0 := by
  unfold nextP at h
  split at h
  · simp only [Prod.mk.injEq] at h; omega
  · rename_i he
    simp only [Prod.mk.injEq] at h
    have := next_at (s := s) (p := p) (by simpa using he)
    rw [← h.2]
    exact this.1

set_option maxRecDepth 100000 in
set_option maxHeartbeats 2000000 in
theorem atom_step {s : ByteArray} (hs : s.size ≤ 1000) (n m : Nat) (hgr : PCall 93 (groupF n) s (fun p => remP s p < m)) :
    PCall 91 (atomF (n + 1)) s (fun p => remP s p ≤ m ∧ remP s p ≠ 0) := by
  intro w P p hb hok hm
  have hlt := hb.lt
  have hat := hok.at_
  have HB0 := Lib.hid hb
  have HGR := Lib.hid hgr
  have HOK := Lib.hid hok
  obtain ⟨hm, hne⟩ := hm
  clear hb hok hgr
  go_enter Try.func91, Try.ntmps91
  go_wp2_with fail
  generalize hW : World.alloc _ _ = w1
  obtain ⟨hb, hz⟩ := al1 hW
  have HC1 : Hid (AS P w.heap.size s w w1 p charI) := Lib.hid ⟨HB0.out.later hb, n11 hW, Exc.of (Nat.le_of_lt hlt) hb, hlt, Nat.le_refl _⟩
  clear hW hz hb HB0
  generalize w.heap.size = G at *
  refine (next_any (s := s) (p := p) HC1.out.pb (by omega) (by omega)).mono ?_
  rintro e w2 ⟨rfl, he, hb⟩
  have HC2 := Lib.hid (HC1.out.exP he hb)
  have hnl := next_less s p
  have hnt := next_lt s p
  have hrem : remP s (nextP s p).2 < m := by have := hnl.lt hne; omega
  clear he hb HC1
  have HX : ∀ c q, nextP s p = (c, q) → _ := fun c q h => atom_of (n := n) h
  generalize hN : nextP s p = z at *
  obtain ⟨c, q⟩ := z
  have HXc := Lib.hid (HX c q rfl)
  have h40 : Hid (c ≠ 0 → q.e = 0) := Lib.hid (next_40 hN)
  have HOK2 := Lib.hid (HOK.out.less hnl)
  simp only at HC2 hnt hrem HOK2
  have hat2 := HOK2.out.at_
  clear HX hN hnl
  have hcases : c = 40 ∨ c = 91 ∨ c = 46 ∨ c = 94 ∨ c = 36 ∨ c = 92 ∨ (c ≠ 40 ∧ c ≠ 91 ∧ c ≠ 46 ∧ c ≠ 94 ∧ c ≠ 36 ∧ c ≠ 92) := by omega
  rcases hcases with rfl | rfl | rfl | rfl | rfl | rfl | ⟨h1, h2, h3, h4, h5, h6⟩
  · have hq0 := h40.out (by omega)
    have HX2 : Hid (atomF (n + 1) s p = groupF n s q) := Lib.hid (by rw [HXc.out, if_pos ⟨rfl, hq0⟩])
    have k_p := HC2.out.cellsP
    have hqe : ((q.e : Int) == 0) = true := by rw [hq0]; rfl
    clear hq0 HXc
    go_wp2_with fail
    refine (HGR.out w2 P q HC2.out.pb HOK2.out hrem).mono ?_
    rintro e w3 hpe
    have HPE := Lib.hid (OwnE.low hpe HC2.out.ex)
    clear hpe k_p hqe
    obtain ⟨⟨A, c2, rfl, ho⟩, he, hb⟩ := HPE.out
    clear ho he hb
    go_wp2_with fail
    go_ret
    rw [HX2.out]
    exact HPE.out
  · have HX2 : Hid (atomF (n + 1) s p = ([(classP s q).1], (classP s q).2)) := Lib.hid (by rw [HXc.out]; simp)
    clear HXc
    go_wp2_with fail
    refine (class_any (s := s) (p := q) HC2.out.pb (by omega) hat2).mono ?_
    rintro e w3 ⟨rfl, he, hb⟩
    have HC3 := Lib.hid (HC2.out.exP he hb)
    clear he hb HC2
    generalize classP s q = z at *
    obtain ⟨i, y⟩ := z
    simp only at HC3
    have k_g : ∀ o, w3.cell? ⟨G, o, none⟩ = (#[.int .i64 1, .int .u64 0, .int .u64 0, .int .u64 0, .int .u64 0, .int .i64 0, .int .i64 0] : Array Value)[o]? := HC3.out.gb.cell
    have f_g := HC3.out.gb.free
    unfold insC
    go_wp2_with fail
    go_ret
    have h7 := ((((((HC3.out.put1 (j := ⟨i.kind, 0, 0, 0, 0, 0, 0⟩) 0 (.int .i64 i.kind) rfl).put1 (j := ⟨i.kind, i.a, 0, 0, 0, 0, 0⟩) 1 (.int .u64 i.a) rfl).put1 (j := ⟨i.kind, i.a, i.b, 0, 0, 0, 0⟩) 2 (.int .u64 i.b) rfl).put1 (j := ⟨i.kind, i.a, i.b, i.c, 0, 0, 0⟩) 3 (.int .u64 i.c) rfl).put1 (j := ⟨i.kind, i.a, i.b, i.c, i.d, 0, 0⟩) 4 (.int .u64 i.d) rfl).put1 (j := ⟨i.kind, i.a, i.b, i.c, i.d, i.x, 0⟩) 5 (.int .i64 i.x) rfl).put1 (j := ⟨i.kind, i.a, i.b, i.c, i.d, i.x, i.y⟩) 6 (.int .i64 i.y) rfl
    have h8 := h7.ends
    simp only [World.size_setCell] at h8
    rw [HX2.out]
    exact h8
  · have HX2 : Hid (atomF (n + 1) s p = ([anyI], q)) := Lib.hid (by rw [HXc.out]; simp)
    clear HXc
    have k_g : ∀ o, w2.cell? ⟨G, o, none⟩ = (#[.int .i64 1, .int .u64 0, .int .u64 0, .int .u64 0, .int .u64 0, .int .i64 0, .int .i64 0] : Array Value)[o]? := HC2.out.gb.cell
    have f_g := HC2.out.gb.free
    go_wp2_with fail
    go_ret
    have h7 := (((HC2.out.put1 (j := ⟨1, 18446744073709551615, 0, 0, 0, 0, 0⟩) 1 (.int .u64 18446744073709551615) rfl).put1 (j := ⟨1, 18446744073709551615, 18446744073709551615, 0, 0, 0, 0⟩) 2 (.int .u64 18446744073709551615) rfl).put1 (j := ⟨1, 18446744073709551615, 18446744073709551615, 18446744073709551615, 0, 0, 0⟩) 3 (.int .u64 18446744073709551615) rfl).put1 (j := anyI) 4 (.int .u64 18446744073709551615) rfl
    have h8 := h7.ends
    simp only [World.size_setCell] at h8
    rw [HX2.out]
    exact h8
  · have HX2 : Hid (atomF (n + 1) s p = ([⟨4, 0, 0, 0, 0, 0, 0⟩], q)) := Lib.hid (by rw [HXc.out]; simp)
    clear HXc
    have k_g : ∀ o, w2.cell? ⟨G, o, none⟩ = (#[.int .i64 1, .int .u64 0, .int .u64 0, .int .u64 0, .int .u64 0, .int .i64 0, .int .i64 0] : Array Value)[o]? := HC2.out.gb.cell
    have f_g := HC2.out.gb.free
    go_wp2_with fail
    go_ret
    have h7 := HC2.out.put1 (j := ⟨4, 0, 0, 0, 0, 0, 0⟩) 0 (.int .i64 4) rfl
    have h8 := h7.ends
    simp only [World.size_setCell] at h8
    rw [HX2.out]
    exact h8
  · have HX2 : Hid (atomF (n + 1) s p = ([⟨5, 0, 0, 0, 0, 0, 0⟩], q)) := Lib.hid (by rw [HXc.out]; simp)
    clear HXc
    have k_g : ∀ o, w2.cell? ⟨G, o, none⟩ = (#[.int .i64 1, .int .u64 0, .int .u64 0, .int .u64 0, .int .u64 0, .int .i64 0, .int .i64 0] : Array Value)[o]? := HC2.out.gb.cell
    have f_g := HC2.out.gb.free
    go_wp2_with fail
    go_ret
    have h7 := HC2.out.put1 (j := ⟨5, 0, 0, 0, 0, 0, 0⟩) 0 (.int .i64 5) rfl
    have h8 := h7.ends
    simp only [World.size_setCell] at h8
    rw [HX2.out]
    exact h8
  · have HX2 : Hid (atomF (n + 1) s p = ([hasI charI (nextP s q).1], (nextP s q).2)) := Lib.hid (by rw [HXc.out]; simp)
    clear HXc
    go_wp2_with fail
    refine (next_any (s := s) (p := q) HC2.out.pb (by omega) (by omega)).mono ?_
    rintro e w3 ⟨rfl, he, hb⟩
    have HC3 := Lib.hid (HC2.out.exP he hb)
    have hnt2 := next_lt s q
    clear he hb HC2
    generalize nextP s q = z at *
    obtain ⟨d, y⟩ := z
    simp only at HC3 hnt2 HX2
    go_wp2_with fail
    refine (has_bit (c := d) HC3.out.gb hnt2).mono ?_
    rintro e w4 ⟨rfl, he, hg⟩
    have HC4 := Lib.hid (HC3.out.exG he hg)
    clear he hg HC3
    generalize hasI charI d = i at *
    have k_g := HC4.out.cellsG
    go_wp2_with fail
    go_ret
    rw [HX2.out]
    exact HC4.out.ends
  · have q1 : ((c : Int) == 40) = false := by simp; omega
    have q2 : ((c : Int) == 91) = false := by simp; omega
    have q3 : ((c : Int) == 46) = false := by simp; omega
    have q4 : ((c : Int) == 94) = false := by simp; omega
    have q5 : ((c : Int) == 36) = false := by simp; omega
    have q6 : ((c : Int) == 92) = false := by simp; omega
    have HX2 : Hid (atomF (n + 1) s p = if barred c then ([charI], failP q 3) else ([hasI charI c], q)) := Lib.hid (by rw [HXc.out, if_neg (by omega), if_neg h2, if_neg h3, if_neg h4, if_neg h5, if_neg h6])
    have HBI := Lib.hid (barred_ix c hnt)
    clear HXc h1 h2 h3 h4 h5 h6
    go_wp2_with fail
    refine (Try.strings_IndexByte _ _ _).mono ?_
    rintro e w3 ⟨rfl, rfl⟩
    have HB2 : Hid (decide (0 ≤ Lib.indexByte (⟨#[41, 42, 43, 63, 124]⟩ : ByteArray).data.toList (c : Int).toNat.toUInt8) = barred c) := HBI
    generalize Lib.indexByte (⟨#[41, 42, 43, 63, 124]⟩ : ByteArray).data.toList (c : Int).toNat.toUInt8 = ix at *
    clear HBI
    generalize barred c = bb at *
    cases bb
    · have hix : decide (0 ≤ ix) = false := HB2.out
      have hix2 : ¬ (0 ≤ ix) := by simpa using hix
      rw [if_neg (by simp)] at HX2
      go_wp2_with fail
      refine (has_bit (c := c) HC2.out.gb hnt).mono ?_
      rintro e w4 ⟨rfl, he, hg⟩
      have HC4 := Lib.hid (HC2.out.exG he hg)
      clear he hg
      generalize hasI charI c = i at *
      have k_g := HC4.out.cellsG
      go_wp2_with fail
      go_ret
      rw [HX2.out]
      exact HC4.out.ends
    · have hix : decide (0 ≤ ix) = true := HB2.out
      have hix2 : 0 ≤ ix := by simpa using hix
      rw [if_pos rfl] at HX2
      go_wp2_with fail
      refine (fails_any (s := s) (p := q) (n := 3) HC2.out.pb).mono ?_
      rintro e w4 ⟨rfl, he, hb⟩
      have HC4 := Lib.hid (HC2.out.exP he hb)
      clear he hb
      generalize charI = i at *
      have k_g := HC4.out.cellsG
      go_wp2_with fail
      go_ret
      rw [HX2.out]
      exact HC4.out.ends

end Go.Proofs.Ytiplipdigabidaa
