/- regex.pattern, row, piece, atom, group: what each does, where those that it calls do theirs. -/
import Derived.Test.YtiplipdigabidaaGreatReg3
import Derived.Test.YtiplipdigabidaaGreatReg4
import Derived.Deep.Cut
import Derived.Deep.CutRange
import Derived.Deep.LoopGhost
import Derived.Test.YtiplipdigabidaaGreatMatSpec
import Derived.RegionTactic

set_option linter.unusedVariables false
set_option linter.unusedSimpArgs false
namespace Go.Proofs.YtiplipdigabidaaGreat
open Go.ChangeShapes Go.WideShapes Go.ChangeAt Go.RowKit

def patF (n : Nat) (s : ByteArray) (p : PS) : List Ins × PS := patR s n p
def rowF (n : Nat) (s : ByteArray) (p : PS) : List Ins × PS := rowR s n p []
def pieceF (n : Nat) (s : ByteArray) (p : PS) : List Ins × PS := pieceR s n p
def atomF (n : Nat) (s : ByteArray) (p : PS) : List Ins × PS := atomR s n p
/-- What a call of the parser hands back: steps of its own; the parser has moved. -/
def PE (P : Nat) (s : ByteArray) (w w' : World) (r : List Ins × PS) (e : Ending) : Prop :=
  (∃ A c, e = .returned (.slice A r.1.length c) ∧ OwnR InsR 166 w' w.heap.size 0 (.slice A r.1.length c) r.1) ∧ Exc P w w' ∧ Blk w' P (psA s r.2)
/-- A parser's state that may be. -/
structure OkP (s : ByteArray) (p : PS) : Prop where
  at_ : p.at_ ≤ s.size
  deep : p.deep ≤ 20
def PCall (F : FuncId) (f : ByteArray → PS → List Ins × PS) (s : ByteArray) (ok : PS → Prop) : Prop :=
  ∀ (w : World) (P : Nat) (p : PS), Blk w P (psA s p) → OkP s p → ok p → Calls Tryz.prog F #[.pointer (some ⟨P, 0, none⟩)] w fun e w' => PE P s w w' (f s p) e
theorem OkP.less {s : ByteArray} {d : Nat} {p q : PS} (h : OkP s p) (k : Less s d p q) : OkP s q := ⟨k.at_ h.at_, by rw [k.deep]; exact h.deep⟩
theorem made_len {s : ByteArray} {d : Nat} {p : PS} {r : List Ins × PS} (h : Made s d p r) (hs : s.size ≤ 1000) : r.1.length ≤ 2000 := by
  have := h.len
  have := rem_le s p
  omega
/-- Behind a call that only writes the parser and new memory. -/
theorem own_exc {w w' : World} {base P : Nat} {v : Value} {xs : List Ins} (h : OwnR InsR 166 w base 0 v xs) (he : Exc P w w') (hP : P < base) : OwnR InsR 166 w' base 0 v xs := h.exc he hP
theorem ends_of {s : ByteArray} {p : PS} {c : Nat} (h : isP s p c = true) : remP s p ≠ 0 := by
  have := is_ends h
  rw [ends_rem] at this
  simpa using this
theorem exc_new {P : Nat} {a b : World} (h : Below a.heap.size a b) (hP : P < a.heap.size) : Exc P a b := Exc.of (Nat.le_of_lt hP) h
theorem rl_exc {w w' : World} {B P : Nat} {xs : List Ins} {A : Option Addr} (h : RL InsR w B xs A) (he : Below P w w') (hB : B ≤ P) : RL InsR w' B xs A := h.keep he hB

set_option maxRecDepth 100000 in
set_option maxHeartbeats 1000000 in
theorem pattern_step {s : ByteArray} (hs : s.size ≤ 1000) (n m : Nat) (hrow : PCall 167 (rowF n) s (fun p => remP s p ≤ m)) (hpat : PCall 154 (patF n) s (fun p => remP s p < m)) :
    PCall 154 (patF (n + 1)) s (fun p => remP s p ≤ m) := by
  intro w P p hb hok hm
  have hlt := hb.lt
  have HOK := Lib.hid hok
  have HB := Lib.hid hb
  have HROW := Lib.hid hrow
  have HPAT := Lib.hid hpat
  clear hb hok hrow hpat
  go_enter Tryz.func154, Tryz.ntmps154
  go_wp2_with fail
  refine (HROW.out w P p HB.out HOK.out hm).mono ?_
  rintro e w1 ⟨⟨A, c, rfl, ho⟩, he, hb⟩
  have HR : Hid (Less s 0 p (rowF n s p).2 ∧ (rowF n s p).1.length + 2 * remP s (rowF n s p).2 ≤ 0 + 2 * remP s p) := Lib.hid (row_made s n p [])
  have hl1 : (rowF n s p).1.length ≤ 2000 := by have := HR.out.2; have := rem_le s p; omega
  have HX : Hid (patF (n + 1) s p = if isP s (rowF n s p).2 124 = true then (eitherL (rowF n s p).1 (patF n s (rowF n s p).2.step).1, (patF n s (rowF n s p).2.step).2) else rowF n s p) := Lib.hid rfl
  generalize rowF n s p = r at *
  obtain ⟨l1, q⟩ := r
  simp only at ho hb hl1 HX
  have HO1 := Lib.hid ho
  have HE1 := Lib.hid he
  have HB1 := Lib.hid hb
  have HOK1 : Hid (OkP s q) := Lib.hid (HOK.out.less HR.out.1)
  have hq := HOK1.out.at_
  have hle : remP s q ≤ remP s p := HR.out.1.le
  clear ho he hb HR
  go_wp2_with fail
  refine (is_any (s := s) (p := q) (c := 124) HB1.out (by omega) (by omega)).mono ?_
  rintro e w2 ⟨rfl, hb⟩
  have hle2 := HE1.out.1.size
  have HB2 := Lib.hid (HB1.out.later hb)
  have HE2 := Lib.hid (HE1.out.then (Nat.le_of_lt hlt) hb)
  have HO2 := Lib.hid (HO1.out.later hb (Nat.zero_le _))
  have hlt2 : P < w2.heap.size := by have := HE2.out.1.size; omega
  clear hb HB1 HO1 HE1
  rcases Bool.eq_false_or_eq_true (isP s q 124) with hi | hi
  · have hst := Less.byte hi
    have hrem : remP s q.step < m := by have := hst.lt (ends_of hi); omega
    have HOK3 : Hid (OkP s q.step) := Lib.hid (HOK1.out.less hst)
    rw [hi, if_pos rfl] at HX
    rw [hi]
    clear hi hst
    have k_p : ∀ o, w2.cell? ⟨P, o, none⟩ = (#[.string s, .int .i64 q.at_, .int .i64 q.deep, .int .i64 q.e] : Array Value)[o]? := HB2.out.cell
    have f_p := HB2.out.free
    go_wp2_with fail
    have HB3 := Lib.hid (stepped HB2.out)
    have HE3 := Lib.hid (HE2.out.set 1 (.int .i64 ((q.at_ : Int) + 1)))
    have HO3 := Lib.hid (HO2.out.far (c := P) (i := 1) hlt (Nat.zero_le _) (.int .i64 ((q.at_ : Int) + 1)))
    generalize w2.setCell _ _ = w3 at *
    clear k_p f_p HB2 HE2 HO2
    refine (HPAT.out w3 P q.step HB3.out HOK3.out hrem).mono ?_
    rintro e w4 ⟨⟨A2, c2, rfl, ho⟩, he, hb⟩
    have hl2 : (patF n s q.step).1.length ≤ 2000 := made_len (pat_made s n q.step) hs
    generalize patF n s q.step = r at *
    obtain ⟨l2, q2⟩ := r
    simp only at ho hl2 hb HX ⊢
    have hsz3 := HE3.out.1.size
    have HO4 := Lib.hid (own_exc HO3.out he hlt)
    have HS4 := Lib.hid ho
    have HB4 := Lib.hid hb
    have HE4 := Lib.hid (HE3.out.trans he)
    have hsz4 := he.1.size
    clear ho he hb HO3 HE3 HB3
    go_wp2_with fail
    refine (either_any (B := w4.heap.size) (HO4.out.rows (by omega)) (HS4.out.rows (by omega)) (Nat.le_refl _) (by omega) (by omega)).mono ?_
    rintro e w5 ⟨⟨A3, c3, rfl, ho⟩, hb⟩
    have HE5 := Lib.hid (HE4.out.then (Nat.le_of_lt hlt) hb)
    have HB5 := Lib.hid (HB4.out.later hb)
    have HO5 := Lib.hid (ho.low (b0 := w.heap.size) (by have := HE4.out.1.size; omega))
    clear ho hb
    go_wp2_with fail
    go_ret
    rw [HX.out]
    exact ⟨⟨A3, c3, rfl, HO5.out⟩, HE5.out, HB5.out⟩
  · rw [hi, if_neg (by simp)] at HX
    rw [hi]
    clear hi
    go_wp2_with fail
    go_ret
    rw [HX.out]
    exact ⟨⟨A, c, rfl, HO2.out⟩, HE2.out, HB2.out⟩

def groupF (n : Nat) (s : ByteArray) (p : PS) : List Ins × PS :=
  if p.deep = 20 then ([], failP p 4)
  else
    let q := patF n s ⟨p.at_, p.deep + 1, p.e⟩
    let z := nextP s q.2
    let f := if z.1 ≠ 41 then failP z.2 3 else z.2
    (q.1, ⟨f.at_, f.deep - 1, f.e⟩)
theorem group_made (s : ByteArray) (n : Nat) (p : PS) : Less s 0 p (groupF n s p).2 := by
  unfold groupF
  split
  · exact (Less.refl s p).fail (by decide)
  · simp only
    have h3 : Made s 0 ⟨p.at_, p.deep + 1, p.e⟩ (patF n s ⟨p.at_, p.deep + 1, p.e⟩) := pat_made s n _
    generalize patF n s ⟨p.at_, p.deep + 1, p.e⟩ = q at *
    have h4 := next_less s q.2
    have hf : Less s 0 q.2 (if (nextP s q.2).1 ≠ 41 then failP (nextP s q.2).2 3 else (nextP s q.2).2) := by
      split
      · exact (h4.fail (by decide)).zero
      · exact h4.zero
    generalize (if (nextP s q.2).1 ≠ 41 then failP (nextP s q.2).2 3 else (nextP s q.2).2) = f at *
    have h5 := h3.less.trans hf
    have hd : f.deep = p.deep + 1 := h5.deep
    refine ⟨.inl ?_, ?_, h5.at_, h5.up⟩
    · have := h5.le
      exact this
    · show f.deep - 1 = p.deep
      omega

set_option maxRecDepth 100000 in
set_option maxHeartbeats 1000000 in
theorem group_step {s : ByteArray} (hs : s.size ≤ 1000) (n m : Nat) (hpat : PCall 154 (patF n) s (fun p => remP s p ≤ m)) :
    PCall 175 (groupF n) s (fun p => remP s p ≤ m) := by
  intro w P p hb hok hm
  have hlt := hb.lt
  have HOK := Lib.hid hok
  have HB := Lib.hid hb
  have HPAT := Lib.hid hpat
  have hat := hok.at_
  have hdp := hok.deep
  clear hb hok hpat
  by_cases h20 : p.deep = 20
  · have HX : Hid (groupF n s p = ([], failP p 4)) := Lib.hid (by unfold groupF; rw [if_pos h20])
    have k_p : ∀ o, w.cell? ⟨P, o, none⟩ = (#[.string s, .int .i64 p.at_, .int .i64 p.deep, .int .i64 p.e] : Array Value)[o]? := HB.out.cell
    have hq : ((p.deep : Int) == 20) = true := by simp; omega
    clear h20
    go_enter Tryz.func175, Tryz.ntmps175
    go_wp2_with fail
    refine (fails_any (s := s) (p := p) (n := 4) HB.out).mono ?_
    rintro e w1 ⟨rfl, he, hb⟩
    have HE := Lib.hid he
    have HB1 := Lib.hid hb
    clear he hb k_p
    go_wp2_with fail
    go_ret
    rw [HX.out]
    exact ⟨⟨none, 0, rfl, OwnR.nil _ _ _ _ _⟩, HE.out, HB1.out⟩
  · have HX : Hid (groupF n s p = ((patF n s ⟨p.at_, p.deep + 1, p.e⟩).1, ⟨(if (nextP s (patF n s ⟨p.at_, p.deep + 1, p.e⟩).2).1 ≠ 41 then failP (nextP s (patF n s ⟨p.at_, p.deep + 1, p.e⟩).2).2 3 else (nextP s (patF n s ⟨p.at_, p.deep + 1, p.e⟩).2).2).at_, (if (nextP s (patF n s ⟨p.at_, p.deep + 1, p.e⟩).2).1 ≠ 41 then failP (nextP s (patF n s ⟨p.at_, p.deep + 1, p.e⟩).2).2 3 else (nextP s (patF n s ⟨p.at_, p.deep + 1, p.e⟩).2).2).deep - 1, (if (nextP s (patF n s ⟨p.at_, p.deep + 1, p.e⟩).2).1 ≠ 41 then failP (nextP s (patF n s ⟨p.at_, p.deep + 1, p.e⟩).2).2 3 else (nextP s (patF n s ⟨p.at_, p.deep + 1, p.e⟩).2).2).e⟩)) := Lib.hid (by unfold groupF; rw [if_neg h20])
    have k_p : ∀ o, w.cell? ⟨P, o, none⟩ = (#[.string s, .int .i64 p.at_, .int .i64 p.deep, .int .i64 p.e] : Array Value)[o]? := HB.out.cell
    have f_p := HB.out.free
    have hq : ((p.deep : Int) == 20) = false := by simp; omega
    have hwd : wrap64 ((p.deep : Int) + 1) = (p.deep : Int) + 1 := wrap_id (by omega) (by omega)
    have hdp2 : p.deep < 20 := by omega
    clear h20
    go_enter Tryz.func175, Tryz.ntmps175
    go_wp2_with fail
    have HB1 : Hid (Blk (w.setCell ⟨P, 2, none⟩ (.int .i64 ((p.deep : Int) + 1))) P (psA s ⟨p.at_, p.deep + 1, p.e⟩)) := Lib.hid (HB.out.set_ 2 _)
    have HE1 := Lib.hid ((Exc.refl P w).set 2 (.int .i64 ((p.deep : Int) + 1)))
    generalize w.setCell _ _ = w1 at *
    clear k_p f_p hq hwd
    refine (HPAT.out w1 P ⟨p.at_, p.deep + 1, p.e⟩ HB1.out ⟨hat, hdp2⟩ hm).mono ?_
    rintro e w2 ⟨⟨A, c, rfl, ho⟩, he, hb⟩
    have HM : Hid (Made s 0 ⟨p.at_, p.deep + 1, p.e⟩ (patF n s ⟨p.at_, p.deep + 1, p.e⟩)) := Lib.hid (pat_made s n _)
    generalize patF n s ⟨p.at_, p.deep + 1, p.e⟩ = r at *
    obtain ⟨l, q⟩ := r
    simp only at ho hb HX
    have hdq : q.deep = p.deep + 1 := HM.out.less.deep
    have hatq : q.at_ ≤ s.size := HM.out.less.at_ hat
    have HB2 := Lib.hid hb
    have HE2 := Lib.hid (HE1.out.trans he)
    have HO2 := Lib.hid (ho.low (b0 := w.heap.size) HE1.out.1.size)
    clear ho hb he HB1 HE1 HM
    go_wp2_with fail
    refine (next_any (s := s) (p := q) HB2.out (by omega) (by omega)).mono ?_
    rintro e w3 ⟨rfl, he, hb⟩
    have hnl := next_less s q
    have hdz : (nextP s q).2.deep = q.deep := hnl.deep
    have HB3 := Lib.hid hb
    have HE3 := Lib.hid (HE2.out.trans he)
    have HO3 := Lib.hid (own_exc HO2.out he hlt)
    clear hb he HB2 HE2 HO2 hnl
    generalize nextP s q = z at *
    obtain ⟨c1, z⟩ := z
    simp only at hdz HB3 HX
    by_cases h41 : c1 = 41
    · have hq : ((c1 : Int) != 41) = false := by rw [h41]; rfl
      rw [if_neg (by simp [h41])] at HX
      have hdz1 : (z.deep : Int) - 1 = ((z.deep - 1 : Nat) : Int) := by omega
      have hwd : wrap64 (((z.deep - 1 : Nat) : Int)) = ((z.deep - 1 : Nat) : Int) := wrap_id (by omega) (by omega)
      have k_p : ∀ o, w3.cell? ⟨P, o, none⟩ = (#[.string s, .int .i64 z.at_, .int .i64 z.deep, .int .i64 z.e] : Array Value)[o]? := HB3.out.cell
      have f_p := HB3.out.free
      clear h41 hdq hdz
      go_wp2_with fail
      go_ret
      rw [HX.out]
      exact ⟨⟨A, c, rfl, HO3.out.far hlt (Nat.zero_le _) _⟩, HE3.out.set 2 _, HB3.out.set_ 2 _⟩
    · have hq : ((c1 : Int) != 41) = true := by simp; omega
      rw [if_pos h41] at HX
      clear h41
      go_wp2_with fail
      refine (fails_any (s := s) (p := z) (n := 3) HB3.out).mono ?_
      rintro e w4 ⟨rfl, he, hb⟩
      have HB4 := Lib.hid hb
      have HE4 := Lib.hid (HE3.out.trans he)
      have HO4 := Lib.hid (own_exc HO3.out he hlt)
      have hdz2 : (failP z 3).deep = z.deep := fail_deep _ _
      clear hb he HB3 HE3 HO3 hq
      generalize failP z 3 = y at *
      have hdz1 : (y.deep : Int) - 1 = ((y.deep - 1 : Nat) : Int) := by omega
      have hwd : wrap64 (((y.deep - 1 : Nat) : Int)) = ((y.deep - 1 : Nat) : Int) := wrap_id (by omega) (by omega)
      have k_p : ∀ o, w4.cell? ⟨P, o, none⟩ = (#[.string s, .int .i64 y.at_, .int .i64 y.deep, .int .i64 y.e] : Array Value)[o]? := HB4.out.cell
      have f_p := HB4.out.free
      clear hdz2 hdz hdq
      go_wp2_with fail
      go_ret
      rw [HX.out]
      exact ⟨⟨A, c, rfl, HO4.out.far hlt (Nat.zero_le _) _⟩, HE4.out.set 2 _, HB4.out.set_ 2 _⟩

end Go.Proofs.YtiplipdigabidaaGreat

/- regex.atom. -/
set_option linter.unusedVariables false
set_option linter.unusedSimpArgs false
namespace Go.Proofs.YtiplipdigabidaaGreat
open Go.ChangeShapes Go.WideShapes Go.ChangeAt Go.RowKit

/-- What holds in atom: the parser, the step under way. -/
structure AS (P G : Nat) (s : ByteArray) (w0 w : World) (p : PS) (i : Ins) : Prop where
  pb : Blk w P (psA s p)
  gb : Blk w G (inA i)
  ex : Exc P w0 w
  hP : P < w0.heap.size
  hG : w0.heap.size ≤ G
section
variable {P G : Nat} {s : ByteArray} {w0 w w' : World} {p q : PS} {i j : Ins}
theorem AS.later (h : AS P G s w0 w p i) (hb : Below w.heap.size w w') : AS P G s w0 w' p i :=
  ⟨h.pb.later hb, h.gb.later hb, h.ex.then (Nat.le_of_lt h.hP) hb, h.hP, h.hG⟩
theorem AS.exP (h : AS P G s w0 w p i) (he : Exc P w w') (hp : Blk w' P (psA s q)) : AS P G s w0 w' q i :=
  ⟨hp, he.blk (by have := h.hP; have := h.hG; omega) h.gb, h.ex.trans he, h.hP, h.hG⟩
theorem AS.exG (h : AS P G s w0 w p i) (he : Exc G w w') (hg : Blk w' G (inA j)) : AS P G s w0 w' p j :=
  ⟨he.blk (by have := h.hP; have := h.hG; omega) h.pb, hg, h.ex.fresh he h.hP h.hG, h.hP, h.hG⟩
theorem AS.cellsG (h : AS P G s w0 w p i) : ∀ o, w.cell? ⟨G, o, none⟩ = (#[.int .i64 i.kind, .int .u64 i.a, .int .u64 i.b, .int .u64 i.c, .int .u64 i.d, .int .i64 i.x, .int .i64 i.y] : Array Value)[o]? := h.gb.cell
theorem AS.cellsP (h : AS P G s w0 w p i) : ∀ o, w.cell? ⟨P, o, none⟩ = (#[.string s, .int .i64 p.at_, .int .i64 p.deep, .int .i64 p.e] : Array Value)[o]? := h.pb.cell
/-- The end: the step alone, in a slice of one's own. -/
theorem AS.ends (h : AS P G s w0 w p i) : PE P s w0 (w.alloc (.cells #[.int .i64 i.kind, .int .u64 i.a, .int .u64 i.b, .int .u64 i.c, .int .u64 i.d, .int .i64 i.x, .int .i64 i.y] 166)) ([i], p) (.returned (.slice (some ⟨w.heap.size, 0, none⟩) 1 1)) := by
  have hb := below_new (w := w) (o := .cells #[.int .i64 i.kind, .int .u64 i.a, .int .u64 i.b, .int .u64 i.c, .int .u64 i.d, .int .i64 i.x, .int .i64 i.y] 166) rfl
  exact ⟨⟨_, 1, rfl, ins_new (w := w) (i := i) (o := .cells #[.int .i64 i.kind, .int .u64 i.a, .int .u64 i.b, .int .u64 i.c, .int .u64 i.d, .int .i64 i.x, .int .i64 i.y] 166) rfl rfl h.ex.1.size⟩, (h.later hb).ex, h.pb.later hb⟩
theorem AS.put1 (h : AS P G s w0 w p i) (n : Nat) (v : Value) (hj : inA j = (inA i).setIfInBounds n v) : AS P G s w0 (w.setCell ⟨G, n, none⟩ v) p j :=
  h.exG ((Exc.refl G w).set n v) (by rw [hj]; exact h.gb.set_ n v)
end
theorem PE.size {P : Nat} {s : ByteArray} {w w' : World} {r : List Ins × PS} {e : Ending} (h : PE P s w w' r e) : w.heap.size ≤ w'.heap.size := h.2.1.1.size
theorem OwnE.low {P : Nat} {s : ByteArray} {w0 w w' : World} {r : List Ins × PS} {e : Ending} (h : PE P s w w' r e) (h0 : Exc P w0 w) : PE P s w0 w' r e := by
  obtain ⟨⟨A, c, e1, ho⟩, he, hb⟩ := h
  exact ⟨⟨A, c, e1, ho.low h0.1.size⟩, h0.trans he, hb⟩
theorem barred_ix (c : Nat) (hc : c < 256) : decide (0 ≤ Lib.indexByte [41, 42, 43, 63, 124] ((c : Int).toNat.toUInt8)) = barred c := by
  have key : ∀ c : Fin 256, decide (0 ≤ Lib.indexByte [41, 42, 43, 63, 124] (((c.val : Nat) : Int).toNat.toUInt8)) = barred c.val := by decide +kernel
  exact key ⟨c, hc⟩
theorem atom_of {s : ByteArray} {n : Nat} {p q : PS} {c : Nat} (h : nextP s p = (c, q)) : atomF (n + 1) s p =
    if c = 40 ∧ q.e = 0 then groupF n s q
    else if c = 91 then ([(classP s q).1], (classP s q).2)
    else if c = 46 then ([anyI], q)
    else if c = 94 then ([⟨4, 0, 0, 0, 0, 0, 0⟩], q)
    else if c = 36 then ([⟨5, 0, 0, 0, 0, 0, 0⟩], q)
    else if c = 92 then ([hasI charI (nextP s q).1], (nextP s q).2)
    else if barred c then ([charI], failP q 3)
    else ([hasI charI c], q) := by
  unfold atomF atomR groupF patF
  rw [h]
theorem next_40 {s : ByteArray} {p q : PS} {c : Nat} (h : nextP s p = (c, q)) (hc : c ≠ 0) : q.e = 0 := by
  unfold nextP at h
  split at h
  · simp only [Prod.mk.injEq] at h; omega
  · rename_i he
    simp only [Prod.mk.injEq] at h
    have := next_at (s := s) (p := p) (by simpa using he)
    rw [← h.2]
    exact this.1

set_option maxRecDepth 100000 in
set_option maxHeartbeats 2000000 in
theorem atom_step {s : ByteArray} (hs : s.size ≤ 1000) (n m : Nat) (hgr : PCall 175 (groupF n) s (fun p => remP s p < m)) :
    PCall 173 (atomF (n + 1)) s (fun p => remP s p ≤ m ∧ remP s p ≠ 0) := by
  intro w P p hb hok hm
  have hlt := hb.lt
  have hat := hok.at_
  have HB0 := Lib.hid hb
  have HGR := Lib.hid hgr
  have HOK := Lib.hid hok
  obtain ⟨hm, hne⟩ := hm
  clear hb hok hgr
  go_enter Tryz.func173, Tryz.ntmps173
  go_wp2_with fail
  generalize hW : World.alloc _ _ = w1
  obtain ⟨hb, hz⟩ := al1 hW
  have HC1 : Hid (AS P w.heap.size s w w1 p charI) := Lib.hid ⟨HB0.out.later hb, n11 hW, Exc.of (Nat.le_of_lt hlt) hb, hlt, Nat.le_refl _⟩
  clear hW hz hb HB0
  generalize w.heap.size = G at *
  refine (next_any (s := s) (p := p) HC1.out.pb (by omega) (by omega)).mono ?_
  rintro e w2 ⟨rfl, he, hb⟩
  have HC2 := Lib.hid (HC1.out.exP he hb)
  have hnl := next_less s p
  have hnt := next_lt s p
  have hrem : remP s (nextP s p).2 < m := by have := hnl.lt hne; omega
  clear he hb HC1
  have HX : ∀ c q, nextP s p = (c, q) → _ := fun c q h => atom_of (n := n) h
  generalize hN : nextP s p = z at *
  obtain ⟨c, q⟩ := z
  have HXc := Lib.hid (HX c q rfl)
  have h40 : Hid (c ≠ 0 → q.e = 0) := Lib.hid (next_40 hN)
  have HOK2 := Lib.hid (HOK.out.less hnl)
  simp only at HC2 hnt hrem HOK2
  have hat2 := HOK2.out.at_
  clear HX hN hnl
  have hcases : c = 40 ∨ c = 91 ∨ c = 46 ∨ c = 94 ∨ c = 36 ∨ c = 92 ∨ (c ≠ 40 ∧ c ≠ 91 ∧ c ≠ 46 ∧ c ≠ 94 ∧ c ≠ 36 ∧ c ≠ 92) := by omega
  rcases hcases with rfl | rfl | rfl | rfl | rfl | rfl | ⟨h1, h2, h3, h4, h5, h6⟩
  · have hq0 := h40.out (by omega)
    have HX2 : Hid (atomF (n + 1) s p = groupF n s q) := Lib.hid (by rw [HXc.out, if_pos ⟨rfl, hq0⟩])
    have k_p := HC2.out.cellsP
    have hqe : ((q.e : Int) == 0) = true := by rw [hq0]; rfl
    clear hq0 HXc
    go_wp2_with fail
    refine (HGR.out w2 P q HC2.out.pb HOK2.out hrem).mono ?_
    rintro e w3 hpe
    have HPE := Lib.hid (OwnE.low hpe HC2.out.ex)
    clear hpe k_p hqe
    obtain ⟨⟨A, c2, rfl, ho⟩, he, hb⟩ := HPE.out
    clear ho he hb
    go_wp2_with fail
    go_ret
    rw [HX2.out]
    exact HPE.out
  · have HX2 : Hid (atomF (n + 1) s p = ([(classP s q).1], (classP s q).2)) := Lib.hid (by rw [HXc.out]; simp)
    clear HXc
    go_wp2_with fail
    refine (class_any (s := s) (p := q) HC2.out.pb (by omega) hat2).mono ?_
    rintro e w3 ⟨rfl, he, hb⟩
    have HC3 := Lib.hid (HC2.out.exP he hb)
    clear he hb HC2
    generalize classP s q = z at *
    obtain ⟨i, y⟩ := z
    simp only at HC3
    have k_g : ∀ o, w3.cell? ⟨G, o, none⟩ = (#[.int .i64 1, .int .u64 0, .int .u64 0, .int .u64 0, .int .u64 0, .int .i64 0, .int .i64 0] : Array Value)[o]? := HC3.out.gb.cell
    have f_g := HC3.out.gb.free
    unfold insC
    go_wp2_with fail
    go_ret
    have h7 := ((((((HC3.out.put1 (j := ⟨i.kind, 0, 0, 0, 0, 0, 0⟩) 0 (.int .i64 i.kind) rfl).put1 (j := ⟨i.kind, i.a, 0, 0, 0, 0, 0⟩) 1 (.int .u64 i.a) rfl).put1 (j := ⟨i.kind, i.a, i.b, 0, 0, 0, 0⟩) 2 (.int .u64 i.b) rfl).put1 (j := ⟨i.kind, i.a, i.b, i.c, 0, 0, 0⟩) 3 (.int .u64 i.c) rfl).put1 (j := ⟨i.kind, i.a, i.b, i.c, i.d, 0, 0⟩) 4 (.int .u64 i.d) rfl).put1 (j := ⟨i.kind, i.a, i.b, i.c, i.d, i.x, 0⟩) 5 (.int .i64 i.x) rfl).put1 (j := ⟨i.kind, i.a, i.b, i.c, i.d, i.x, i.y⟩) 6 (.int .i64 i.y) rfl
    have h8 := h7.ends
    simp only [World.size_setCell] at h8
    rw [HX2.out]
    exact h8
  · have HX2 : Hid (atomF (n + 1) s p = ([anyI], q)) := Lib.hid (by rw [HXc.out]; simp)
    clear HXc
    have k_g : ∀ o, w2.cell? ⟨G, o, none⟩ = (#[.int .i64 1, .int .u64 0, .int .u64 0, .int .u64 0, .int .u64 0, .int .i64 0, .int .i64 0] : Array Value)[o]? := HC2.out.gb.cell
    have f_g := HC2.out.gb.free
    go_wp2_with fail
    go_ret
    have h7 := (((HC2.out.put1 (j := ⟨1, 18446744073709551615, 0, 0, 0, 0, 0⟩) 1 (.int .u64 18446744073709551615) rfl).put1 (j := ⟨1, 18446744073709551615, 18446744073709551615, 0, 0, 0, 0⟩) 2 (.int .u64 18446744073709551615) rfl).put1 (j := ⟨1, 18446744073709551615, 18446744073709551615, 18446744073709551615, 0, 0, 0⟩) 3 (.int .u64 18446744073709551615) rfl).put1 (j := anyI) 4 (.int .u64 18446744073709551615) rfl
    have h8 := h7.ends
    simp only [World.size_setCell] at h8
    rw [HX2.out]
    exact h8
  · have HX2 : Hid (atomF (n + 1) s p = ([⟨4, 0, 0, 0, 0, 0, 0⟩], q)) := Lib.hid (by rw [HXc.out]; simp)
    clear HXc
    have k_g : ∀ o, w2.cell? ⟨G, o, none⟩ = (#[.int .i64 1, .int .u64 0, .int .u64 0, .int .u64 0, .int .u64 0, .int .i64 0, .int .i64 0] : Array Value)[o]? := HC2.out.gb.cell
    have f_g := HC2.out.gb.free
    go_wp2_with fail
    go_ret
    have h7 := HC2.out.put1 (j := ⟨4, 0, 0, 0, 0, 0, 0⟩) 0 (.int .i64 4) rfl
    have h8 := h7.ends
    simp only [World.size_setCell] at h8
    rw [HX2.out]
    exact h8
  · have HX2 : Hid (atomF (n + 1) s p = ([⟨5, 0, 0, 0, 0, 0, 0⟩], q)) := Lib.hid (by rw [HXc.out]; simp)
    clear HXc
    have k_g : ∀ o, w2.cell? ⟨G, o, none⟩ = (#[.int .i64 1, .int .u64 0, .int .u64 0, .int .u64 0, .int .u64 0, .int .i64 0, .int .i64 0] : Array Value)[o]? := HC2.out.gb.cell
    have f_g := HC2.out.gb.free
    go_wp2_with fail
    go_ret
    have h7 := HC2.out.put1 (j := ⟨5, 0, 0, 0, 0, 0, 0⟩) 0 (.int .i64 5) rfl
    have h8 := h7.ends
    simp only [World.size_setCell] at h8
    rw [HX2.out]
    exact h8
  · have HX2 : Hid (atomF (n + 1) s p = ([hasI charI (nextP s q).1], (nextP s q).2)) := Lib.hid (by rw [HXc.out]; simp)
    clear HXc
    go_wp2_with fail
    refine (next_any (s := s) (p := q) HC2.out.pb (by omega) (by omega)).mono ?_
    rintro e w3 ⟨rfl, he, hb⟩
    have HC3 := Lib.hid (HC2.out.exP he hb)
    have hnt2 := next_lt s q
    clear he hb HC2
    generalize nextP s q = z at *
    obtain ⟨d, y⟩ := z
    simp only at HC3 hnt2 HX2
    go_wp2_with fail
    refine (has_bit (c := d) HC3.out.gb hnt2).mono ?_
    rintro e w4 ⟨rfl, he, hg⟩
    have HC4 := Lib.hid (HC3.out.exG he hg)
    clear he hg HC3
    generalize hasI charI d = i at *
    have k_g := HC4.out.cellsG
    go_wp2_with fail
    go_ret
    rw [HX2.out]
    exact HC4.out.ends
  · have q1 : ((c : Int) == 40) = false := by simp; omega
    have q2 : ((c : Int) == 91) = false := by simp; omega
    have q3 : ((c : Int) == 46) = false := by simp; omega
    have q4 : ((c : Int) == 94) = false := by simp; omega
    have q5 : ((c : Int) == 36) = false := by simp; omega
    have q6 : ((c : Int) == 92) = false := by simp; omega
    have HX2 : Hid (atomF (n + 1) s p = if barred c then ([charI], failP q 3) else ([hasI charI c], q)) := Lib.hid (by rw [HXc.out, if_neg (by omega), if_neg h2, if_neg h3, if_neg h4, if_neg h5, if_neg h6])
    have HBI := Lib.hid (barred_ix c hnt)
    clear HXc h1 h2 h3 h4 h5 h6
    go_wp2_with fail
    refine (Tryz.strings_IndexByte _ _ _).mono ?_
    rintro e w3 ⟨rfl, rfl⟩
    have HB2 : Hid (decide (0 ≤ Lib.indexByte (⟨#[41, 42, 43, 63, 124]⟩ : ByteArray).data.toList (c : Int).toNat.toUInt8) = barred c) := HBI
    generalize Lib.indexByte (⟨#[41, 42, 43, 63, 124]⟩ : ByteArray).data.toList (c : Int).toNat.toUInt8 = ix at *
    clear HBI
    generalize barred c = bb at *
    cases bb
    · have hix : decide (0 ≤ ix) = false := HB2.out
      have hix2 : ¬ (0 ≤ ix) := by simpa using hix
      rw [if_neg (by simp)] at HX2
      go_wp2_with fail
      refine (has_bit (c := c) HC2.out.gb hnt).mono ?_
      rintro e w4 ⟨rfl, he, hg⟩
      have HC4 := Lib.hid (HC2.out.exG he hg)
      clear he hg
      generalize hasI charI c = i at *
      have k_g := HC4.out.cellsG
      go_wp2_with fail
      go_ret
      rw [HX2.out]
      exact HC4.out.ends
    · have hix : decide (0 ≤ ix) = true := HB2.out
      have hix2 : 0 ≤ ix := by simpa using hix
      rw [if_pos rfl] at HX2
      go_wp2_with fail
      refine (fails_any (s := s) (p := q) (n := 3) HC2.out.pb).mono ?_
      rintro e w4 ⟨rfl, he, hb⟩
      have HC4 := Lib.hid (HC2.out.exP he hb)
      clear he hb
      generalize charI = i at *
      have k_g := HC4.out.cellsG
      go_wp2_with fail
      go_ret
      rw [HX2.out]
      exact HC4.out.ends

end Go.Proofs.YtiplipdigabidaaGreat

/- regex.piece, row; the whole parser; Compile. -/
set_option linter.unusedVariables false
set_option linter.unusedSimpArgs false
namespace Go.Proofs.YtiplipdigabidaaGreat
open Go.ChangeShapes Go.WideShapes Go.ChangeAt Go.RowKit

theorem moved_n {B c L : Nat} {l : List Ins} {A : Option Addr} {k0 : Int} {w : World} (hL : l.length = L) (hl : RL InsR w B l A) (hB : B ≤ w.heap.size) (hn : L ≤ 1000000) :
    Calls Tryz.prog 172 #[.slice A L c, .int .i64 k0] w fun e w' => (∃ A c, e = .returned (.slice A L c) ∧ OwnR InsR 166 w' w.heap.size 0 (.slice A L c) (movedL l k0)) ∧ Below w.heap.size w w' := by
  subst hL
  refine (moved_any (c := c) (k0 := k0) hl hB hn).mono ?_
  rintro e w' ⟨⟨A, c, rfl, ho⟩, hb⟩
  rw [moved_length] at ho ⊢
  exact ⟨⟨A, c, rfl, ho⟩, hb⟩
theorem piece_of {s : ByteArray} {n : Nat} {p q : PS} {l : List Ins} (h : atomF n s p = (l, q)) : pieceF (n + 1) s p =
    if isP s q 42 then ([splitI 1 (l.length + 2)] ++ movedL l 1 ++ [jumpI 0], q.step)
    else if isP s q 43 then (l ++ [splitI 0 (l.length + 1)], q.step)
    else if isP s q 63 then ([splitI 1 (l.length + 1)] ++ movedL l 1, q.step)
    else (l, q) := by
  unfold pieceF pieceR
  unfold atomF at h
  rw [h]
theorem is_byte {s : ByteArray} {p : PS} {c d : Nat} (h : isP s p c = true) (hd : d ≠ c) : isP s p d = false := by
  unfold isP at h ⊢
  rw [Bool.and_eq_true, decide_eq_true_eq] at h
  rw [h.1, h.2]
  simp; omega
/-- The parser goes on by a byte; all else stays. -/
structure PSt (P : Nat) (s : ByteArray) (w0 w : World) (p : PS) (l : List Ins) (v : Value) : Prop where
  pb : Blk w P (psA s p)
  ex : Exc P w0 w
  own : OwnR InsR 166 w w0.heap.size 0 v l
  hP : P < w0.heap.size
theorem PSt.later {P : Nat} {s : ByteArray} {w0 w w' : World} {p : PS} {l : List Ins} {v : Value} (h : PSt P s w0 w p l v) (hb : Below w.heap.size w w') : PSt P s w0 w' p l v :=
  ⟨h.pb.later hb, h.ex.then (Nat.le_of_lt h.hP) hb, h.own.later hb (Nat.zero_le _), h.hP⟩
theorem PSt.step {P : Nat} {s : ByteArray} {w0 w : World} {p : PS} {l : List Ins} {v : Value} (h : PSt P s w0 w p l v) : PSt P s w0 (w.setCell ⟨P, 1, none⟩ (.int .i64 ((p.at_ : Int) + 1))) p.step l v :=
  ⟨stepped h.pb, h.ex.set 1 _, h.own.far h.hP (Nat.zero_le _) _, h.hP⟩
/-- Behind an append. -/
theorem PSt.to {P : Nat} {s : ByteArray} {w0 w w' : World} {p : PS} {l l' : List Ins} {v v' : Value} (h : PSt P s w0 w p l v) (hb : Below w0.heap.size w w') (ho : OwnR InsR 166 w' w0.heap.size 0 v' l') : PSt P s w0 w' p l' v' :=
  ⟨h.pb.keep hb h.hP, h.ex.own hb (Nat.le_refl _) h.hP, ho, h.hP⟩
theorem PSt.cells {P : Nat} {s : ByteArray} {w0 w : World} {p : PS} {l : List Ins} {v : Value} (h : PSt P s w0 w p l v) : ∀ o, w.cell? ⟨P, o, none⟩ = (#[.string s, .int .i64 p.at_, .int .i64 p.deep, .int .i64 p.e] : Array Value)[o]? := h.pb.cell
theorem PSt.pe {P : Nat} {s : ByteArray} {w0 w : World} {p : PS} {l : List Ins} {A : Option Addr} {n c : Nat} (h : PSt P s w0 w p l (.slice A n c)) : PE P s w0 w (l, p) (.returned (.slice A n c)) := by
  obtain ⟨A', c', e⟩ := h.own.form
  simp only [Value.slice.injEq] at e
  obtain ⟨rfl, rfl, rfl⟩ := e
  exact ⟨⟨_, _, rfl, h.own⟩, h.ex, h.pb⟩

set_option maxRecDepth 100000 in
set_option maxHeartbeats 2000000 in
theorem piece_step {s : ByteArray} (hs : s.size ≤ 1000) (n m : Nat) (hn : 1 ≤ n) (hat : PCall 173 (atomF n) s (fun p => remP s p ≤ m ∧ remP s p ≠ 0)) :
    PCall 171 (pieceF (n + 1)) s (fun p => remP s p ≤ m ∧ remP s p ≠ 0) := by
  obtain ⟨i0, hi0, hz0, hz1, hz2⟩ := info_parts infoIn
  intro w P p hb hok hm
  have hlt := hb.lt
  have HB := Lib.hid hb
  have HAT := Lib.hid hat
  have HOK := Lib.hid hok
  have HM := Lib.hid hm
  clear hb hok hat hm
  go_enter Tryz.func171, Tryz.ntmps171
  go_wp2_with fail
  refine (HAT.out w P p HB.out HOK.out HM.out).mono ?_
  rintro e w1 ⟨⟨A, c, rfl, ho⟩, he, hb⟩
  have hmd : Made s 1 p (atomF n s p) := atom_made s n p HM.out.2 hn
  have hl : (atomF n s p).1.length ≤ 2000 := made_len hmd hs
  have hok2 := HOK.out.less hmd.less
  have HX : ∀ l q, atomF n s p = (l, q) → _ := fun l q h => piece_of h
  generalize atomF n s p = r at *
  obtain ⟨l, q⟩ := r
  have HXc := Lib.hid (HX l q rfl)
  simp only at ho hb hl hok2
  have hq := hok2.at_
  have HS1 := Lib.hid (PSt.mk hb he ho hlt)
  clear ho he hb HX hmd hok2 HB
  generalize hLL : l.length = L at *
  have HLL := Lib.hid hLL
  clear hLL
  go_wp2_with fail
  refine (is_any (s := s) (p := q) (c := 42) HS1.out.pb (by omega) (by omega)).mono ?_
  rintro e w2 ⟨rfl, hb⟩
  have HS2 := Lib.hid (HS1.out.later hb)
  clear hb HS1
  have hcases : isP s q 42 = true ∨ isP s q 42 = false ∧ isP s q 43 = true ∨ isP s q 42 = false ∧ isP s q 43 = false ∧ isP s q 63 = true ∨ isP s q 42 = false ∧ isP s q 43 = false ∧ isP s q 63 = false := by
    cases isP s q 42 <;> cases isP s q 43 <;> cases isP s q 63 <;> simp
  rcases hcases with h1 | ⟨h1, h2⟩ | ⟨h1, h2, h3⟩ | ⟨h1, h2, h3⟩
  · have HX2 : Hid (pieceF (n + 1) s p = ([splitI 1 (L + 2)] ++ movedL l 1 ++ [jumpI 0], q.step)) := Lib.hid (by rw [HXc.out, h1]; rfl)
    obtain ⟨hq1, _⟩ := is_lt h1
    rw [h1]
    clear HXc h1
    go_wp2_with fail
    generalize hW : World.alloc _ _ = w3
    obtain ⟨hb, hz⟩ := al1 hW
    have HN3 := Lib.hid (ins_new (i := splitI 1 (L + 2)) (base := w.heap.size) hW rfl HS2.out.ex.1.size)
    have HS3 := Lib.hid (HS2.out.later hb)
    clear hW hz hb HS2
    refine (moved_n (B := w3.heap.size) (c := c) (k0 := 1) HLL.out (HS3.out.own.rows (by rw [HLL.out]; omega)) (Nat.le_refl _) (by omega)).mono ?_
    rintro e w4 ⟨⟨A3, c3, rfl, ho⟩, hb⟩
    have HN4 := Lib.hid (HN3.out.later hb (Nat.zero_le _))
    have HS4 := Lib.hid (HS3.out.later hb)
    have HM4 := Lib.hid ho.srcn
    have hle4 := HS4.out.ex.1.size
    clear ho hb HN3 HS3
    go_upto_region 6 with ((
      at_builtin
      refine wpList_append_R (R := InsR) (e := 166) (base := w.heap.size) (B := 0) (xs := [splitI 1 (L + 2)]) (ys := movedL l 1) rfl (.tmp 16) (.tmp 18) 139 rfl (bytes := 56) Tryz.underlying139 hi0 hz0 hz1 hz2 rfl (show 0 < 7 by omega) single_in rfl HN4.out rfl HM4.out ((moved_length l 1).trans HLL.out).symm (Nat.zero_le _) (by rw [moved_length, HLL.out]; simp only [List.length_cons, List.length_nil]; omega) (by omega) (hle4) ?_
      intro v w5 hown hb
      obtain ⟨A4, c4, rfl⟩ := hown.form' (show _ = L + 1 by rw [List.length_append, moved_length, HLL.out]; simp; omega)
      have HOW := Lib.hid hown
      have HBW := Lib.hid hb
      clear hown hb))
    have HS5 := Lib.hid (HS4.out.to HBW.out HOW.out)
    have HJ5 := Lib.hid (And.intro (HS5.out.own.later (below_new (w := w5) (o := .cells #[.int .i64 3, .int .u64 0, .int .u64 0, .int .u64 0, .int .u64 0, .int .i64 0, .int .i64 0] 166) rfl) (Nat.zero_le _)) (OwnR.src (xs := [jumpI 0]) (ins_new (w := w5) (i := jumpI 0) (base := w.heap.size) (o := .cells #[.int .i64 3, .int .u64 0, .int .u64 0, .int .u64 0, .int .u64 0, .int .i64 0, .int .i64 0] 166) rfl rfl HS5.out.ex.1.size)))
    clear HOW HBW HS4 HN4 HM4
    go_wp2_with ((
      at_builtin
      refine wpList_append_R (R := InsR) (e := 166) (base := w.heap.size) (B := 0) (xs := [splitI 1 (L + 2)] ++ movedL l 1) (ys := [jumpI 0]) rfl (.tmp 20) (.tmp 22) 139 rfl (bytes := 56) Tryz.underlying139 hi0 hz0 hz1 hz2 rfl (show 0 < 7 by omega) single_in rfl HJ5.out.1 rfl HJ5.out.2 rfl (Nat.zero_le _) (by rw [List.length_append, moved_length, HLL.out]; simp only [List.length_cons, List.length_nil]; omega) (by omega) ((by rw [World.size_alloc]; have := HS5.out.ex.1.size; omega)) ?_
      intro v w6 hown hb
      obtain ⟨A5, c5, rfl⟩ := hown.form' (show _ = L + 2 by rw [List.length_append, List.length_append, moved_length, HLL.out]; simp; omega)
      have HOW := Lib.hid hown
      have HBW := Lib.hid hb
      clear hown hb
      have HS6 := Lib.hid ((HS5.out.later (below_new (w := w5) (o := .cells #[.int .i64 3, .int .u64 0, .int .u64 0, .int .u64 0, .int .u64 0, .int .i64 0, .int .i64 0] 166) rfl)).to HBW.out HOW.out)
      have k_p := HS6.out.cells
      have f_p := HS6.out.pb.free))
    go_ret
    rw [HX2.out]
    exact HS6.out.step.pe
  · have HX2 : Hid (pieceF (n + 1) s p = (l ++ [splitI 0 (L + 1)], q.step)) := Lib.hid (by rw [HXc.out, h1, h2]; rfl)
    obtain ⟨hq1, _⟩ := is_lt h2
    rw [h1]
    clear HXc h1
    go_wp2_with fail
    refine (is_any (s := s) (p := q) (c := 43) HS2.out.pb (by omega) (by omega)).mono ?_
    rintro e w3 ⟨rfl, hb⟩
    have HS3 := Lib.hid (HS2.out.later hb)
    clear hb HS2
    rw [h2]
    clear h2
    have HJ3 := Lib.hid (And.intro (HS3.out.own.later (below_new (w := w3) (o := .cells #[.int .i64 2, .int .u64 0, .int .u64 0, .int .u64 0, .int .u64 0, .int .i64 0, .int .i64 ((L : Int) + 1)] 166) rfl) (Nat.zero_le _)) (OwnR.src (xs := [splitI 0 (L + 1)]) (ins_new (w := w3) (i := splitI 0 (L + 1)) (base := w.heap.size) (o := .cells #[.int .i64 2, .int .u64 0, .int .u64 0, .int .u64 0, .int .u64 0, .int .i64 0, .int .i64 ((L : Int) + 1)] 166) rfl rfl HS3.out.ex.1.size)))
    go_wp2_with ((
      at_builtin
      refine wpList_append_R (R := InsR) (e := 166) (base := w.heap.size) (B := 0) (xs := l) (ys := [splitI 0 (L + 1)]) rfl (.tmp 27) (.tmp 31) 139 rfl (bytes := 56) Tryz.underlying139 hi0 hz0 hz1 hz2 rfl (show 0 < 7 by omega) single_in rfl HJ3.out.1 rfl HJ3.out.2 rfl (Nat.zero_le _) (by rw [HLL.out]; simp only [List.length_cons, List.length_nil]; omega) (by omega) ((by rw [World.size_alloc]; have := HS3.out.ex.1.size; omega)) ?_
      intro v w6 hown hb
      obtain ⟨A5, c5, rfl⟩ := hown.form' (show _ = L + 1 by rw [List.length_append, HLL.out]; rfl)
      have HOW := Lib.hid hown
      have HBW := Lib.hid hb
      clear hown hb
      have HS6 := Lib.hid ((HS3.out.later (below_new (w := w3) (o := .cells #[.int .i64 2, .int .u64 0, .int .u64 0, .int .u64 0, .int .u64 0, .int .i64 0, .int .i64 ((L : Int) + 1)] 166) rfl)).to HBW.out HOW.out)
      have k_p := HS6.out.cells
      have f_p := HS6.out.pb.free))
    go_ret
    rw [HX2.out]
    exact HS6.out.step.pe
  · have HX2 : Hid (pieceF (n + 1) s p = ([splitI 1 (L + 1)] ++ movedL l 1, q.step)) := Lib.hid (by rw [HXc.out, h1, h2, h3]; rfl)
    obtain ⟨hq1, _⟩ := is_lt h3
    rw [h1]
    clear HXc h1
    go_wp2_with fail
    refine (is_any (s := s) (p := q) (c := 43) HS2.out.pb (by omega) (by omega)).mono ?_
    rintro e w3 ⟨rfl, hb⟩
    have HS3 := Lib.hid (HS2.out.later hb)
    clear hb HS2
    rw [h2]
    clear h2
    go_wp2_with fail
    refine (is_any (s := s) (p := q) (c := 63) HS3.out.pb (by omega) (by omega)).mono ?_
    rintro e w4 ⟨rfl, hb⟩
    have HS4 := Lib.hid (HS3.out.later hb)
    clear hb HS3
    rw [h3]
    clear h3
    go_wp2_with fail
    generalize hW : World.alloc _ _ = w5
    obtain ⟨hb, hz⟩ := al1 hW
    have HN5 := Lib.hid (ins_new (i := splitI 1 (L + 1)) (base := w.heap.size) hW rfl HS4.out.ex.1.size)
    have HS5 := Lib.hid (HS4.out.later hb)
    clear hW hz hb HS4
    refine (moved_n (B := w5.heap.size) (c := c) (k0 := 1) HLL.out (HS5.out.own.rows (by rw [HLL.out]; omega)) (Nat.le_refl _) (by omega)).mono ?_
    rintro e w6 ⟨⟨A3, c3, rfl, ho⟩, hb⟩
    have HN6 := Lib.hid (HN5.out.later hb (Nat.zero_le _))
    have HS6 := Lib.hid (HS5.out.later hb)
    have HM6 := Lib.hid ho.srcn
    have hle6 := HS6.out.ex.1.size
    clear ho hb HN5 HS5
    go_wp2_with ((
      at_builtin
      refine wpList_append_R (R := InsR) (e := 166) (base := w.heap.size) (B := 0) (xs := [splitI 1 (L + 1)]) (ys := movedL l 1) rfl (.tmp 39) (.tmp 41) 139 rfl (bytes := 56) Tryz.underlying139 hi0 hz0 hz1 hz2 rfl (show 0 < 7 by omega) single_in rfl HN6.out rfl HM6.out ((moved_length l 1).trans HLL.out).symm (Nat.zero_le _) (by rw [moved_length, HLL.out]; simp only [List.length_cons, List.length_nil]; omega) (by omega) (hle6) ?_
      intro v w7 hown hb
      obtain ⟨A4, c4, rfl⟩ := hown.form' (show _ = L + 1 by rw [List.length_append, moved_length, HLL.out]; simp; omega)
      have HOW := Lib.hid hown
      have HBW := Lib.hid hb
      clear hown hb
      have HS7 := Lib.hid (HS6.out.to HBW.out HOW.out)
      have k_p := HS7.out.cells
      have f_p := HS7.out.pb.free))
    go_ret
    rw [HX2.out]
    exact HS7.out.step.pe
  · have HX2 : Hid (pieceF (n + 1) s p = (l, q)) := Lib.hid (by rw [HXc.out, h1, h2, h3]; rfl)
    rw [h1]
    clear HXc h1
    go_wp2_with fail
    refine (is_any (s := s) (p := q) (c := 43) HS2.out.pb (by omega) (by omega)).mono ?_
    rintro e w3 ⟨rfl, hb⟩
    have HS3 := Lib.hid (HS2.out.later hb)
    clear hb HS2
    rw [h2]
    clear h2
    go_wp2_with fail
    refine (is_any (s := s) (p := q) (c := 63) HS3.out.pb (by omega) (by omega)).mono ?_
    rintro e w4 ⟨rfl, hb⟩
    have HS4 := Lib.hid (HS3.out.later hb)
    clear hb HS3
    rw [h3]
    clear h3
    go_wp2_with fail
    go_ret
    rw [HX2.out]
    exact HS4.out.pe

end Go.Proofs.YtiplipdigabidaaGreat

/- regex.row; the whole parser; Compile. -/
set_option linter.unusedVariables false
set_option linter.unusedSimpArgs false
namespace Go.Proofs.YtiplipdigabidaaGreat
open Go.ChangeShapes Go.WideShapes Go.ChangeAt Go.RowKit

theorem rowR_stop {s : ByteArray} {n : Nat} {p : PS} {out : List Ins} (h : (!endsP s p && (!isP s p 124 && !isP s p 41)) = false) : rowR s n p out = (out, p) := by
  cases n with
  | zero => rfl
  | succ n => unfold rowR; rw [h]; rfl
theorem rowR_go {s : ByteArray} {n : Nat} {p : PS} {out : List Ins} (h : (!endsP s p && (!isP s p 124 && !isP s p 41)) = true) : rowR s (n + 1) p out = rowR s n (pieceF n s p).2 (out ++ movedL (pieceF n s p).1 out.length) := by
  show (if (!endsP s p && (!isP s p 124 && !isP s p 41)) = true then _ else _) = _
  rw [h]
  rfl

set_option maxRecDepth 100000 in
set_option maxHeartbeats 2000000 in
theorem row_step {s : ByteArray} (hs : s.size ≤ 1000) (n m : Nat) (hn : 4 * m + 1 ≤ n) (hpc : ∀ r, r ≤ m → ∀ g, 4 * r ≤ g → 1 ≤ r → PCall 171 (pieceF g) s (fun p => remP s p ≤ r ∧ remP s p ≠ 0)) :
    PCall 167 (rowF n) s (fun p => remP s p ≤ m) := by
  obtain ⟨i0, hi0, hz0, hz1, hz2⟩ := info_parts infoIn
  intro w P p hb hok hm
  have hlt := hb.lt
  have HB := Lib.hid hb
  have HPC := Lib.hid hpc
  have HOK := Lib.hid hok
  have hrs := rem_le s p
  clear hb hok hpc
  go_enter Tryz.func167, Tryz.ntmps167
  go_wp2_with fail
  go_loopg [3] n (fun g v3 wr => ∃ (p1 : PS) (out : List Ins) (A : Option Addr) (L c : Nat), v3 = .slice A L c ∧ Hid (out.length = L) ∧ Hid (rowR s g p1 out = rowF n s p) ∧ 4 * remP s p1 + 1 ≤ g ∧ remP s p1 ≤ m ∧ Hid (OkP s p1) ∧ L + 2 * remP s p1 ≤ 2000 ∧ Hid (PSt P s w wr p1 out (.slice A L c)))
  case atStart => exact ⟨p, [], none, 0, 0, rfl, Lib.hid rfl, Lib.hid rfl, by omega, hm, HOK, by omega, Lib.hid ⟨HB.out, Exc.refl _ _, OwnR.nil _ _ _ _ _, hlt⟩⟩
  case round =>
    obtain ⟨p1, out, A, L, c, rfl, HL, HE, hg, hr1, HOK1, hlen, HS⟩ := hrel
    have hat1 := HOK1.out.at_
    rcases Bool.eq_false_or_eq_true (!endsP s p1 && (!isP s p1 124 && !isP s p1 41)) with hc | hc
    · obtain ⟨g, rfl⟩ : ∃ g, gk = g + 1 := ⟨gk - 1, by omega⟩
      have HE2 : Hid (rowR s g (pieceF g s p1).2 (out ++ movedL (pieceF g s p1).1 L) = rowF n s p) := Lib.hid (by rw [← HE.out, rowR_go hc, HL.out])
      have hc2 : endsP s p1 = false ∧ isP s p1 124 = false ∧ isP s p1 41 = false := by
        revert hc
        cases endsP s p1 <;> cases isP s p1 124 <;> cases isP s p1 41 <;> simp
      obtain ⟨h1, h2, h3⟩ := hc2
      have hne : remP s p1 ≠ 0 := by
        rw [ends_rem] at h1
        simpa using h1
      clear hc HE
      go_wp2_with fail
      refine (ends_any (s := s) (p := p1) HS.out.pb (by omega) (by omega)).mono ?_
      rintro e w3 ⟨rfl, hb⟩
      have HS3 := Lib.hid (HS.out.later hb)
      clear hb
      rw [h1]
      clear h1
      go_wp2_with fail
      refine (is_any (s := s) (p := p1) (c := 124) HS3.out.pb (by omega) (by omega)).mono ?_
      rintro e w4 ⟨rfl, hb⟩
      have HS4 := Lib.hid (HS3.out.later hb)
      clear hb HS3
      rw [h2]
      clear h2
      go_wp2_with fail
      refine (is_any (s := s) (p := p1) (c := 41) HS4.out.pb (by omega) (by omega)).mono ?_
      rintro e w5 ⟨rfl, hb⟩
      have HS5 := Lib.hid (HS4.out.later hb)
      clear hb HS4
      rw [h3]
      clear h3
      go_wp2_with fail
      refine (HPC.out (remP s p1) hr1 g (by omega) (by omega) w5 P p1 HS5.out.pb HOK1.out ⟨Nat.le_refl _, hne⟩).mono ?_
      rintro e w6 ⟨⟨A2, c2, rfl, ho⟩, he, hb⟩
      have hmd : Made s 1 p1 (pieceF g s p1) := piece_made s g p1 hne (by omega)
      have hok2 := HOK1.out.less hmd.less
      have hrem2 := hmd.one hne
      have hlen2 := hmd.len
      have hl2 := made_len hmd hs
      generalize pieceF g s p1 = r at *
      obtain ⟨l, q⟩ := r
      simp only at ho hb hok2 hrem2 hlen2 hl2 HE2
      have HS6 := Lib.hid (PSt.mk (l := out) hb (HS5.out.ex.trans he) (own_exc HS5.out.own he hlt) hlt)
      have HO6 := Lib.hid (ho.rows (by omega))
      have HOK6 := Lib.hid hok2
      generalize hL2 : l.length = L2 at *
      have HL2 := Lib.hid hL2
      clear ho he hb hmd hok2 hL2 HS5
      go_wp2_with fail
      refine (moved_n (B := w6.heap.size) (c := c2) (k0 := L) HL2.out HO6.out (Nat.le_refl _) (by omega)).mono ?_
      rintro e w7 ⟨⟨A3, c3, rfl, ho⟩, hb⟩
      have HS7 := Lib.hid (HS6.out.later hb)
      have HM7 := Lib.hid ho.srcn
      have hle7 := HS7.out.ex.1.size
      clear ho hb HS6
      go_wp2_with ((
        at_builtin
        refine wpList_append_R (R := InsR) (e := 166) (base := w.heap.size) (B := 0) (xs := out) (ys := movedL l L) rfl (.tmp 20) (.tmp 25) 139 rfl (bytes := 56) Tryz.underlying139 hi0 hz0 hz1 hz2 rfl (show 0 < 7 by omega) single_in rfl HS7.out.own rfl HM7.out ((moved_length l L).trans HL2.out).symm (Nat.zero_le _) (by rw [moved_length, HL2.out, HL.out]; omega) (by omega) (hle7) ?_
        intro v w8 hown hb
        obtain ⟨A4, c4, rfl⟩ := hown.form' (show _ = L + L2 by rw [List.length_append, moved_length, HL2.out, HL.out])
        have HOW := Lib.hid hown
        have HBW := Lib.hid hb
        clear hown hb))
      go_roundg g
      case rel => exact ⟨q, out ++ movedL l L, A4, L + L2, c4, rfl, Lib.hid (by rw [List.length_append, moved_length, HL2.out, HL.out]), HE2, by omega, by omega, HOK6, by omega, Lib.hid (HS7.out.to HBW.out HOW.out)⟩
      case measure => omega
    · have HX : Hid (rowF n s p = (out, p1)) := Lib.hid (by rw [← HE.out, rowR_stop hc])
      have hc2 : endsP s p1 = true ∨ endsP s p1 = false ∧ isP s p1 124 = true ∨ endsP s p1 = false ∧ isP s p1 124 = false ∧ isP s p1 41 = true := by
        revert hc
        cases endsP s p1 <;> cases isP s p1 124 <;> cases isP s p1 41 <;> simp
      clear hc HE
      rcases hc2 with h1 | ⟨h1, h2⟩ | ⟨h1, h2, h3⟩
      all_goals
        go_wp2_with fail
        refine (ends_any (s := s) (p := p1) HS.out.pb (by omega) (by omega)).mono ?_
        rintro e w3 ⟨rfl, hb⟩
        have HS3 := Lib.hid (HS.out.later hb)
        clear hb
        rw [h1]
        clear h1
        go_wp2_with fail
      · go_ret
        rw [HX.out]
        exact HS3.out.pe
      · refine (is_any (s := s) (p := p1) (c := 124) HS3.out.pb (by omega) (by omega)).mono ?_
        rintro e w4 ⟨rfl, hb⟩
        have HS4 := Lib.hid (HS3.out.later hb)
        clear hb HS3
        rw [h2]
        clear h2
        go_wp2_with fail
        go_ret
        rw [HX.out]
        exact HS4.out.pe
      · refine (is_any (s := s) (p := p1) (c := 124) HS3.out.pb (by omega) (by omega)).mono ?_
        rintro e w4 ⟨rfl, hb⟩
        have HS4 := Lib.hid (HS3.out.later hb)
        clear hb HS3
        rw [h2]
        clear h2
        go_wp2_with fail
        refine (is_any (s := s) (p := p1) (c := 41) HS4.out.pb (by omega) (by omega)).mono ?_
        rintro e w5 ⟨rfl, hb⟩
        have HS5 := Lib.hid (HS4.out.later hb)
        clear hb HS4
        rw [h3]
        clear h3
        go_wp2_with fail
        go_ret
        rw [HX.out]
        exact HS5.out.pe

theorem PCall.mono {F : FuncId} {f : ByteArray → PS → List Ins × PS} {s : ByteArray} {ok ok' : PS → Prop} (h : PCall F f s ok) (hi : ∀ p, ok' p → ok p) : PCall F f s ok' := fun w P p hb hok hp => h w P p hb hok (hi p hp)
theorem piece_all {s : ByteArray} (hs : s.size ≤ 1000) (r : Nat) (h : ∀ r', r' < r → ∀ n, 4 * r' + 2 ≤ n → PCall 154 (patF n) s (fun p => remP s p ≤ r')) (g : Nat) (hg : 4 * r ≤ g) (hr : 1 ≤ r) : PCall 171 (pieceF g) s (fun p => remP s p ≤ r ∧ remP s p ≠ 0) := by
  obtain ⟨n, rfl⟩ : ∃ n, g = n + 1 + 1 := ⟨g - 2, by omega⟩
  have hp := h (r - 1) (by omega) n (by omega)
  have hg := group_step hs n (r - 1) hp
  have ha := atom_step hs n r (hg.mono fun p hp => by omega)
  exact piece_step hs (n + 1) r (by omega) ha
theorem pattern_all {s : ByteArray} (hs : s.size ≤ 1000) (m : Nat) : ∀ n, 4 * m + 2 ≤ n → PCall 154 (patF n) s (fun p => remP s p ≤ m) := by
  induction m using Nat.strongRecOn with
  | _ m ih =>
    intro n hn
    obtain ⟨k, rfl⟩ : ∃ k, n = k + 1 := ⟨n - 1, by omega⟩
    have hrow := row_step hs k m (by omega) fun r hr g hg h1 => piece_all hs r (fun r' hr' => ih r' (by omega)) g hg h1
    refine pattern_step hs k m hrow ?_
    cases m with
    | zero => exact fun w P p _ _ hp => absurd hp (by omega)
    | succ m => exact (ih m (by omega) k (by omega)).mono fun p hp => by omega

/-- What Compile hands back. -/
def CompE (w w' : World) (r : List Ins × Int) (e : Ending) : Prop :=
  (∃ A c, e = .returned (.tuple #[.slice A r.1.length c, .int .i64 r.2]) ∧ OwnR InsR 166 w' w.heap.size 0 (.slice A r.1.length c) r.1) ∧ Below w.heap.size w w'

set_option maxRecDepth 100000 in
set_option maxHeartbeats 2000000 in
theorem compile_any {w : World} {s : ByteArray} (hs : s.size ≤ 140737488351232) :
    Calls Tryz.prog 134 #[.string s] w fun e w' => CompE w w' (compR s) e := by
  obtain ⟨i0, hi0, hz0, hz1, hz2⟩ := info_parts infoIn
  by_cases h256 : 256 < s.size
  · have HX : Hid (compR s = ([], 4)) := Lib.hid (by unfold compR; rw [if_pos h256])
    go_enter Tryz.func134, Tryz.ntmps134
    go_wp2_with fail
    go_ret2
    rw [HX.out]
    exact ⟨⟨none, 0, rfl, OwnR.nil _ _ _ _ _⟩, Below.refl _ _⟩
  · have HX : Hid (compR s = if (finP s (patF (fuelOf s.size) s ⟨0, 0, 0⟩).2).e = 0 then ((patF (fuelOf s.size) s ⟨0, 0, 0⟩).1 ++ [doneI], 0) else ([], (finP s (patF (fuelOf s.size) s ⟨0, 0, 0⟩).2).e)) := Lib.hid (by unfold compR patF; rw [if_neg h256])
    have HPA := Lib.hid (pattern_all (s := s) (by omega) s.size (fuelOf s.size) (by unfold fuelOf; omega))
    go_enter Tryz.func134, Tryz.ntmps134
    go_wp2_with fail
    generalize hW : World.alloc _ _ = w1
    obtain ⟨hb, hz⟩ := al1 hW
    have HB1 : Hid (Blk w1 w.heap.size (psA s ⟨0, 0, 0⟩)) := Lib.hid (n11 hW)
    have HBB := Lib.hid hb
    clear hW hz hb
    refine (HPA.out w1 w.heap.size ⟨0, 0, 0⟩ HB1.out ⟨Nat.zero_le _, Nat.zero_le _⟩ (rem_le _ _)).mono ?_
    rintro e w2 ⟨⟨A, c, rfl, ho⟩, he, hb⟩
    have hmd : Made s 0 ⟨0, 0, 0⟩ (patF (fuelOf s.size) s ⟨0, 0, 0⟩) := pat_made s _ _
    have hl := made_len hmd (by omega)
    have hat : (patF (fuelOf s.size) s ⟨0, 0, 0⟩).2.at_ ≤ s.size := hmd.less.at_ (Nat.zero_le _)
    generalize patF (fuelOf s.size) s ⟨0, 0, 0⟩ = r at *
    obtain ⟨l, q⟩ := r
    simp only at ho hb hl hat HX
    have HB2 := Lib.hid hb
    have HE2 : Hid (Below w.heap.size w w2) := Lib.hid (HBB.out.trans he.1)
    have HO2 := Lib.hid (ho.low (b0 := w.heap.size) HBB.out.size)
    generalize hLL : l.length = L at *
    have HLL := Lib.hid hLL
    clear ho he hb hmd hLL HB1 HPA
    go_wp2_with fail
    refine (ends_any (s := s) (p := q) HB2.out (by omega) (by omega)).mono ?_
    rintro e w3 ⟨rfl, hb⟩
    have HB3 := Lib.hid (HB2.out.later hb)
    have HE3 := Lib.hid (bthen HE2.out hb)
    have HO3 := Lib.hid (HO2.out.later hb (Nat.zero_le _))
    clear hb HB2 HE2 HO2
    rcases Bool.eq_false_or_eq_true (endsP s q) with h1 | h1
    · have HF : Hid (finP s q = q) := Lib.hid (by unfold finP; rw [if_pos h1])
      rw [HF.out] at HX
      rw [h1]
      clear h1
      by_cases hye : q.e = 0
      · rw [if_pos hye] at HX
        have hne : ((q.e : Int) != 0) = false := by rw [hye]; rfl
        have k_p : ∀ o, w3.cell? ⟨w.heap.size, o, none⟩ = (#[.string s, .int .i64 q.at_, .int .i64 q.deep, .int .i64 q.e] : Array Value)[o]? := HB3.out.cell
        clear hye
        have HJ3 := Lib.hid (And.intro (HO3.out.later (below_new (w := w3) (o := .cells #[.int .i64 6, .int .u64 0, .int .u64 0, .int .u64 0, .int .u64 0, .int .i64 0, .int .i64 0] 166) rfl) (Nat.zero_le _)) (OwnR.src (xs := [doneI]) (ins_new (w := w3) (i := doneI) (base := w.heap.size) (o := .cells #[.int .i64 6, .int .u64 0, .int .u64 0, .int .u64 0, .int .u64 0, .int .i64 0, .int .i64 0] 166) rfl rfl HE3.out.size)))
        go_wp2_with ((
          at_builtin
          refine wpList_append_R (R := InsR) (e := 166) (base := w.heap.size) (B := 0) (xs := l) (ys := [doneI]) rfl (.tmp 28) (.tmp 30) 139 rfl (bytes := 56) Tryz.underlying139 hi0 hz0 hz1 hz2 rfl (show 0 < 7 by omega) single_in rfl HJ3.out.1 rfl HJ3.out.2 rfl (Nat.zero_le _) (by rw [HLL.out]; simp only [List.length_cons, List.length_nil]; omega) (by omega) ((by rw [World.size_alloc]; have := HE3.out.size; omega)) ?_
          intro v w6 hown hb
          obtain ⟨A5, c5, rfl⟩ := hown.form' (show _ = L + 1 by rw [List.length_append, HLL.out]; rfl)
          have HOW := Lib.hid hown
          have HBW := Lib.hid hb
          clear hown hb))
        go_ret2
        have e9 : (l ++ [doneI]).length = L + 1 := by rw [List.length_append, HLL.out]; rfl
        rw [HX.out]
        refine ⟨⟨A5, c5, ?_, ?_⟩, (HE3.out.alloc HE3.out.size (.cells #[.int .i64 6, .int .u64 0, .int .u64 0, .int .u64 0, .int .u64 0, .int .i64 0, .int .i64 0] 166)).trans HBW.out⟩
        · rw [e9]; rfl
        · rw [e9]; exact HOW.out
      · have HX2 : Hid (compR s = ([], q.e)) := Lib.hid (by rw [HX.out, if_neg hye])
        have hne : ((q.e : Int) != 0) = true := by simpa using hye
        have k_p : ∀ o, w3.cell? ⟨w.heap.size, o, none⟩ = (#[.string s, .int .i64 q.at_, .int .i64 q.deep, .int .i64 q.e] : Array Value)[o]? := HB3.out.cell
        clear hye
        go_wp2_with fail
        go_region
        all_goals
          go_wp2_with fail
          go_ret2
          rw [HX2.out]
          exact ⟨⟨none, 0, rfl, OwnR.nil _ _ _ _ _⟩, HE3.out.drew⟩
    · have HF : Hid (finP s q = failP q 3) := Lib.hid (by unfold finP; rw [h1]; rfl)
      rw [HF.out] at HX
      rw [h1]
      clear h1
      go_wp2_with fail
      refine (fails_any (s := s) (p := q) (n := 3) HB3.out).mono ?_
      rintro e w4 ⟨rfl, he, hb⟩
      have hye : (failP q 3).e ≠ 0 := fail_e (by decide)
      have HX2 : Hid (compR s = ([], (failP q 3).e)) := Lib.hid (by rw [HX.out, if_neg hye])
      have HB4 := Lib.hid hb
      have HE4 : Hid (Below w.heap.size w w4) := Lib.hid (HE3.out.trans he.1)
      generalize failP q 3 = y at *
      clear he hb HF
      have hne : ((y.e : Int) != 0) = true := by simpa using hye
      have k_p : ∀ o, w4.cell? ⟨w.heap.size, o, none⟩ = (#[.string s, .int .i64 y.at_, .int .i64 y.deep, .int .i64 y.e] : Array Value)[o]? := HB4.out.cell
      clear hye
      go_wp2_with fail
      go_region
      all_goals
        go_wp2_with fail
        go_ret2
        rw [HX2.out]
        exact ⟨⟨none, 0, rfl, OwnR.nil _ _ _ _ _⟩, HE4.out.drew⟩

end Go.Proofs.YtiplipdigabidaaGreat

