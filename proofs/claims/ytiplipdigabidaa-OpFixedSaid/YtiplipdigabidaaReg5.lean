/- regex.pattern, row, piece, atom, group: what each does, where those that it calls do theirs. -/
import Derived.Test.YtiplipdigabidaaReg3
import Derived.Test.YtiplipdigabidaaReg4
import Derived.Deep.Cut
import Derived.Deep.CutRange
import Derived.Deep.LoopGhost
set_option linter.unusedVariables false
set_option linter.unusedSimpArgs false
namespace Go.Proofs.Ytiplipdigabidaa
open Go.ChangeShapes Go.WideShapes Go.ChangeAt Go.RowKit

def patF (n : Nat) (s : ByteArray) (p : PS) : List Ins × PS := patR s n p
def rowF (n : Nat) (s : ByteArray) (p : PS) : List Ins × PS := rowR s n p []
def pieceF (n : Nat) (s : ByteArray) (p : PS) : List Ins × PS := pieceR s n p
def atomF (n : Nat) (s : ByteArray) (p : PS) : List Ins × PS := atomR s n p
/-- What a call of the parser hands back: steps of its own; the parser has moved. -/
def PE (P : Nat) (s : ByteArray) (w w' : World) (r : List Ins × PS) (e : Ending) : Prop :=
  (∃ A c, e = .returned (.slice A r.1.length c) ∧ OwnR InsR 95 w' w.heap.size 0 (.slice A r.1.length c) r.1) ∧ Exc P w w' ∧ Blk w' P (psA s r.2)
/-- A parser's state that may be. -/
structure OkP (s : ByteArray) (p : PS) : Prop where
  at_ : p.at_ ≤ s.size
  deep : p.deep ≤ 20
def PCall (F : FuncId) (f : ByteArray → PS → List Ins × PS) (s : ByteArray) (ok : PS → Prop) : Prop :=
  ∀ (w : World) (P : Nat) (p : PS), Blk w P (psA s p) → OkP s p → ok p → Calls Try.prog F #[.pointer (some ⟨P, 0, none⟩)] w fun e w' => PE P s w w' (f s p) e
theorem OkP.less {s : ByteArray} {d : Nat} {p q : PS} (h : OkP s p) (k : Less s d p q) : OkP s q := ⟨k.at_ h.at_, by rw [k.deep]; exact h.deep⟩
theorem made_len {s : ByteArray} {d : Nat} {p : PS} {r : List Ins × PS} (h : Made s d p r) (hs : s.size ≤ 1000) : r.1.length ≤ 2000 := by
  have := h.len
  have := rem_le s p
  omega
/-- Behind a call that only writes the parser and new memory. -/
theorem own_exc {w w' : World} {base P : Nat} {v : Value} {xs : List Ins} (h : OwnR InsR 95 w base 0 v xs) (he : Exc P w w') (hP : P < base) : OwnR InsR 95 w' base 0 v xs := h.exc he hP
theorem ends_of {s : ByteArray} {p : PS} {c : Nat} (h : isP s p c = true) : remP s p ≠ 0 := by
  have := is_ends h
  rw [ends_rem] at this
  simpa using this
theorem exc_new {P : Nat} {a b : World} (h : Below a.heap.size a b) (hP : P < a.heap.size) : Exc P a b := Exc.of (Nat.le_of_lt hP) h
theorem rl_exc {w w' : World} {B P : Nat} {xs : List Ins} {A : Option Addr} (h : RL InsR w B xs A) (he : Below P w w') (hB : B ≤ P) : RL InsR w' B xs A := h.keep he hB

set_option maxRecDepth 100000 in
set_option maxHeartbeats 1000000 in
theorem pattern_step {s : ByteArray} (hs : s.size ≤ 1000) (n m : Nat) (hrow : PCall 84 (rowF n) s (fun p => remP s p ≤ m)) (hpat : PCall 72 (patF n) s (fun p => remP s p < m)) :
    PCall 72 (patF (n + 1)) s (fun p => remP s p ≤ m) := by
  intro w P p hb hok hm
  have hlt := hb.lt
  have HOK := Lib.hid hok
  have HB := Lib.hid hb
  have HROW := Lib.hid hrow
  have HPAT := Lib.hid hpat
  clear hb hok hrow hpat
  go_enter Try.func72, Try.ntmps72
  go_wp2_with fail
  refine (HROW.out w P p HB.out HOK.out hm).mono ?_
  rintro e w1 ⟨⟨A, c, rfl, ho⟩, he, hb⟩
  have HR : Hid (Less s 0 p (rowF n s p).2 ∧ (rowF n s p).1.length + 2 * remP s (rowF n s p).2 ≤ 0 + 2 * remP s p) := Lib.hid (row_made s n p [])
  have hl1 : (rowF n s p).1.length ≤ 2000 := by have := HR.out.2; have := rem_le s p; omega
  have HX : Hid (patF (n + 1) s p = if isP s (rowF n s p).2 124 = true then (eitherL (rowF n s p).1 (patF n s (rowF n s p).2.step).1, (patF n s (rowF n s p).2.step).2) else rowF n s p) := Lib.hid rfl
  generalize rowF n s p = r at *
  obtain ⟨l1, q⟩ := r
  simp only at ho hb hl1 HX
  have HO1 := Lib.hid ho
  have HE1 := Lib.hid he
  have HB1 := Lib.hid hb
  have HOK1 : Hid (OkP s q) := Lib.hid (HOK.out.less HR.out.1)
  have hq := HOK1.out.at_
  have hle : remP s q ≤ remP s p := HR.out.1.le
  clear ho he hb HR
  go_wp2_with fail
  refine (is_any (s := s) (p := q) (c := 124) HB1.out (by omega) (by omega)).mono ?_
  rintro e w2 ⟨rfl, hb⟩
  have hle2 := HE1.out.1.size
  have HB2 := Lib.hid (HB1.out.later hb)
  have HE2 := Lib.hid (HE1.out.then (Nat.le_of_lt hlt) hb)
  have HO2 := Lib.hid (HO1.out.later hb (Nat.zero_le _))
  have hlt2 : P < w2.heap.size := by have := HE2.out.1.size; omega
  clear hb HB1 HO1 HE1
  rcases Bool.eq_false_or_eq_true (isP s q 124) with hi | hi
  · have hst := Less.byte hi
    have hrem : remP s q.step < m := by have := hst.lt (ends_of hi); omega
    have HOK3 : Hid (OkP s q.step) := Lib.hid (HOK1.out.less hst)
    rw [hi, if_pos rfl] at HX
    rw [hi]
    clear hi hst
    have k_p : ∀ o, w2.cell? ⟨P, o, none⟩ = (#[.string s, .int .i64 q.at_, .int .i64 q.deep, .int .i64 q.e] : Array Value)[o]? := HB2.out.cell
    have f_p := HB2.out.free
    go_wp2_with fail
    have HB3 := Lib.hid (stepped HB2.out)
    have HE3 := Lib.hid (HE2.out.set 1 (.int .i64 ((q.at_ : Int) + 1)))
    have HO3 := Lib.hid (HO2.out.far (c := P) (i := 1) hlt (Nat.zero_le _) (.int .i64 ((q.at_ : Int) + 1)))
    generalize w2.setCell _ _ = w3 at *
    clear k_p f_p HB2 HE2 HO2
    refine (HPAT.out w3 P q.step HB3.out HOK3.out hrem).mono ?_
    rintro e w4 ⟨⟨A2, c2, rfl, ho⟩, he, hb⟩
    have hl2 : (patF n s q.step).1.length ≤ 2000 := made_len (pat_made s n q.step) hs
    generalize patF n s q.step = r at *
    obtain ⟨l2, q2⟩ := r
    simp only at ho hl2 hb HX ⊢
    have hsz3 := HE3.out.1.size
    have HO4 := Lib.hid (own_exc HO3.out he hlt)
    have HS4 := Lib.hid ho
    have HB4 := Lib.hid hb
    have HE4 := Lib.hid (HE3.out.trans he)
    have hsz4 := he.1.size
    clear ho he hb HO3 HE3 HB3
    go_wp2_with fail
    refine (either_any (B := w4.heap.size) (HO4.out.rows (by omega)) (HS4.out.rows (by omega)) (Nat.le_refl _) (by omega) (by omega)).mono ?_
    rintro e w5 ⟨⟨A3, c3, rfl, ho⟩, hb⟩
    have HE5 := Lib.hid (HE4.out.then (Nat.le_of_lt hlt) hb)
    have HB5 := Lib.hid (HB4.out.later hb)
    have HO5 := Lib.hid (ho.low (b0 := w.heap.size) (by have := HE4.out.1.size; omega))
    clear ho hb
    go_wp2_with fail
    go_ret
    rw [HX.out]
    exact ⟨⟨A3, c3, rfl, HO5.out⟩, HE5.out, HB5.out⟩
  · rw [hi, if_neg (by simp)] at HX
    rw [hi]
    clear hi
    go_wp2_with fail
    go_ret
    rw [HX.out]
    exact ⟨⟨A, c, rfl, HO2.out⟩, HE2.out, HB2.out⟩

def groupF (n : Nat) (s : ByteArray) (p : PS) : List Ins × PS :=
  if p.deep = 20 then ([], failP p 4)
  else
    let q := patF n s ⟨p.at_, p.deep + 1, p.e⟩
    let z := nextP s q.2
    let f := if z.1 ≠ 41 then failP z.2 3 else z.2
    (q.1, ⟨f.at_, f.deep - 1, f.e⟩)
theorem group_made (s : ByteArray) (n : Nat) (p : PS) : Less s 0 p (groupF n s p).2 := by
  unfold groupF
  split
  · exact (Less.refl s p).fail (by decide)
  · simp only
    have h3 : Made s 0 ⟨p.at_, p.deep + 1, p.e⟩ (patF n s ⟨p.at_, p.deep + 1, p.e⟩) := pat_made s n _
    generalize patF n s ⟨p.at_, p.deep + 1, p.e⟩ = q at *
    have h4 := next_less s q.2
    have hf : Less s 0 q.2 (if (nextP s q.2).1 ≠ 41 then failP (nextP s q.2).2 3 else (nextP s q.2).2) := by
      split
      · exact (h4.fail (by decide)).zero
      · exact h4.zero
    generalize (if (nextP s q.2).1 ≠ 41 then failP (nextP s q.2).2 3 else (nextP s q.2).2) = f at *
    have h5 := h3.less.trans hf
    have hd : f.deep = p.deep + 1 := h5.deep
    refine ⟨.inl ?_, ?_, h5.at_, h5.up⟩
    · have := h5.le
      exact this
    · show f.deep - 1 = p.deep
      omega

set_option maxRecDepth 100000 in
set_option maxHeartbeats 1000000 in
theorem group_step {s : ByteArray} (hs : s.size ≤ 1000) (n m : Nat) (hpat : PCall 72 (patF n) s (fun p => remP s p ≤ m)) :
    PCall 93 (groupF n) s (fun p => remP s p ≤ m) := by
  intro w P p hb hok hm
  have hlt := hb.lt
  have HOK := Lib.hid hok
  have HB := Lib.hid hb
  have HPAT := Lib.hid hpat
  have hat := hok.at_
  have hdp := hok.deep
  clear hb hok hpat
  by_cases h20 : p.deep = 20
  · have HX : Hid (groupF n s p = ([], failP p 4)) := Lib.hid (by unfold groupF; rw [if_pos h20])
    have k_p : ∀ o, w.cell? ⟨P, o, none⟩ = (#[.string s, .int .i64 p.at_, .int .i64 p.deep, .int .i64 p.e] : Array Value)[o]? := HB.out.cell
    have hq : ((p.deep : Int) == 20) = true := by simp; omega
    clear h20
    go_enter Try.func93, Try.ntmps93
    go_wp2_with fail
    refine (fails_any (s := s) (p := p) (n := 4) HB.out).mono ?_
    rintro e w1 ⟨rfl, he, hb⟩
    have HE := Lib.hid he
    have HB1 := Lib.hid hb
    clear he hb k_p
    go_wp2_with fail
    go_ret
    rw [HX.out]
    exact ⟨⟨none, 0, rfl, OwnR.nil _ _ _ _ _⟩, HE.out, HB1.out⟩
  · have HX : Hid (groupF n s p = ((patF n s ⟨p.at_, p.deep + 1, p.e⟩).1, ⟨(if (nextP s (patF n s ⟨p.at_, p.deep + 1, p.e⟩).2).1 ≠ 41 then failP (nextP s (patF n s ⟨p.at_, p.deep + 1, p.e⟩).2).2 3 else (nextP s (patF n s ⟨p.at_, p.deep + 1, p.e⟩).2).2).at_, (if (nextP s (patF n s ⟨p.at_, p.deep + 1, p.e⟩).2).1 ≠ 41 then failP (nextP s (patF n s ⟨p.at_, p.deep + 1, p.e⟩).2).2 3 else (nextP s (patF n s ⟨p.at_, p.deep + 1, p.e⟩).2).2).deep - 1, (if (nextP s (patF n s ⟨p.at_, p.deep + 1, p.e⟩).2).1 ≠ 41 then failP (nextP s (patF n s ⟨p.at_, p.deep + 1, p.e⟩).2).2 3 else (nextP s (patF n s ⟨p.at_, p.deep + 1, p.e⟩).2).2).e⟩)) := Lib.hid (by unfold groupF; rw [if_neg h20])
    have k_p : ∀ o, w.cell? ⟨P, o, none⟩ = (#[.string s, .int .i64 p.at_, .int .i64 p.deep, .int .i64 p.e] : Array Value)[o]? := HB.out.cell
    have f_p := HB.out.free
    have hq : ((p.deep : Int) == 20) = false := by simp; omega
    have hwd : wrap64 ((p.deep : Int) + 1) = (p.deep : Int) + 1 := wrap_id (by omega) (by omega)
    have hdp2 : p.deep < 20 := by omega
    clear h20
    go_enter Try.func93, Try.ntmps93
    go_wp2_with fail
    have HB1 : Hid (Blk (w.setCell ⟨P, 2, none⟩ (.int .i64 ((p.deep : Int) + 1))) P (psA s ⟨p.at_, p.deep + 1, p.e⟩)) := Lib.hid (HB.out.set_ 2 _)
    have HE1 := Lib.hid ((Exc.refl P w).set 2 (.int .i64 ((p.deep : Int) + 1)))
    generalize w.setCell _ _ = w1 at *
    clear k_p f_p hq hwd
    refine (HPAT.out w1 P ⟨p.at_, p.deep + 1, p.e⟩ HB1.out ⟨hat, hdp2⟩ hm).mono ?_
    rintro e w2 ⟨⟨A, c, rfl, ho⟩, he, hb⟩
    have HM : Hid (Made s 0 ⟨p.at_, p.deep + 1, p.e⟩ (patF n s ⟨p.at_, p.deep + 1, p.e⟩)) := Lib.hid (pat_made s n _)
    generalize patF n s ⟨p.at_, p.deep + 1, p.e⟩ = r at *
    obtain ⟨l, q⟩ := r
    simp only at ho hb HX
    have hdq : q.deep = p.deep + 1 := HM.out.less.deep
    have hatq : q.at_ ≤ s.size := HM.out.less.at_ hat
    have HB2 := Lib.hid hb
    have HE2 := Lib.hid (HE1.out.trans he)
    have HO2 := Lib.hid (ho.low (b0 := w.heap.size) HE1.out.1.size)
    clear ho hb he HB1 HE1 HM
    go_wp2_with fail
    refine (next_any (s := s) (p := q) HB2.out (by omega) (by omega)).mono ?_
    rintro e w3 ⟨rfl, he, hb⟩
    have hnl := next_less s q
    have hdz : (nextP s q).2.deep = q.deep := hnl.deep
    have HB3 := Lib.hid hb
    have HE3 := Lib.hid (HE2.out.trans he)
    have HO3 := Lib.hid (own_exc HO2.out he hlt)
    clear hb he HB2 HE2 HO2 hnl
    generalize nextP s q = z at *
    obtain ⟨c1, z⟩ := z
    simp only at hdz HB3 HX
    by_cases h41 : c1 = 41
    · have hq : ((c1 : Int) != 41) = false := by rw [h41]; rfl
      rw [if_neg (by simp [h41])] at HX
      have hdz1 : (z.deep : Int) - 1 = ((z.deep - 1 : Nat) : Int) := by omega
      have hwd : wrap64 (((z.deep - 1 : Nat) : Int)) = ((z.deep - 1 : Nat) : Int) := wrap_id (by omega) (by omega)
      have k_p : ∀ o, w3.cell? ⟨P, o, none⟩ = (#[.string s, .int .i64 z.at_, .int .i64 z.deep, .int .i64 z.e] : Array Value)[o]? := HB3.out.cell
      have f_p := HB3.out.free
      clear h41 hdq hdz
      go_wp2_with fail
      go_ret
      rw [HX.out]
      exact ⟨⟨A, c, rfl, HO3.out.far hlt (Nat.zero_le _) _⟩, HE3.out.set 2 _, HB3.out.set_ 2 _⟩
    · have hq : ((c1 : Int) != 41) = true := by simp; omega
      rw [if_pos h41] at HX
      clear h41
      go_wp2_with fail
      refine (fails_any (s := s) (p := z) (n := 3) HB3.out).mono ?_
      rintro e w4 ⟨rfl, he, hb⟩
      have HB4 := Lib.hid hb
      have HE4 := Lib.hid (HE3.out.trans he)
      have HO4 := Lib.hid (own_exc HO3.out he hlt)
      have hdz2 : (failP z 3).deep = z.deep := fail_deep _ _
      clear hb he HB3 HE3 HO3 hq
      generalize failP z 3 = y at *
      have hdz1 : (y.deep : Int) - 1 = ((y.deep - 1 : Nat) : Int) := by omega
      have hwd : wrap64 (((y.deep - 1 : Nat) : Int)) = ((y.deep - 1 : Nat) : Int) := wrap_id (by omega) (by omega)
      have k_p : ∀ o, w4.cell? ⟨P, o, none⟩ = (#[.string s, .int .i64 y.at_, .int .i64 y.deep, .int .i64 y.e] : Array Value)[o]? := HB4.out.cell
      have f_p := HB4.out.free
      clear hdz2 hdz hdq
      go_wp2_with fail
      go_ret
      rw [HX.out]
      exact ⟨⟨A, c, rfl, HO4.out.far hlt (Nat.zero_le _) _⟩, HE4.out.set 2 _, HB4.out.set_ 2 _⟩

end Go.Proofs.Ytiplipdigabidaa
