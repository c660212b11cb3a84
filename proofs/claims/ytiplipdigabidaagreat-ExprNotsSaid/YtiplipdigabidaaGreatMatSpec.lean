/- Patterns as programs: what regex.Compile computes, as functions (a mirror of the program's own steps). -/
import Derived.Test.YtiplipdigabidaaGreatOp2

set_option linter.unusedVariables false
set_option linter.unusedSimpArgs false
namespace Go.Proofs.YtiplipdigabidaaGreat
open Go.ChangeShapes Go.WideShapes Go.ChangeAt Go.RowKit

/-- A step. -/
structure Ins where
  kind : Int
  a : Int
  b : Int
  c : Int
  d : Int
  x : Int
  y : Int
def Ins.word (i : Ins) (j : Nat) : Int := if j = 0 then i.a else if j = 1 then i.b else if j = 2 then i.c else i.d
def Ins.put (i : Ins) (j : Nat) (v : Int) : Ins := if j = 0 then { i with a := v } else if j = 1 then { i with b := v } else if j = 2 then { i with c := v } else { i with d := v }
/-- A byte more in the set. -/
def hasI (i : Ins) (c : Nat) : Ins := i.put (c / 64) (bits .or .u64 (i.word (c / 64)) (IntKind.u64.wrap (1 * 2 ^ (c % 64))))
def charI : Ins := ⟨1, 0, 0, 0, 0, 0, 0⟩
def allOnes : Int := 18446744073709551615
def anyI : Ins := ⟨1, allOnes, allOnes, allOnes, allOnes, 0, 0⟩
def movedI (k : Int) (i : Ins) : Ins := if i.kind = 2 then { i with x := wrap64 (i.x + k), y := wrap64 (i.y + k) } else if i.kind = 3 then { i with x := wrap64 (i.x + k) } else i
def splitI (x y : Int) : Ins := ⟨2, 0, 0, 0, 0, x, y⟩
def jumpI (x : Int) : Ins := ⟨3, 0, 0, 0, 0, x, 0⟩
def doneI : Ins := ⟨6, 0, 0, 0, 0, 0, 0⟩
def movedL (l : List Ins) (k : Int) : List Ins := l.map (movedI k)
def eitherL (a b : List Ins) : List Ins := [splitI 1 (a.length + 2)] ++ movedL a 1 ++ [jumpI (a.length + 2 + b.length)] ++ movedL b (a.length + 2)

/-- Where the parser stands. -/
structure PS where
  at_ : Nat
  deep : Nat
  e : Int
def byteAt (s : ByteArray) (k : Nat) : Nat := ((bs s)[k]?.map UInt8.toNat).getD 0
def endsP (s : ByteArray) (p : PS) : Bool := decide (p.e ≠ 0) || decide (s.size ≤ p.at_)
def isP (s : ByteArray) (p : PS) (c : Nat) : Bool := !endsP s p && decide (byteAt s p.at_ = c)
def failP (p : PS) (e : Int) : PS := if p.e = 0 then { p with e := e } else p
def PS.step (p : PS) : PS := { p with at_ := p.at_ + 1 }
def nextP (s : ByteArray) (p : PS) : Nat × PS := if endsP s p then (0, failP p 3) else (byteAt s p.at_, p.step)
def memberP (s : ByteArray) (p : PS) : Nat × PS :=
  let r := nextP s p
  if r.1 = 92 then nextP s r.2 else r
def rangeI (i : Ins) (f t : Nat) : Ins := (List.range (t + 1 - f)).foldl (fun i k => hasI i (f + k)) i
/-- One member of a class, or a span of them. -/
def spanP (s : ByteArray) (p : PS) : (Nat × Nat) × PS :=
  let r := memberP s p
  if isP s r.2 45 && (decide (r.2.at_ + 1 < s.size) && decide (byteAt s (r.2.at_ + 1) ≠ 93)) then
    let q := memberP s r.2.step
    ((r.1, q.1), q.2)
  else ((r.1, r.1), r.2)
def classL (s : ByteArray) : Nat → PS → Ins → Ins × PS
  | 0, p, i => (i, p)
  | n + 1, p, i =>
    if !endsP s p && !isP s p 93 then
      let r := spanP s p
      classL s n (if r.1.2 < r.1.1 then failP r.2 3 else r.2) (rangeI i r.1.1 r.1.2)
    else (i, p)
def compW (v : Int) : Int := bits .xor .u64 (if IntKind.u64.signed = true then -1 else IntKind.u64.max) v
def complI (i : Ins) : Ins := ⟨i.kind, compW i.a, compW i.b, compW i.c, compW i.d, i.x, i.y⟩
def classP (s : ByteArray) (p : PS) : Ins × PS :=
  let not_ := isP s p 94
  let p1 := if not_ then p.step else p
  let p2 := if isP s p1 93 then failP p1 3 else p1
  let r := classL s (s.size + 1 - p2.at_) p2 charI
  let q := nextP s r.2
  (if not_ then complI r.1 else r.1, q.2)

def barred (c : Nat) : Bool := decide (c = 41) || decide (c = 42) || decide (c = 43) || decide (c = 63) || decide (c = 124)
mutual
def patR (s : ByteArray) : Nat → PS → List Ins × PS
  | 0, p => ([], p)
  | n + 1, p =>
    let r := rowR s n p []
    if isP s r.2 124 then
      let q := patR s n r.2.step
      (eitherL r.1 q.1, q.2)
    else r
def rowR (s : ByteArray) : Nat → PS → List Ins → List Ins × PS
  | 0, p, out => (out, p)
  | n + 1, p, out =>
    if !endsP s p && (!isP s p 124 && !isP s p 41) then
      let r := pieceR s n p
      rowR s n r.2 (out ++ movedL r.1 out.length)
    else (out, p)
def pieceR (s : ByteArray) : Nat → PS → List Ins × PS
  | 0, p => ([], p)
  | n + 1, p =>
    let r := atomR s n p
    if isP s r.2 42 then ([splitI 1 (r.1.length + 2)] ++ movedL r.1 1 ++ [jumpI 0], r.2.step)
    else if isP s r.2 43 then (r.1 ++ [splitI 0 (r.1.length + 1)], r.2.step)
    else if isP s r.2 63 then ([splitI 1 (r.1.length + 1)] ++ movedL r.1 1, r.2.step)
    else r
def atomR (s : ByteArray) : Nat → PS → List Ins × PS
  | 0, p => ([], p)
  | n + 1, p =>
    let r := nextP s p
    if r.1 = 40 ∧ r.2.e = 0 then
      if r.2.deep = 20 then ([], failP r.2 4)
      else
        let q := patR s n ⟨r.2.at_, r.2.deep + 1, r.2.e⟩
        let z := nextP s q.2
        let f := if z.1 ≠ 41 then failP z.2 3 else z.2
        (q.1, ⟨f.at_, f.deep - 1, f.e⟩)
    else if r.1 = 91 then
      let q := classP s r.2
      ([q.1], q.2)
    else if r.1 = 46 then ([anyI], r.2)
    else if r.1 = 94 then ([⟨4, 0, 0, 0, 0, 0, 0⟩], r.2)
    else if r.1 = 36 then ([⟨5, 0, 0, 0, 0, 0, 0⟩], r.2)
    else if r.1 = 92 then
      let q := nextP s r.2
      ([hasI charI q.1], q.2)
    else if barred r.1 then ([charI], failP r.2 3)
    else ([hasI charI r.1], r.2)
end
/-- How much fuel is enough at so many bytes left. -/
def fuelOf (rem : Nat) : Nat := 4 * rem + 4
/-- Behind the pattern nothing may be left. -/
def finP (s : ByteArray) (p : PS) : PS := if endsP s p then p else failP p 3
def compR (s : ByteArray) : List Ins × Int :=
  if 256 < s.size then ([], 4)
  else
    let r := patR s (fuelOf s.size) ⟨0, 0, 0⟩
    if (finP s r.2).e = 0 then (r.1 ++ [doneI], 0) else ([], (finP s r.2).e)
end Go.Proofs.YtiplipdigabidaaGreat

/- Plain laws of the patterns' spec: how much is left, how long programs are, where their steps lead. -/
set_option linter.unusedVariables false
set_option linter.unusedSimpArgs false
namespace Go.Proofs.YtiplipdigabidaaGreat
open Go.ChangeShapes Go.WideShapes Go.ChangeAt Go.RowKit

def remP (s : ByteArray) (p : PS) : Nat := if p.e = 0 then s.size - p.at_ else 0
theorem rem_le (s : ByteArray) (p : PS) : remP s p ≤ s.size := by unfold remP; split <;> omega
theorem ends_rem (s : ByteArray) (p : PS) : endsP s p = decide (remP s p = 0) := by
  unfold endsP remP
  by_cases h : p.e = 0
  · simp [h]; omega
  · simp [h]
theorem fail_rem {s : ByteArray} {p : PS} {e : Int} (he : e ≠ 0) : remP s (failP p e) = 0 := by
  unfold failP remP
  by_cases h : p.e = 0
  · simp [h, he]
  · simp [h]
theorem fail_at (p : PS) (e : Int) : (failP p e).at_ = p.at_ := by unfold failP; split <;> rfl
theorem fail_deep (p : PS) (e : Int) : (failP p e).deep = p.deep := by unfold failP; split <;> rfl
theorem fail_e {p : PS} {e : Int} (he : e ≠ 0) : (failP p e).e ≠ 0 := by unfold failP; split <;> simp_all
/-- What a step of the parser may do: less is left, or all as it was. -/
structure Less (s : ByteArray) (d : Nat) (p q : PS) : Prop where
  rem : remP s q + d ≤ remP s p ∨ d ≠ 0 ∧ remP s p = 0 ∧ remP s q = 0
  deep : q.deep = p.deep
  at_ : p.at_ ≤ s.size → q.at_ ≤ s.size
  up : p.at_ ≤ q.at_
theorem Less.refl (s : ByteArray) (p : PS) : Less s 0 p p := ⟨.inl (Nat.le_refl _), rfl, id, Nat.le_refl _⟩
theorem Less.zero {s : ByteArray} {d : Nat} {p q : PS} (h : Less s d p q) : Less s 0 p q := ⟨.inl (by rcases h.rem with h | ⟨_, h, k⟩ <;> omega), h.deep, h.at_, h.up⟩
theorem Less.le {s : ByteArray} {d : Nat} {p q : PS} (h : Less s d p q) : remP s q ≤ remP s p := by rcases h.rem with h | ⟨_, h, k⟩ <;> omega
theorem Less.trans {s : ByteArray} {p q r : PS} (h : Less s 0 p q) (k : Less s 0 q r) : Less s 0 p r := ⟨.inl (by have := h.le; have := k.le; omega), k.deep.trans h.deep, fun x => k.at_ (h.at_ x), Nat.le_trans h.up k.up⟩
theorem Less.one {s : ByteArray} {p q r : PS} (h : Less s 1 p q) (k : Less s 0 q r) : Less s 1 p r := ⟨by have := k.le; rcases h.rem with h | ⟨_, h, k⟩ <;> omega, k.deep.trans h.deep, fun x => k.at_ (h.at_ x), Nat.le_trans h.up k.up⟩
theorem Less.fail {s : ByteArray} {d : Nat} {p q : PS} {e : Int} (h : Less s d p q) (he : e ≠ 0) : Less s d p (failP q e) :=
  ⟨by rw [fail_rem he]; rcases h.rem with h | ⟨_, h, k⟩ <;> omega, by rw [fail_deep, h.deep], by rw [fail_at]; exact h.at_, by rw [fail_at]; exact h.up⟩
theorem Less.failed {s : ByteArray} {p : PS} {e : Int} (he : e ≠ 0) : Less s 1 p (failP p e) :=
  ⟨by rw [fail_rem he]; omega, by rw [fail_deep], by rw [fail_at]; exact id, by rw [fail_at]; exact Nat.le_refl _⟩
theorem Less.stepped {s : ByteArray} {p : PS} (h : endsP s p = false) : Less s 1 p p.step := by
  rw [ends_rem] at h
  have h : remP s p ≠ 0 := by simpa using h
  unfold remP at h
  refine ⟨.inl ?_, rfl, fun hx => ?_, by simp [PS.step]⟩
  · unfold remP PS.step
    split at h
    · rename_i he
      simp [he]
      omega
    · exact absurd rfl h
  · unfold PS.step
    split at h
    · simp; omega
    · exact absurd rfl h
theorem is_ends {s : ByteArray} {p : PS} {c : Nat} (h : isP s p c = true) : endsP s p = false := by
  unfold isP at h
  rw [Bool.and_eq_true] at h
  simpa using h.1
theorem Less.byte {s : ByteArray} {p : PS} {c : Nat} (h : isP s p c = true) : Less s 1 p p.step := Less.stepped (is_ends h)
theorem next_less (s : ByteArray) (p : PS) : Less s 1 p (nextP s p).2 := by
  unfold nextP
  rcases Bool.eq_false_or_eq_true (endsP s p) with h | h
  · rw [if_pos h]; exact Less.failed (by decide)
  · rw [if_neg (by rw [h]; simp)]; exact Less.stepped h
theorem byte_lt (s : ByteArray) (k : Nat) : byteAt s k < 256 := by
  unfold byteAt
  rcases (bs s)[k]? with _ | b
  · simp
  · simp; exact b.toNat_lt
theorem next_lt (s : ByteArray) (p : PS) : (nextP s p).1 < 256 := by
  unfold nextP
  split
  · simp
  · exact byte_lt _ _
theorem member_less (s : ByteArray) (p : PS) : Less s 1 p (memberP s p).2 := by
  unfold memberP
  simp only
  split
  · exact (next_less s p).one (next_less s _).zero
  · exact next_less s p
theorem member_lt (s : ByteArray) (p : PS) : (memberP s p).1 < 256 := by
  unfold memberP
  simp only
  split <;> exact next_lt _ _
theorem span_less (s : ByteArray) (p : PS) : Less s 1 p (spanP s p).2 := by
  unfold spanP
  simp only
  split
  · rename_i h
    rw [Bool.and_eq_true] at h
    exact ((member_less s p).one (Less.byte h.1).zero).one (member_less s _).zero
  · exact member_less s p
theorem class_loop_less (s : ByteArray) : ∀ n p i, Less s 0 p (classL s n p i).2
  | 0, p, i => Less.refl s p
  | n + 1, p, i => by
    unfold classL
    split
    · simp only
      refine Less.trans ?_ (class_loop_less s n _ _)
      split
      · exact ((span_less s p).fail (by decide)).zero
      · exact (span_less s p).zero
    · exact Less.refl s p
theorem class_less (s : ByteArray) (p : PS) : Less s 0 p (classP s p).2 := by
  unfold classP
  simp only
  have h1 : Less s 0 p (if isP s p 94 = true then p.step else p) := by
    split
    · rename_i h; exact (Less.byte h).zero
    · exact Less.refl s p
  have h2 : ∀ q : PS, Less s 0 p q → Less s 0 p (if isP s q 93 = true then failP q 3 else q) := by
    intro q hq
    split
    · exact hq.fail (by decide)
    · exact hq
  exact (((h2 _ h1).trans (class_loop_less s _ _ _)).trans (next_less s _).zero)

/-- A program's length, by what was read. -/
structure Made (s : ByteArray) (d : Nat) (p : PS) (r : List Ins × PS) : Prop where
  less : Less s 0 p r.2
  one : remP s p ≠ 0 → remP s r.2 + d ≤ remP s p
  len : r.1.length + 2 * remP s r.2 ≤ 2 * remP s p
theorem moved_length (l : List Ins) (k : Int) : (movedL l k).length = l.length := by simp [movedL]
theorem Less.lt {s : ByteArray} {p q : PS} (h : Less s 1 p q) (hp : remP s p ≠ 0) : remP s q + 1 ≤ remP s p := by rcases h.rem with h | ⟨_, h, k⟩ <;> omega
theorem Less.unfail {s : ByteArray} {d : Nat} {p q : PS} (h : Less s d p q) (k : Nat) (hk : k = p.deep) (f : PS) (hf : f.at_ = q.at_) (he : f.e = q.e) (hd : f.deep = k) : Less s d p f := by
  have hr : remP s f = remP s q := by unfold remP; rw [hf, he]
  exact ⟨by rw [hr]; exact h.rem, hd.trans hk, by rw [hf]; exact h.at_, by rw [hf]; exact h.up⟩

theorem made_all (s : ByteArray) : ∀ n, (∀ p, Made s 0 p (patR s n p)) ∧ (∀ p out, Less s 0 p (rowR s n p out).2 ∧ (rowR s n p out).1.length + 2 * remP s (rowR s n p out).2 ≤ out.length + 2 * remP s p) ∧ (∀ p, remP s p ≠ 0 → Made s (if n ≤ 1 then 0 else 1) p (pieceR s n p)) ∧ (∀ p, remP s p ≠ 0 → Made s (if n = 0 then 0 else 1) p (atomR s n p)) := by
  intro n
  induction n with
  | zero =>
    refine ⟨fun p => ⟨Less.refl s p, fun _ => by simp [patR], by simp [patR]⟩, fun p out => ⟨Less.refl s p, by simp [rowR]⟩, fun p _ => ⟨Less.refl s p, fun _ => by simp [pieceR], by simp [pieceR]⟩, fun p _ => ⟨Less.refl s p, fun _ => by simp [atomR], by simp [atomR]⟩⟩
  | succ n ih =>
    obtain ⟨ihp, ihr, ihc, iha⟩ := ih
    refine ⟨fun p => ?_, fun p out => ?_, fun p hp => ?_, fun p hp => ?_⟩
    · unfold patR
      simp only
      obtain ⟨h1, h2⟩ := ihr p []
      split
      · rename_i hb
        have hs := Less.byte hb
        have hne : remP s (rowR s n p []).2 ≠ 0 := by
          have := is_ends hb
          rw [ends_rem] at this
          simpa using this
        have h3 := ihp (rowR s n p []).2.step
        have h4 := hs.lt hne
        have h5 := h3.len
        have h6 := h3.less.le
        have h7 := h1.le
        refine ⟨(h1.trans hs.zero).trans h3.less, fun _ => by simp only; omega, ?_⟩
        simp only [eitherL, List.length_append, moved_length, List.length_cons, List.length_nil] at h2 ⊢
        omega
      · refine ⟨h1, fun _ => h1.le, ?_⟩
        simpa using h2
    · unfold rowR
      split
      · rename_i hc
        have hne : remP s p ≠ 0 := by
          rw [Bool.and_eq_true] at hc
          have := hc.1
          rw [ends_rem] at this
          simpa using this
        have h1 := ihc p hne
        have h2 := ihr (pieceR s n p).2 (out ++ movedL (pieceR s n p).1 out.length)
        refine ⟨h1.less.trans h2.1, ?_⟩
        have h3 := h2.2
        rw [List.length_append, moved_length] at h3
        have h4 := h1.len
        simp only
        omega
      · exact ⟨Less.refl s p, by simp⟩
    · unfold pieceR
      simp only
      have h1 := iha p hp
      have hd : (if n + 1 ≤ 1 then 0 else 1) = (if n = 0 then 0 else 1) := by by_cases h : n = 0 <;> simp [h]
      rw [hd]
      generalize (if n = 0 then 0 else 1) = dd at *
      have hb : ∀ c, isP s (atomR s n p).2 c = true → Less s 1 (atomR s n p).2 (atomR s n p).2.step ∧ remP s (atomR s n p).2.step + 1 ≤ remP s (atomR s n p).2 := by
        intro c hc
        refine ⟨Less.byte hc, (Less.byte hc).lt ?_⟩
        have := is_ends hc
        rw [ends_rem] at this
        simpa using this
      have hl := h1.len
      have ho := h1.one hp
      split
      · rename_i hc
        obtain ⟨h2, h3⟩ := hb _ hc
        exact ⟨h1.less.trans h2.zero, fun _ => by simp only; omega, by simp [moved_length]; omega⟩
      · split
        · rename_i hc
          obtain ⟨h2, h3⟩ := hb _ hc
          exact ⟨h1.less.trans h2.zero, fun _ => by simp only; omega, by simp [moved_length]; omega⟩
        · split
          · rename_i hc
            obtain ⟨h2, h3⟩ := hb _ hc
            exact ⟨h1.less.trans h2.zero, fun _ => by simp only; omega, by simp [moved_length]; omega⟩
          · exact h1
    · rw [if_neg (by omega)]
      unfold atomR
      simp only
      have h1 := next_less s p
      have h2 := h1.lt hp
      have leaf : ∀ (i : Ins) (q : PS), Less s 0 (nextP s p).2 q → Made s 1 p ([i], q) := by
        intro i q hq
        have := hq.le
        exact ⟨h1.zero.trans hq, fun _ => by simp only; omega, by simp; omega⟩
      split
      · rename_i hc
        split
        · have h3 := fail_rem (s := s) (p := (nextP s p).2) (e := 4) (by decide)
          exact ⟨(h1.fail (by decide)).zero, fun _ => by simp only; omega, by simp [h3]⟩
        · have h3 := ihp ⟨(nextP s p).2.at_, (nextP s p).2.deep + 1, (nextP s p).2.e⟩
          generalize hq : patR s n ⟨(nextP s p).2.at_, (nextP s p).2.deep + 1, (nextP s p).2.e⟩ = q at *
          have h4 := next_less s q.2
          generalize hz : nextP s q.2 = z at *
          have hr : remP s ⟨(nextP s p).2.at_, (nextP s p).2.deep + 1, (nextP s p).2.e⟩ = remP s (nextP s p).2 := rfl
          have h5 := h3.less.le
          have h6 := h3.len
          have h7 := h4.le
          have hdp : q.2.deep = (nextP s p).2.deep + 1 := h3.less.deep
          have hdz : z.2.deep = q.2.deep := h4.deep
          have hkey : ∀ f : PS, Less s 0 z.2 f → Made s 1 p (q.1, ⟨f.at_, f.deep - 1, f.e⟩) := by
            intro f hf
            have hrf : remP s ⟨f.at_, f.deep - 1, f.e⟩ = remP s f := rfl
            have h8 := hf.le
            refine ⟨⟨.inl (by simp only; rw [hrf]; omega), ?_, ?_, ?_⟩, fun _ => by simp only; rw [hrf]; omega, by simp only; rw [hrf]; omega⟩
            · have := hf.deep; have := h1.deep; simp only; omega
            · exact fun hx => hf.at_ (h4.at_ (h3.less.at_ (h1.at_ hx)))
            · exact Nat.le_trans h1.up (Nat.le_trans h3.less.up (Nat.le_trans h4.up hf.up))
          refine hkey _ ?_
          split
          · exact (Less.refl s _).fail (by decide)
          · exact Less.refl s _
      · split
        · exact leaf _ _ (class_less s _)
        · split
          · exact leaf _ _ (Less.refl s _)
          · split
            · exact leaf _ _ (Less.refl s _)
            · split
              · exact leaf _ _ (Less.refl s _)
              · split
                · exact leaf _ _ (next_less s _).zero
                · split
                  · exact leaf _ _ ((Less.refl s _).fail (by decide))
                  · exact leaf _ _ (Less.refl s _)
theorem pat_made (s : ByteArray) (n : Nat) (p : PS) : Made s 0 p (patR s n p) := (made_all s n).1 p
theorem row_made (s : ByteArray) (n : Nat) (p : PS) (out : List Ins) : Less s 0 p (rowR s n p out).2 ∧ (rowR s n p out).1.length + 2 * remP s (rowR s n p out).2 ≤ out.length + 2 * remP s p := (made_all s n).2.1 p out
theorem piece_made (s : ByteArray) (n : Nat) (p : PS) (hp : remP s p ≠ 0) (hn : 2 ≤ n) : Made s 1 p (pieceR s n p) := by
  have := (made_all s n).2.2.1 p hp
  rwa [if_neg (by omega)] at this
theorem atom_made (s : ByteArray) (n : Nat) (p : PS) (hp : remP s p ≠ 0) (hn : 1 ≤ n) : Made s 1 p (atomR s n p) := by
  have := (made_all s n).2.2.2 p hp
  rwa [if_neg (by omega)] at this
end Go.Proofs.YtiplipdigabidaaGreat

/- Where a program's steps lead: within the program. -/
set_option linter.unusedVariables false
set_option linter.unusedSimpArgs false
namespace Go.Proofs.YtiplipdigabidaaGreat
open Go.ChangeShapes Go.WideShapes Go.ChangeAt Go.RowKit

def wfI (n : Nat) (i : Ins) : Prop := (i.kind = 2 → 0 ≤ i.x ∧ i.x ≤ n ∧ 0 ≤ i.y ∧ i.y ≤ n) ∧ (i.kind = 3 → 0 ≤ i.x ∧ i.x ≤ n)
def wfN (n : Nat) (l : List Ins) : Prop := ∀ i ∈ l, wfI n i
theorem wfI.mono {n m : Nat} {i : Ins} (h : wfI n i) (hn : n ≤ m) : wfI m i := ⟨fun k => by have := h.1 k; omega, fun k => by have := h.2 k; omega⟩
theorem wfN.mono {n m : Nat} {l : List Ins} (h : wfN n l) (hn : n ≤ m) : wfN m l := fun i hi => (h i hi).mono hn
theorem wfN.append {n : Nat} {a b : List Ins} (h : wfN n a) (k : wfN n b) : wfN n (a ++ b) := fun i hi => by
  rcases List.mem_append.1 hi with h1 | h1
  · exact h i h1
  · exact k i h1
theorem wfN.nil {n : Nat} : wfN n [] := fun _ h => by cases h
theorem wfN.one {n : Nat} {i : Ins} (h : wfI n i) : wfN n [i] := fun j hj => by
  rw [List.mem_singleton] at hj; subst hj; exact h
theorem wrap_small {n : Int} (h0 : 0 ≤ n) (h1 : n ≤ 1000000000) : wrap64 n = n := by unfold wrap64; omega
theorem wfN.moved {m n k : Nat} {l : List Ins} (h : wfN m l) (hk : m + k ≤ n) (hn : n ≤ 1000000000) : wfN n (movedL l k) := by
  intro i hi
  obtain ⟨j, hj, rfl⟩ := List.mem_map.1 hi
  have hw := h j hj
  unfold movedI
  by_cases h2 : j.kind = 2
  · have := hw.1 h2
    rw [if_pos h2]
    refine ⟨fun _ => ?_, fun h3 => ?_⟩
    · simp only
      rw [wrap_small (by omega) (by omega), wrap_small (by omega) (by omega)]
      omega
    · simp only at h3; omega
  · rw [if_neg h2]
    by_cases h3 : j.kind = 3
    · have := hw.2 h3
      rw [if_pos h3]
      refine ⟨fun h => absurd h h2, fun _ => ?_⟩
      simp only
      rw [wrap_small (by omega) (by omega)]
      omega
    · rw [if_neg h3]
      exact ⟨fun h => absurd h h2, fun h => absurd h h3⟩
theorem wf_split {n : Nat} {x y : Int} (h0 : 0 ≤ x) (h1 : x ≤ n) (h2 : 0 ≤ y) (h3 : y ≤ n) : wfI n (splitI x y) := ⟨fun _ => ⟨h0, h1, h2, h3⟩, fun h => by simp [splitI] at h⟩
theorem wf_jump {n : Nat} {x : Int} (h0 : 0 ≤ x) (h1 : x ≤ n) : wfI n (jumpI x) := ⟨fun h => by simp [jumpI] at h, fun _ => ⟨h0, h1⟩⟩
theorem wf_plain {n : Nat} {i : Ins} (h2 : i.kind ≠ 2) (h3 : i.kind ≠ 3) : wfI n i := ⟨fun h => absurd h h2, fun h => absurd h h3⟩
theorem hasI_kind (i : Ins) (c : Nat) : (hasI i c).kind = i.kind := by
  unfold hasI Ins.put
  split
  · rfl
  · split
    · rfl
    · split <;> rfl
theorem rangeI_kind (i : Ins) (f t : Nat) : (rangeI i f t).kind = i.kind := by
  unfold rangeI
  generalize List.range (t + 1 - f) = l
  induction l generalizing i with
  | nil => rfl
  | cons a l ih => rw [List.foldl_cons, ih, hasI_kind]
theorem classL_kind (s : ByteArray) : ∀ n p i, (classL s n p i).1.kind = i.kind
  | 0, p, i => rfl
  | n + 1, p, i => by
    unfold classL
    split
    · simp only
      rw [classL_kind s n, rangeI_kind]
    · rfl
theorem classP_kind (s : ByteArray) (p : PS) : (classP s p).1.kind = 1 := by
  unfold classP
  simp only
  split
  · show (classL s _ _ charI).1.kind = 1
    rw [classL_kind]; rfl
  · rw [classL_kind]; rfl

theorem wf_all (s : ByteArray) (hs : s.size ≤ 1000000) : ∀ n, (∀ p, wfN (patR s n p).1.length (patR s n p).1) ∧ (∀ p out, wfN out.length out → out.length + 2 * remP s p ≤ 4000000 → wfN (rowR s n p out).1.length (rowR s n p out).1) ∧ (∀ p, remP s p ≠ 0 → wfN (pieceR s n p).1.length (pieceR s n p).1) ∧ (∀ p, remP s p ≠ 0 → wfN (atomR s n p).1.length (atomR s n p).1) := by
  intro n
  induction n with
  | zero => exact ⟨fun p => wfN.nil, fun p out h _ => h, fun p _ => wfN.nil, fun p _ => wfN.nil⟩
  | succ n ih =>
    obtain ⟨ihp, ihr, ihc, iha⟩ := ih
    refine ⟨fun p => ?_, fun p out ho hb => ?_, fun p hp => ?_, fun p hp => ?_⟩
    · have hr := rem_le s p
      unfold patR
      simp only
      obtain ⟨h1, h2⟩ := (made_all s n).2.1 p []
      have h3 := ihr p [] wfN.nil (by simp; omega)
      split
      · have h4 := ihp (rowR s n p []).2.step
        have h5 := (pat_made s n (rowR s n p []).2.step).len
        have h6 := rem_le s (rowR s n p []).2.step
        simp only [List.length_nil] at h2
        generalize (rowR s n p []).1 = a at *
        generalize (patR s n (rowR s n p []).2.step).1 = b at *
        have e : (eitherL a b).length = a.length + b.length + 2 := by simp [eitherL, moved_length]; omega
        simp only [e]
        refine wfN.append (wfN.append (wfN.append (wfN.one (wf_split (by omega) (by omega) (by omega) (by omega))) (h3.moved (k := 1) (by omega) (by omega))) (wfN.one (wf_jump (by omega) (by omega)))) ?_
        exact h4.moved (k := a.length + 2) (by omega) (by omega)
      · exact h3
    · unfold rowR
      split
      · rename_i hc
        have hne : remP s p ≠ 0 := by
          rw [Bool.and_eq_true] at hc
          have := hc.1
          rw [ends_rem] at this
          simpa using this
        have h1 := (made_all s n).2.2.1 p hne
        have h4 := h1.len
        refine ihr _ _ ?_ ?_
        · rw [List.length_append, moved_length]
          refine wfN.append (ho.mono (by omega)) ((ihc p hne).moved (k := out.length) (by omega) (by omega))
        · rw [List.length_append, moved_length]
          omega
      · exact ho
    · unfold pieceR
      simp only
      have h1 := iha p hp
      have h2 := ((made_all s n).2.2.2 p hp).len
      have h3 := rem_le s p
      generalize atomR s n p = r at *
      obtain ⟨a, q⟩ := r
      simp only at h1 h2 ⊢
      split
      · have e : ([splitI 1 (↑a.length + 2)] ++ movedL a 1 ++ [jumpI 0]).length = a.length + 2 := by simp [moved_length]
        simp only [e]
        exact wfN.append (wfN.append (wfN.one (wf_split (by omega) (by omega) (by omega) (by omega))) (h1.moved (k := 1) (by omega) (by omega))) (wfN.one (wf_jump (by omega) (by omega)))
      · split
        · have e : (a ++ [splitI 0 (↑a.length + 1)]).length = a.length + 1 := by simp
          simp only [e]
          exact wfN.append (h1.mono (by omega)) (wfN.one (wf_split (by omega) (by omega) (by omega) (by omega)))
        · split
          · have e : ([splitI 1 (↑a.length + 1)] ++ movedL a 1).length = a.length + 1 := by simp [moved_length]
            simp only [e]
            exact wfN.append (wfN.one (wf_split (by omega) (by omega) (by omega) (by omega))) (h1.moved (k := 1) (by omega) (by omega))
          · exact h1
    · unfold atomR
      simp only
      have leaf : ∀ (i : Ins), i.kind ≠ 2 → i.kind ≠ 3 → wfN [i].length [i] := fun i h2 h3 => wfN.one (wf_plain h2 h3)
      split
      · split
        · exact wfN.nil
        · exact ihp _
      · split
        · exact leaf _ (by rw [classP_kind]; decide) (by rw [classP_kind]; decide)
        · split
          · exact leaf _ (by decide) (by decide)
          · split
            · exact leaf _ (by decide) (by decide)
            · split
              · exact leaf _ (by decide) (by decide)
              · split
                · exact leaf _ (by rw [hasI_kind]; decide) (by rw [hasI_kind]; decide)
                · split
                  · exact leaf _ (by decide) (by decide)
                  · exact leaf _ (by rw [hasI_kind]; decide) (by rw [hasI_kind]; decide)
/-- A whole program: its last step is the end; all others lead on within it. -/
structure Prg (l : List Ins) : Prop where
  pos : 0 < l.length
  len : l.length ≤ 1000
  wf : wfN (l.length - 1) l
  last : ∀ i, i + 1 = l.length → (l.getD i charI).kind = 6
theorem comp_prg {s : ByteArray} (h : (compR s).2 = 0) : Prg (compR s).1 := by
  unfold compR at h ⊢
  split
  · rename_i hs; rw [if_pos hs] at h; simp at h
  · rename_i hs
    rw [if_neg hs] at h
    simp only at h ⊢
    split
    · have h1 := (wf_all s (by omega) (fuelOf s.size)).1 ⟨0, 0, 0⟩
      have h2 := (pat_made s (fuelOf s.size) ⟨0, 0, 0⟩).len
      have h3 := rem_le s ⟨0, 0, 0⟩
      generalize patR s (fuelOf s.size) ⟨0, 0, 0⟩ = r at *
      obtain ⟨l, q⟩ := r
      simp only at h1 h2 ⊢
      refine ⟨by simp, by simp; omega, ?_, ?_⟩
      · rw [List.length_append, List.length_singleton, Nat.add_sub_cancel]
        exact wfN.append h1 (wfN.one (wf_plain (by decide) (by decide)))
      · intro i hi
        rw [List.length_append, List.length_singleton] at hi
        obtain rfl : i = l.length := by omega
        simp [List.getD_eq_getElem?_getD, List.getElem?_append_right, doneI]
    · rename_i hc
      rw [if_neg hc] at h
      exact absurd h hc
theorem comp_err {s : ByteArray} (h : (compR s).2 ≠ 0) : (compR s).1 = [] := by
  unfold compR at h ⊢
  split
  · rfl
  · rename_i hs
    rw [if_neg hs] at h
    simp only at h ⊢
    split
    · rename_i hc; rw [if_pos hc] at h; simp at h
    · rfl
end Go.Proofs.YtiplipdigabidaaGreat

/- Texts that fit a pattern: what match.Find computes, as functions (a mirror of the program's own steps). -/
set_option linter.unusedVariables false
set_option linter.unusedSimpArgs false
namespace Go.Proofs.YtiplipdigabidaaGreat
open Go.ChangeShapes Go.WideShapes Go.ChangeAt Go.RowKit

def insAt (l : List Ins) (i : Int) : Ins := l.getD i.toNat charI
/-- The steps that are come to from a step without a byte. -/
def outsI (x : Ins) (i : Int) (first last : Bool) : List Int :=
  if x.kind = 2 then [x.x, x.y] else if x.kind = 3 then [x.x] else if (x.kind = 4 ∧ first = true) ∨ (x.kind = 5 ∧ last = true) then [i + 1] else []
def enterR (l : List Ins) (first last : Bool) : Nat → List Int → List Bool × Bool → List Bool × Bool
  | 0, _, st => st
  | _ + 1, [], st => st
  | n + 1, i :: todo, st =>
    if st.1.getD i.toNat false = true then enterR l first last n todo st
    else enterR l first last n (outsI (insAt l i) i first last ++ todo) (st.1.set i.toNat true, st.2 || decide ((insAt l i).kind = 6))
def offs (on : List Bool) : Nat := on.countP (fun b => !b)
def entered (l : List Ins) (first last : Bool) (i : Int) (st : List Bool × Bool) : List Bool × Bool := enterR l first last (3 * l.length + 2) [i] st
/-- A step's set has a byte. -/
def takesI (x : Ins) (c : Nat) : Bool := decide (x.kind = 1) && (bits .and .u64 (x.word (c / 64) / 2 ^ (c % 64)) 1 == 1)
def takesL (l : List Ins) (c : Nat) (last : Bool) : Nat → List Bool → List Bool × Bool → List Bool × Bool
  | _, [], st => st
  | k, on :: r, st => takesL l c last (k + 1) r (if on && takesI (insAt l k) c then entered l false last (k + 1) st else st)
def noneOn (l : List Ins) : List Bool × Bool := (List.replicate l.length false, false)
def takes (l : List Ins) (c : Nat) (last : Bool) (st : List Bool × Bool) : List Bool × Bool := takesL l c last 0 st.1 (noneOn l)
def fitsL (l : List Ins) (t : ByteArray) (whole : Bool) : Nat → Nat → List Bool × Bool → Bool
  | 0, _, st => st.2
  | n + 1, i, st =>
    if st.2 && !whole then true
    else
      let last := decide (i + 1 = t.size)
      let st1 := takes l (byteAt t i) last st
      fitsL l t whole n (i + 1) (if whole then st1 else entered l false last 0 st1)
def fitsR (pat t : ByteArray) (whole : Bool) : Bool × Int :=
  if 256 < t.size then (false, 1)
  else if (compR pat).2 ≠ 0 then (false, (compR pat).2)
  else (fitsL (compR pat).1 t whole t.size 0 (entered (compR pat).1 true (decide (t.size = 0)) 0 (noneOn (compR pat).1)), 0)

theorem outs_le (x : Ins) (i : Int) (f l : Bool) : (outsI x i f l).length ≤ 2 := by
  unfold outsI
  split
  · simp
  · split
    · simp
    · split <;> simp
theorem outs_in {l : List Ins} (h : Prg l) {i : Int} (h0 : 0 ≤ i) (h1 : i < l.length) (f t : Bool) : ∀ k ∈ outsI (insAt l i) i f t, 0 ≤ k ∧ k < l.length := by
  have hi : i.toNat < l.length := by omega
  have hx : insAt l i = l[i.toNat] := by unfold insAt; rw [List.getD_eq_getElem?_getD, List.getElem?_eq_getElem hi]; rfl
  have hw := h.wf l[i.toNat] (List.getElem_mem hi)
  have hp := h.pos
  intro k hk
  unfold outsI at hk
  split at hk
  · rename_i h2
    rw [hx] at h2 hk
    have := hw.1 h2
    simp only [List.mem_cons, List.not_mem_nil, or_false] at hk
    omega
  · split at hk
    · rename_i h3
      rw [hx] at h3 hk
      have := hw.2 h3
      simp only [List.mem_cons, List.not_mem_nil, or_false] at hk
      omega
    · split at hk
      · rename_i h4
        simp only [List.mem_cons, List.not_mem_nil, or_false] at hk
        by_cases he : i.toNat + 1 = l.length
        · have := h.last i.toNat he
          unfold insAt at h4
          rw [this] at h4
          simp at h4
        · omega
      · cases hk
theorem set_offs {on : List Bool} {i : Nat} (h : on.getD i false = false) (hi : i < on.length) : offs (on.set i true) + 1 = offs on := by
  unfold offs
  rw [List.getD_eq_getElem?_getD, List.getElem?_eq_getElem hi] at h
  have h : on[i] = false := h
  have key : ∀ (l : List Bool) (i : Nat) (hi : i < l.length), l[i] = false → (l.set i true).countP (fun b => !b) + 1 = l.countP (fun b => !b) := by
    intro l
    induction l with
    | nil => intro i hi; simp at hi
    | cons a l ih =>
      intro i hi h
      cases i with
      | zero => simp only [List.getElem_cons_zero] at h; subst h; simp
      | succ i =>
        simp only [List.getElem_cons_succ] at h
        have := ih i (by simpa using hi) h
        simp only [List.set_cons_succ, List.countP_cons]
        omega
  exact key on i hi h
theorem enter_len (l : List Ins) (f t : Bool) : ∀ n todo st, (enterR l f t n todo st).1.length = st.1.length
  | 0, _, st => rfl
  | n + 1, [], st => rfl
  | n + 1, i :: todo, st => by
    unfold enterR
    split
    · exact enter_len l f t n todo st
    · rw [enter_len l f t n]
      simp
theorem offs_le (on : List Bool) : offs on ≤ on.length := List.countP_le_length
theorem enter_nil (l : List Ins) (f t : Bool) (n : Nat) (st : List Bool × Bool) : enterR l f t n [] st = st := by cases n <;> rfl
/-- More fuel than is needed changes nothing. -/
theorem enter_fuel (l : List Ins) (f t : Bool) : ∀ n m (todo : List Int) st, 3 * offs st.1 + todo.length ≤ n → 3 * offs st.1 + todo.length ≤ m → st.1.length = l.length → Prg l → (∀ k ∈ todo, 0 ≤ k ∧ k < l.length) → enterR l f t n todo st = enterR l f t m todo st := by
  intro n
  induction n with
  | zero =>
    intro m todo st h1 h2 hl hp hk
    have : todo = [] := List.eq_nil_of_length_eq_zero (by omega)
    subst this
    rw [enter_nil, enter_nil]
  | succ n ih =>
    intro m todo st h1 h2 hl hp hk
    cases todo with
    | nil => rw [enter_nil, enter_nil]
    | cons i todo =>
      simp only [List.length_cons] at h1 h2
      cases m with
      | zero => omega
      | succ m =>
        have hi := hk i List.mem_cons_self
        unfold enterR
        split
        · exact ih m todo st (by omega) (by omega) hl hp fun k h => hk k (List.mem_cons_of_mem _ h)
        · rename_i hn
          have hs := set_offs (on := st.1) (i := i.toNat) (by simpa using hn) (by omega)
          have ho := outs_le (insAt l i) i f t
          refine ih m _ _ (by simp only [List.length_append]; omega) (by simp only [List.length_append]; omega) (by simpa using hl) hp ?_
          intro k h
          rcases List.mem_append.1 h with h | h
          · exact outs_in hp hi.1 hi.2 f t k h
          · exact hk k (List.mem_cons_of_mem _ h)
theorem entered_len (l : List Ins) (f t : Bool) (i : Int) (st : List Bool × Bool) : (entered l f t i st).1.length = st.1.length := enter_len _ _ _ _ _ _
theorem takesL_len (l : List Ins) (c : Nat) (last : Bool) : ∀ (r : List Bool) k st, (takesL l c last k r st).1.length = st.1.length
  | [], k, st => rfl
  | on :: r, k, st => by
    unfold takesL
    rw [takesL_len l c last r]
    split
    · exact entered_len _ _ _ _ _
    · rfl
theorem takes_len (l : List Ins) (c : Nat) (last : Bool) (st : List Bool × Bool) : (takes l c last st).1.length = l.length := by
  unfold takes
  rw [takesL_len]
  simp [noneOn]
/-- A step that takes a byte is not the last one. -/
theorem takes_in {l : List Ins} (h : Prg l) {k c : Nat} (hk : k < l.length) (ht : takesI (insAt l k) c = true) : k + 1 < l.length := by
  by_cases he : k + 1 = l.length
  · have := h.last k he
    unfold takesI insAt at ht
    rw [Int.toNat_natCast, this] at ht
    simp at ht
  · omega
end Go.Proofs.YtiplipdigabidaaGreat

