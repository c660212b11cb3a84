/- The next word as a function of the bytes; words to the end; blanks ahead and behind. -/
import Derived.Test.YtijajfelmekmiaaDoorLWords
set_option linter.unusedVariables false
set_option linter.unusedSimpArgs false
namespace Go.Proofs.YtijajfelmekmiaaDoor
open Go.ChangeShapes Go.WideShapes Go.ChangeAt Go.RowKit

abbrev WT := Int × Bytes × Int × Nat
def wd1 (r : Bytes) : Option WT := if 32 < (takeB namedB r).length then none else some (1, takeB namedB r, 0, (takeB namedB r).length)
def headL (r : Bytes) : Bool := match r with
  | [] => false
  | c :: _ => letterB c.toNat
def wd2 (r : Bytes) : Option WT := if headL (r.drop 1) = true ∧ (takeB namedB (r.drop 1)).length ≤ 32 then some (2, takeB namedB (r.drop 1), 0, 1 + (takeB namedB (r.drop 1)).length) else none
def numB (neg : Bool) (r : Bytes) (u n : Nat) : Bool := decide (9223372036854775808 < u) || (decide (1 < n) && decide (r.head? = some 48)) || (decide (u = 9223372036854775808) && !neg)
def numW (neg : Bool) (r : Bytes) (e : Lib.NumEnd Nat) : Option WT := match e with
  | .ok u => if numB neg r u (takeB digitB r).length then none else some (3, [], wrap64 u, (takeB digitB r).length)
  | _ => none
def wd3 (neg : Bool) (r : Bytes) : Option WT :=
  if 0 ≤ Lib.indexByte (takeB datedB r) 84 then (if (dateF (takeB datedB r)).2 then some (5, [], (dateF (takeB datedB r)).1, (takeB datedB r).length) else none)
  else numW neg r (Lib.parseUintB 64 (takeB digitB r))
def wd4 (r : Bytes) : Option WT := match textF (r.drop 1) with
  | some (T, n) => if 256 < T.length then none else some (4, T, 0, 1 + n)
  | none => none
def wd6 (r : Bytes) : Option WT := if (takeB hexB (r.drop 4)).length % 2 = 1 ∨ 512 < (takeB hexB (r.drop 4)).length then none else some (6, unhex (takeB hexB (r.drop 4)), 0, 4 + (takeB hexB (r.drop 4)).length)
def wd7 (r : Bytes) : Option WT := match markF r with
  | some m => some (7, m, 0, 2)
  | none => match r with
    | c :: _ => if Lib.indexByte marks1 c < 0 then none else some (7, [c], 0, 1)
    | [] => none
def wd8 (r : Bytes) : Option WT := if (takeB hexB (r.drop 8)).length = 64 then some (8, unhex (takeB hexB (r.drop 8)), 0, 8 + (takeB hexB (r.drop 8)).length) else none
/-- The word that begins here; none: none. 'neg': a minus stands right ahead. -/
def nextF (neg : Bool) (r : Bytes) : Option WT :=
  match cls r with
  | 1 => wd1 r
  | 2 => wd2 r
  | 3 => wd3 neg r
  | 4 => wd4 r
  | 6 => wd6 r
  | 7 => wd7 r
  | 8 => wd8 r
  | _ => none
def negB (u : Bytes) (a : Nat) : Bool := decide (0 < a ∧ u[a - 1]? = some 45)

theorem cls_cases {r : Bytes} (h : r ≠ []) : cls r = 1 ∨ cls r = 2 ∨ cls r = 3 ∨ cls r = 4 ∨ cls r = 6 ∨ cls r = 7 ∨ cls r = 8 := by
  cases r with
  | nil => exact absurd rfl h
  | cons c t =>
    unfold cls
    simp only
    split
    · simp
    · split
      · simp
      · split
        · simp
        · split
          · simp
          · split
            · simp
            · split <;> simp
theorem bs_run (p : Int → Bool) (s : ByteArray) (a : Nat) : bs (s.extract a (a + runN p s a)) = takeB p ((bs s).drop a) := by
  have h : (bs s).drop a = takeB p ((bs s).drop a) ++ ((bs s).drop a).dropWhile (fun c => p c.toNat) := (List.takeWhile_append_dropWhile).symm
  have := ext_split h
  rw [show runN p s a = (takeB p ((bs s).drop a)).length from rfl, this, bs_mkS]
theorem drop_plus (u : Bytes) (a i : Nat) : (u.drop a).drop i = u.drop (a + i) := by rw [List.drop_drop]
theorem nameHere_headL (s : ByteArray) (a : Nat) : nameHere s a = headL ((bs s).drop a) := by
  unfold nameHere
  split
  · rename_i h
    rw [drop_at h]; rfl
  · rename_i h
    rw [List.drop_eq_nil_of_le (by rw [bs_length]; omega)]; rfl
theorem numBad_B (s : ByteArray) (a u n : Nat) (ha : a < s.size) : NumBad s a u n ↔ numB (negB (bs s) a) ((bs s).drop a) u n = true := by
  unfold NumBad numB negB
  rw [drop_at ha]
  simp only [Bool.or_eq_true, Bool.and_eq_true, decide_eq_true_eq, Bool.not_eq_true', decide_eq_false_iff_not, List.head?_cons, Option.some.injEq]
  have e48 : ∀ c : UInt8, c.toNat = 48 ↔ c = 48 := fun c => ⟨fun h => UInt8.toNat_inj.1 h, fun h => by rw [h]; rfl⟩
  have e45 : ∀ c : UInt8, c.toNat = 45 ↔ c = 45 := fun c => ⟨fun h => UInt8.toNat_inj.1 h, fun h => by rw [h]; rfl⟩
  have g : (0 < a ∧ ∃ h : a - 1 < s.size, s[a - 1].toNat = 45) ↔ (0 < a ∧ (bs s)[a - 1]? = some 45) := by
    have hl : a - 1 < (bs s).length := by rw [bs_length]; omega
    rw [List.getElem?_eq_getElem hl, bs_get s (a - 1) (by omega), Option.some.injEq]
    refine and_congr Iff.rfl ⟨fun ⟨_, h⟩ => (e45 _).1 h, fun h => ⟨by omega, (e45 _).2 h⟩⟩
  have g2 : (1 < n ∧ ∃ h : a < s.size, s[a].toNat = 48) ↔ (1 < n ∧ s[a] = 48) := and_congr Iff.rfl ⟨fun ⟨_, h⟩ => (e48 _).1 h, fun h => ⟨ha, (e48 _).2 h⟩⟩
  rw [g, g2, or_assoc]
  refine or_congr (by omega) (or_congr Iff.rfl ?_)
  rw [← and_assoc]
  exact and_congr (by omega) Iff.rfl

/-- The document's word is the function's. -/
theorem nextR_F {s : ByteArray} {a : Nat} {k : Int} {S : ByteArray} {n : Int} {to : Nat} {bad : Bool} (ha : a < s.size) (h : NextR s a k S n to bad) :
    (bad = true → nextF (negB (bs s) a) ((bs s).drop a) = none) ∧ (bad = false → ∃ len, to = a + len ∧ nextF (negB (bs s) a) ((bs s).drop a) = some (k, bs S, n, len)) := by
  have hr : (bs s).drop a ≠ [] := by rw [drop_at ha]; simp
  have E : ∀ (p : Int → Bool) i, runN p s (a + i) = (takeB p (((bs s).drop a).drop i)).length := fun p i => by rw [drop_plus]; rfl
  have E0 : ∀ (p : Int → Bool), runN p s a = (takeB p ((bs s).drop a)).length := fun p => rfl
  have X : ∀ (p : Int → Bool) i, bs (s.extract (a + i) (a + i + runN p s (a + i))) = takeB p (((bs s).drop a).drop i) := fun p i => by rw [bs_run, drop_plus]
  have X0 : ∀ (p : Int → Bool), bs (s.extract a (a + runN p s a)) = takeB p ((bs s).drop a) := fun p => bs_run p s a
  unfold NextR at h
  unfold nextF
  rcases cls_cases hr with hc | hc | hc | hc | hc | hc | hc <;> rw [hc] at h ⊢ <;> simp only at h ⊢
  · obtain ⟨rfl, rfl, rfl, rfl, rfl⟩ := h
    unfold wd1
    rw [X0, E0]
    refine ⟨fun hb => ?_, fun hb => ⟨_, rfl, ?_⟩⟩
    · rw [if_pos (by have := of_decide_eq_true hb; omega)]
    · rw [if_neg (by have := of_decide_eq_false hb; omega)]
  · unfold wd2
    obtain ⟨h1, h2⟩ := h
    rw [nameHere_headL, ← drop_plus] at h1 h2
    rcases (show headL (((bs s).drop a).drop 1) = true ∨ headL (((bs s).drop a).drop 1) = false by cases headL (((bs s).drop a).drop 1) <;> simp) with hh | hh
    · obtain ⟨rfl, rfl, rfl, rfl, rfl⟩ := h1 hh
      rw [X, E]
      refine ⟨fun hb => ?_, fun hb => ⟨1 + (takeB namedB (((bs s).drop a).drop 1)).length, by omega, ?_⟩⟩
      · rw [if_neg (by have := of_decide_eq_true hb; omega)]
      · rw [if_pos ⟨hh, by have := of_decide_eq_false hb; omega⟩]
    · have := h2 hh
      subst this
      exact ⟨fun _ => by rw [if_neg (by rw [hh]; simp)], fun h => by cases h⟩
  · unfold wd3
    obtain ⟨h1, h2⟩ := h
    have hx : Lib.indexByte (s.extract a (a + runN datedB s a)).data.toList 84 = Lib.indexByte (takeB datedB ((bs s).drop a)) 84 := by rw [← X0]
    rw [hx] at h1 h2
    rcases (show 0 ≤ Lib.indexByte (takeB datedB ((bs s).drop a)) 84 ∨ Lib.indexByte (takeB datedB ((bs s).drop a)) 84 < 0 by omega) with hd | hd
    · obtain ⟨rfl, rfl, rfl, rfl, rfl⟩ := h2 hd
      rw [if_pos hd, X0]
      refine ⟨fun hb => ?_, fun hb => ⟨_, rfl, ?_⟩⟩
      · rw [if_neg (by simpa using hb)]
      · rw [if_pos (by simpa using hb)]; rfl
    · rw [if_neg (by omega)]
      obtain ⟨g1, g2⟩ := h1 hd
      rw [X0] at g2
      unfold numW
      cases hp : Lib.parseUintB 64 (takeB digitB ((bs s).drop a)) with
      | ok u =>
        obtain ⟨rfl, rfl, rfl, rfl, h5⟩ := g1 u (by rw [X0]; exact hp)
        rw [numBad_B s a u _ ha] at h5
        simp only
        rw [E0] at h5 ⊢
        refine ⟨fun hb => ?_, fun hb => ⟨_, rfl, ?_⟩⟩
        · rw [if_pos (h5.1 hb)]
        · rw [if_neg (fun e => by have := h5.2 e; rw [hb] at this; cases this)]
      | _ =>
        have := g2 (by rintro ⟨u, hu⟩; rw [hp] at hu; cases hu)
        subst this
        exact ⟨fun _ => rfl, fun h => by cases h⟩
  · unfold wd4
    obtain ⟨rfl, h⟩ := h
    rw [← drop_plus] at h
    unfold TextS at h
    split at h
    · rename_i T m hT
      obtain ⟨rfl, rfl, rfl, rfl⟩ := h
      rw [hT, bs_mkS]
      simp only
      refine ⟨fun hb => ?_, fun hb => ⟨1 + m, by omega, ?_⟩⟩
      · rw [if_pos (by have := of_decide_eq_true hb; omega)]
      · rw [if_neg (by have := of_decide_eq_false hb; omega)]
    · rename_i hT
      subst h
      rw [hT]
      exact ⟨fun _ => rfl, fun h => by cases h⟩
  · obtain ⟨rfl, rfl, rfl, rfl, rfl⟩ := h
    unfold wd6
    rw [X, E, bs_mkS]
    refine ⟨fun hb => ?_, fun hb => ⟨4 + (takeB hexB (((bs s).drop a).drop 4)).length, by omega, ?_⟩⟩
    · rw [if_pos (of_decide_eq_true hb)]
    · rw [if_neg (of_decide_eq_false hb)]
  · obtain ⟨rfl, rfl, h⟩ := h
    unfold wd7
    unfold markR at h
    split at h
    · rename_i m hm
      obtain ⟨rfl, rfl, rfl⟩ := h
      rw [hm, bs_mkS]
      exact ⟨(fun h => by cases h), fun _ => ⟨2, rfl, rfl⟩⟩
    · rename_i hm
      obtain ⟨rfl, rfl, h⟩ := h
      have h3 := h ha
      subst h3
      rw [hm]
      simp only
      have e1 : bs (s.extract a (a + 1)) = [s[a]] := by
        have := ext_split (s := s) (a := a) (m := [s[a]]) (r := (bs s).drop (a + 1)) (drop_at ha)
        rw [List.length_singleton] at this
        rw [this, bs_mkS]
      rw [drop_at ha, e1]
      simp only
      refine ⟨fun hb => ?_, fun hb => ⟨1, rfl, ?_⟩⟩
      · rw [if_pos (of_decide_eq_true hb)]
      · rw [if_neg (of_decide_eq_false hb)]
  · obtain ⟨rfl, rfl, rfl, rfl, rfl⟩ := h
    unfold wd8
    rw [X, E, bs_mkS]
    refine ⟨fun hb => ?_, fun hb => ⟨8 + (takeB hexB (((bs s).drop a).drop 8)).length, by omega, ?_⟩⟩
    · rw [if_neg (of_decide_eq_true hb)]
    · rw [if_pos (Decidable.not_not.1 (of_decide_eq_false hb))]

/-! Words to the end, or to where one is bad. -/
def runL (u : Bytes) (p : Nat) : Nat := (takeB blankB (u.drop p)).length
inductive Lx (u : Bytes) : Nat → List Wd → Option Nat → Prop
  | done {p : Nat} (h : p + runL u p = u.length) : Lx u p [] none
  | bad {p : Nat} (h : p + runL u p < u.length) (hn : nextF (negB u (p + runL u p)) (u.drop (p + runL u p)) = none) : Lx u p [] (some (p + runL u p))
  | step {p len : Nat} {k : Int} {S : Bytes} {n : Int} {L : List Wd} {o : Option Nat} (h : p + runL u p < u.length) (hn : nextF (negB u (p + runL u p)) (u.drop (p + runL u p)) = some (k, S, n, len)) (hl : 0 < len ∧ p + runL u p + len ≤ u.length) (hr : Lx u (p + runL u p + len) L o) : Lx u p (⟨k, mkS S, n, ((p + runL u p : Nat) : Int)⟩ :: L) o

theorem steps_lx {s : ByteArray} {ws : List Wd} {q : Nat} (h : Steps s ws q) : ∀ {L : List Wd} {o : Option Nat}, Lx (bs s) q L o → Lx (bs s) 0 (ws ++ L) o := by
  induction h with
  | nil => exact fun h => h
  | @snoc ws q a k S n to h ha hlt hto hk hn ih =>
    intro L o hL
    obtain ⟨len, rfl, hf⟩ := (nextR_F hlt hn).2 rfl
    have e : a = q + runL (bs s) q := ha
    rw [List.append_assoc, List.singleton_append]
    refine ih ?_
    have hz : (bs s).length = s.size := bs_length s
    subst e
    have := Lx.step (u := bs s) (p := q) (by omega) hf (by omega) hL
    rw [mkS_bs] at this
    exact this
theorem lx_steps {s : ByteArray} {L : List Wd} {o : Option Nat} (hL : Lx (bs s) 0 L o) {ws : List Wd} {q : Nat} (h : Steps s ws q) : ∃ L', L = ws ++ L' ∧ Lx (bs s) q L' o := by
  induction h with
  | nil => exact ⟨L, rfl, hL⟩
  | @snoc ws q a k S n to h ha hlt hto hk hn ih =>
    obtain ⟨L', e, hx⟩ := ih
    obtain ⟨len, rfl, hf⟩ := (nextR_F hlt hn).2 rfl
    have e2 : a = q + runL (bs s) q := ha
    subst e2
    have hz : (bs s).length = s.size := bs_length s
    cases hx with
    | done h => omega
    | bad h hn' => rw [hf] at hn'; cases hn'
    | step h hn' hl hr =>
      rw [hf] at hn'
      cases hn'
      rw [mkS_bs] at e
      exact ⟨_, by rw [e]; simp, hr⟩
/-- What Words tells where the words are known. -/
theorem lx_words {s : ByteArray} {L : List Wd} {o : Option Nat} (hL : Lx (bs s) 0 L o) (h5 : L.length < 5000) {w w' : World} {e : Ending} (h : WordsPost s w e w') :
    Below w.heap.size w w' ∧ (o = none → ∃ v, e = .returned (.tuple #[v, .int .i64 0, .int .i64 0]) ∧ RSl WdR w' w'.heap.size L v) ∧ (∀ a, o = some a → e = .returned (.tuple #[.slice none 0 0, .int .i64 (a : Int), .int .i64 3])) := by
  have hz : (bs s).length = s.size := bs_length s
  obtain ⟨hb, ⟨ws, q, v, hst, hq, he, hr, _⟩ | ⟨ws, q, a, hst, ha, hlt, hl, _⟩ | ⟨ws, q, a, k, S, n, to, hst, ha, hlt, hn, he⟩⟩ := h
  · obtain ⟨L', e1, hx⟩ := lx_steps hL hst
    have hq' : q + runL (bs s) q = s.size := hq
    cases hx with
    | done h => rw [List.append_nil] at e1; subst e1; exact ⟨hb, fun _ => ⟨v, he, hr⟩, fun _ h => by cases h⟩
    | bad h _ => omega
    | step h _ _ _ => omega
  · obtain ⟨L', e1, hx⟩ := lx_steps hL hst
    rw [e1, List.length_append] at h5
    omega
  · obtain ⟨L', e1, hx⟩ := lx_steps hL hst
    have e2 : a = q + runL (bs s) q := ha
    have hf := (nextR_F hlt hn).1 rfl
    subst e2
    cases hx with
    | done h => omega
    | bad h _ => exact ⟨hb, (fun h => by cases h), fun a ha => by rw [he, Option.some.inj ha]⟩
    | step h hn' _ _ => rw [hf] at hn'; cases hn'
/-- What Words told. -/
theorem words_lx {s : ByteArray} {ws : List Wd} {q : Nat} (h : Steps s ws q) (hq : q + runN blankB s q = s.size) : Lx (bs s) 0 ws none := by
  have := steps_lx h (L := []) (o := none) (.done (by have := bs_length s; rw [this]; exact hq))
  rwa [List.append_nil] at this
theorem lx_len {u : Bytes} {p : Nat} {L : List Wd} {o : Option Nat} (h : Lx u p L o) : p ≤ u.length → p + L.length ≤ u.length := by
  induction h with
  | done h => exact fun hp => by simpa using hp
  | bad h _ => exact fun hp => by simpa using hp
  | step h hn hl hr ih => intro hp; have := ih hl.2; rw [List.length_cons]; omega
theorem lx_at {u : Bytes} {p : Nat} {L : List Wd} {o : Option Nat} (h : Lx u p L o) : ∀ x ∈ L, 0 ≤ x.at_ ∧ x.at_ < u.length := by
  induction h with
  | done h => exact fun x hx => by cases hx
  | bad h _ => exact fun x hx => by cases hx
  | step h hn hl hr ih =>
    intro x hx
    rcases List.mem_cons.1 hx with rfl | hx
    · exact ⟨Int.natCast_nonneg _, by show ((_ : Nat) : Int) < _; omega⟩
    · exact ih x hx
theorem Lx.shift {u : Bytes} {p p' : Nat} {L : List Wd} {o : Option Nat} (e : p + runL u p = p' + runL u p') (h : Lx u p' L o) : Lx u p L o := by
  cases h with
  | done h => exact .done (e.trans h)
  | bad h hn => rw [← e] at h hn ⊢; exact .bad h hn
  | step h hn hl hr => rw [← e] at h hn hl hr ⊢; exact .step h hn hl hr

/-! Blanks and what stands behind. -/
/-- Nothing, or a blank first. -/
def Sep (z : Bytes) : Prop := ∀ c, z.head? = some c → blankB c.toNat = true
theorem blank_cases {c : UInt8} (h : blankB c.toNat = true) : (c.toNat : Int) = 32 ∨ (c.toNat : Int) = 9 ∨ (c.toNat : Int) = 10 ∨ (c.toNat : Int) = 13 := by
  unfold blankB at h
  simp only [Bool.or_eq_true, decide_eq_true_eq] at h
  omega
theorem no_named {c : UInt8} (h : blankB c.toNat = true) : namedB c.toNat = false := by rcases blank_cases h with h | h | h | h <;> rw [h] <;> rfl
theorem no_dated {c : UInt8} (h : blankB c.toNat = true) : datedB c.toNat = false := by rcases blank_cases h with h | h | h | h <;> rw [h] <;> rfl
theorem no_digit {c : UInt8} (h : blankB c.toNat = true) : digitB c.toNat = false := by rcases blank_cases h with h | h | h | h <;> rw [h] <;> rfl
theorem no_hex {c : UInt8} (h : blankB c.toNat = true) : hexB c.toNat = false := by rcases blank_cases h with h | h | h | h <;> rw [h] <;> rfl
theorem takeB_loc {p : Int → Bool} (hp : ∀ c : UInt8, blankB c.toNat = true → p c.toNat = false) {z : Bytes} (hz : Sep z) : ∀ r : Bytes, takeB p (r ++ z) = takeB p r
  | [] => by
    cases z with
    | nil => rfl
    | cons c y => simp only [List.nil_append, takeB, List.takeWhile_cons, hp c (hz c rfl)]; rfl
  | c :: t => by
    have ih := takeB_loc hp hz t
    simp only [takeB] at ih
    simp only [List.cons_append, takeB, List.takeWhile_cons, ih]
theorem takeB_stop {p : Int → Bool} {z : Bytes} : ∀ r : Bytes, (takeB p r).length < r.length → takeB p (r ++ z) = takeB p r
  | [], h => by simp at h
  | c :: t, h => by
    simp only [takeB, List.takeWhile_cons, List.cons_append] at h ⊢
    split at h
    · rename_i hc
      have ih := takeB_stop (z := z) t (by simpa [takeB] using h)
      simp only [takeB] at ih
      rw [if_pos hc, if_pos hc, ih]
    · rename_i hc
      rw [if_neg hc, if_neg hc]
theorem takeB_all {p : Int → Bool} : ∀ (b r : Bytes), (∀ c ∈ b, p c.toNat = true) → takeB p (b ++ r) = b ++ takeB p r
  | [], r, _ => rfl
  | c :: t, r, h => by
    have ih := takeB_all t r (fun x hx => h x (.tail _ hx))
    simp only [takeB] at ih
    simp only [List.cons_append, takeB, List.takeWhile_cons, h c (.head _), if_true, ih]
theorem takeB_mem {p : Int → Bool} {r : Bytes} (h : (takeB p r).length = r.length) : ∀ c ∈ r, p c.toNat = true := by
  intro c hc
  have e : takeB p r = r := (List.takeWhile_prefix _).eq_of_length h
  rw [← e] at hc
  unfold takeB at hc
  exact List.all_eq_true.1 (List.all_takeWhile (p := fun c : UInt8 => p c.toNat)) c hc
theorem prefix_loc {z : Bytes} (hz : Sep z) : ∀ (m r : Bytes), (∀ c ∈ m, blankB c.toNat = false) → Lib.hasPrefix (r ++ z) m = Lib.hasPrefix r m
  | [], r, _ => by simp [Lib.hasPrefix]
  | x :: m, [], hm => by
    cases z with
    | nil => rfl
    | cons c y =>
      have hx := hm x (.head _)
      have hc := hz c rfl
      have hne : (x == c) = false := by rw [beq_eq_false_iff_ne]; intro e; rw [e, hc] at hx; cases hx
      simp [Lib.hasPrefix, List.isPrefixOf, hne]
  | x :: m, c :: t, hm => by
    have ih := prefix_loc hz m t (fun y hy => hm y (.tail _ hy))
    unfold Lib.hasPrefix at ih
    simp only [List.cons_append, Lib.hasPrefix, List.isPrefixOf, ih]
theorem cls_loc {r z : Bytes} (h : r ≠ []) (hz : Sep z) : cls (r ++ z) = cls r := by
  cases r with
  | nil => exact absurd rfl h
  | cons c t =>
    have h1 := prefix_loc hz [104, 101, 120, 58] (c :: t) (by decide)
    have h2 := prefix_loc hz [101, 100, 50, 53, 53, 49, 57, 47] (c :: t) (by decide)
    unfold cls
    rw [List.cons_append] at h1 h2 ⊢
    simp only
    rw [h1, h2]
theorem cls_hex {r : Bytes} (h : cls r = 6) : 4 ≤ r.length := by
  unfold cls at h
  split at h
  · cases h
  · split at h
    · cases h
    · split at h
      · rename_i hp; have := pre_len hp; simpa using this
      · split at h
        · cases h
        · split at h
          · cases h
          · split at h
            · cases h
            · split at h <;> cases h
theorem cls_key {r : Bytes} (h : cls r = 8) : 8 ≤ r.length := by
  unfold cls at h
  split at h
  · cases h
  · split at h
    · cases h
    · split at h
      · cases h
      · split at h
        · rename_i hp; have := pre_len hp; simpa using this
        · split at h
          · cases h
          · split at h
            · cases h
            · split at h <;> cases h
theorem esc_loc {t z : Bytes} {b : UInt8} {k : Nat} (h : escF t = some (b, k)) : escF (t ++ z) = some (b, k) ∧ k ≤ t.length := by
  cases t with
  | nil => cases h
  | cons a t =>
    have e : ∀ l : Bytes, Lib.hasPrefix (a :: l) [110] = ((110 : UInt8) == a) := fun l => by simp [Lib.hasPrefix, List.isPrefixOf]
    unfold escF at h ⊢
    rw [List.cons_append]
    rw [e] at h ⊢
    split at h
    · rename_i h1
      rw [if_pos h1]
      exact ⟨h, by cases h; simp⟩
    · rename_i h1
      rw [if_neg h1]
      simp only at h ⊢
      split at h
      · rename_i h2
        rw [if_pos h2]
        exact ⟨h, by cases h; simp⟩
      · rename_i h2
        rw [if_neg h2]
        split at h
        · rename_i h3
          rw [if_pos h3]
          match t, h with
          | x :: y :: l, h =>
            simp only [List.cons_append] at h ⊢
            split at h
            · rename_i h4
              rw [if_pos h4]
              exact ⟨h, by cases h; simp⟩
            · cases h
          | [x], h => cases h
          | [], h => cases h
        · cases h
theorem textF_loc {z : Bytes} : ∀ (n : Nat) (r : Bytes) (x : Bytes × Nat), r.length ≤ n → textF r = some x → textF (r ++ z) = some x
  | n, [], x, _, h => by rw [textF_nil] at h; cases h
  | 0, c :: t, x, hn, _ => by simp at hn
  | n + 1, c :: t, x, hn, h => by
    rw [List.length_cons] at hn
    rw [List.cons_append]
    by_cases h1 : (c.toNat : Int) < 32 ∨ 126 < (c.toNat : Int)
    · rw [textF_out h1] at h; cases h
    by_cases h2 : (c.toNat : Int) = 34
    · rw [textF_end h2] at h ⊢; exact h
    by_cases h3 : (c.toNat : Int) = 92
    · rw [textF_esc h3] at h ⊢
      cases he : escF t with
      | none => rw [he] at h; cases h
      | some bk =>
        obtain ⟨b, k⟩ := bk
        obtain ⟨g1, g2⟩ := esc_loc (z := z) he
        rw [he] at h
        rw [g1]
        simp only at h ⊢
        rw [List.drop_append_of_le_length g2]
        cases ht : textF (t.drop k) with
        | none => rw [ht] at h; cases h
        | some y => rw [ht] at h; rw [textF_loc n (t.drop k) y (by rw [List.length_drop]; omega) ht]; exact h
    · have h4 : 32 ≤ (c.toNat : Int) ∧ (c.toNat : Int) ≤ 126 := by omega
      rw [textF_plain h4 h2 h3] at h ⊢
      cases ht : textF t with
      | none => rw [ht] at h; cases h
      | some y => rw [ht] at h; rw [textF_loc n t y (by omega) ht]; exact h
theorem nextF_loc {neg : Bool} {r z : Bytes} {x : WT} (hz : Sep z) (h : nextF neg r = some x) : nextF neg (r ++ z) = some x := by
  have hr : r ≠ [] := by intro e; subst e; cases h
  obtain ⟨c, t, rfl⟩ : ∃ c t, r = c :: t := by cases r with
    | nil => exact absurd rfl hr
    | cons c t => exact ⟨c, t, rfl⟩
  have T1 : ∀ i, i ≤ (c :: t).length → ((c :: t) ++ z).drop i = (c :: t).drop i ++ z := fun i hi => List.drop_append_of_le_length hi
  have l1 : 1 ≤ (c :: t).length := by simp
  have hcl := cls_loc hr hz
  unfold nextF at h ⊢
  rw [hcl]
  rcases cls_cases hr with hc | hc | hc | hc | hc | hc | hc <;> rw [hc] at h ⊢ <;> simp only at h ⊢
  · unfold wd1 at h ⊢
    rw [takeB_loc (fun _ => no_named) hz]; exact h
  · unfold wd2 at h ⊢
    rw [T1 1 l1, takeB_loc (fun _ => no_named) hz]
    rw [show headL ((c :: t).drop 1 ++ z) = headL ((c :: t).drop 1) from ?_]
    · exact h
    · split at h
      · rename_i hh
        cases hd : (c :: t).drop 1 with
        | nil => rw [hd] at hh; cases hh.1
        | cons a l => rfl
      · cases h
  · unfold wd3 at h ⊢
    rw [takeB_loc (fun _ => no_dated) hz, takeB_loc (fun _ => no_digit) hz]
    unfold numW numB at h ⊢
    rw [takeB_loc (fun _ => no_digit) hz]
    exact h
  · unfold wd4 at h ⊢
    rw [T1 1 l1]
    split at h
    · rename_i T m hT
      rw [textF_loc _ _ _ (Nat.le_refl _) hT]
      exact h
    · cases h
  · unfold wd6 at h ⊢
    rw [T1 4 (cls_hex hc), takeB_loc (fun _ => no_hex) hz]; exact h
  · unfold wd7 at h ⊢
    have hm : markF ((c :: t) ++ z) = markF (c :: t) := by
      unfold markF
      refine Lib.find_congr fun m hm => prefix_loc hz m _ ?_
      unfold marks2 at hm
      simp only [List.mem_cons, List.not_mem_nil, or_false] at hm
      rcases hm with rfl | rfl | rfl | rfl | rfl | rfl | rfl <;> decide
    rw [hm]
    exact h
  · unfold wd8 at h ⊢
    rw [T1 8 (cls_key hc), takeB_loc (fun _ => no_hex) hz]; exact h

def sh (d : Nat) (x : Wd) : Wd := ⟨x.kind, x.s, x.n, x.at_ + d⟩
/-- Words that are known stand in a greater text as they stood. -/
theorem lx_in {s X Z : Bytes} (hZ : Sep Z) (hX : negB (X ++ (s ++ Z)) X.length = false) {p : Nat} {L : List Wd} {o' : Option Nat} (h : Lx s p L o') : o' = none → p ≤ s.length → ∀ {M : List Wd} {o : Option Nat}, Lx (X ++ (s ++ Z)) (X.length + s.length) M o → Lx (X ++ (s ++ Z)) (X.length + p) (L.map (sh X.length) ++ M) o := by
  have D : ∀ i, i ≤ s.length → (X ++ (s ++ Z)).drop (X.length + i) = s.drop i ++ Z := fun i hi => by
    rw [← drop_plus, List.drop_left, List.drop_append_of_le_length hi]
  have hlen : (X ++ (s ++ Z)).length = X.length + s.length + Z.length := by simp; omega
  have hD : ∀ i, (s.drop i).length = s.length - i := fun i => List.length_drop
  induction h with
  | @done p h =>
    intro _ hp M o hM
    refine Lx.shift ?_ hM
    have hall := takeB_mem (p := blankB) (r := s.drop p) (by unfold runL at h; rw [hD]; omega)
    unfold runL
    rw [D p hp, D s.length (Nat.le_refl _), takeB_all _ _ hall, List.length_append, hD]
    simp
    omega
  | bad _ _ => intro h; cases h
  | @step p len k S n L o'' h hn hl hr ih =>
    intro ho hp M o hM
    have hrun : runL (X ++ (s ++ Z)) (X.length + p) = runL s p := by
      unfold runL at h ⊢
      rw [D p hp, takeB_stop _ (by rw [hD]; omega)]
    have hneg : negB (X ++ (s ++ Z)) (X.length + (p + runL s p)) = negB s (p + runL s p) := by
      rcases Nat.eq_zero_or_pos (p + runL s p) with h0 | h0
      · rw [h0, Nat.add_zero, hX]; rfl
      · unfold negB
        rw [decide_eq_decide, List.getElem?_append_right (by omega), List.getElem?_append_left (by omega), show X.length + (p + runL s p) - 1 - X.length = p + runL s p - 1 by omega]
        exact and_congr (by omega) Iff.rfl
    have := ih ho hl.2 hM
    have e : X.length + p + runL (X ++ (s ++ Z)) (X.length + p) = X.length + (p + runL s p) := by rw [hrun]; omega
    have hst := Lx.step (u := X ++ (s ++ Z)) (p := X.length + p) (len := len) (k := k) (S := S) (n := n) (L := L.map (sh X.length) ++ M) (o := o)
      (by rw [e]; omega) (by rw [e, hneg, D _ (Nat.le_of_lt h)]; exact nextF_loc hZ hn) (by rw [e]; omega) (by rw [e, Nat.add_assoc]; exact this)
    rw [e] at hst
    rw [List.map_cons, List.cons_append]
    have e3 : sh X.length ⟨k, mkS S, n, ((p + runL s p : Nat) : Int)⟩ = ⟨k, mkS S, n, ((X.length + (p + runL s p) : Nat) : Int)⟩ := by
      unfold sh; simp only [Wd.mk.injEq, true_and]; omega
    rw [e3]
    exact hst
/-- Blanks are passed over. -/
theorem lx_skip {X b Y : Bytes} (hb : ∀ c ∈ b, blankB c.toNat = true) {L : List Wd} {o : Option Nat} (h : Lx (X ++ (b ++ Y)) (X.length + b.length) L o) : Lx (X ++ (b ++ Y)) X.length L o := by
  refine h.shift ?_
  unfold runL
  rw [List.drop_left, takeB_all _ _ hb, ← drop_plus, List.drop_left, List.drop_left, List.length_append]
  omega
end Go.Proofs.YtijajfelmekmiaaDoor
