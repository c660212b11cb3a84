/- Bytes in base 16 and quoted texts, read back. No Go text is walked here. -/
import Derived.Test.YtijajfelmekmiaaDoorLNext
set_option linter.unusedVariables false
set_option linter.unusedSimpArgs false
namespace Go.Proofs.YtijajfelmekmiaaDoor
open Go.ChangeShapes Go.WideShapes Go.ChangeAt Go.RowKit

def dig16 : ByteArray := ⟨#[48, 49, 50, 51, 52, 53, 54, 55, 56, 57, 97, 98, 99, 100, 101, 102]⟩
def hexDig (n : Nat) : UInt8 := (bs dig16).getD n 0
def hex2 (c : UInt8) : Bytes := [hexDig (c.toNat / 16), hexDig (c.toNat % 16)]
/-- Bytes in base 16. -/
def hexL : Bytes → Bytes
  | [] => []
  | c :: t => hex2 c ++ hexL t
theorem hexL_append (a b : Bytes) : hexL (a ++ b) = hexL a ++ hexL b := by
  induction a with
  | nil => rfl
  | cons c t ih => simp only [List.cons_append, hexL, ih, List.append_assoc]
theorem hexL_one (c : UInt8) : hexL [c] = hex2 c := by simp [hexL]
theorem hexL_len : ∀ a : Bytes, (hexL a).length = 2 * a.length
  | [] => rfl
  | c :: t => by simp only [hexL, hex2, List.length_append, List.length_cons, List.length_nil, hexL_len t]; omega
theorem hexDig_hex : ∀ n : Fin 16, hexB (hexDig n.val).toNat = true := of_decide_eq_true (by kernel_rfl)
theorem hexDig_back : ∀ n : Fin 256, hexPair (hexDig (n.val / 16)) (hexDig (n.val % 16)) = UInt8.ofNat n.val := of_decide_eq_true (by kernel_rfl)
theorem hex_back (c : UInt8) : hexPair (hexDig (c.toNat / 16)) (hexDig (c.toNat % 16)) = c := by
  have := hexDig_back ⟨c.toNat, c.toNat_lt⟩
  simpa using this
theorem hex_hi (c : UInt8) : hexB (hexDig (c.toNat / 16)).toNat = true := hexDig_hex ⟨c.toNat / 16, by have := c.toNat_lt; omega⟩
theorem hex_lo (c : UInt8) : hexB (hexDig (c.toNat % 16)).toNat = true := hexDig_hex ⟨c.toNat % 16, by omega⟩
theorem unhex_hexL : ∀ t : Bytes, unhex (hexL t) = t
  | [] => rfl
  | c :: t => by simp only [hexL, hex2, List.cons_append, List.nil_append, unhex, hex_back, unhex_hexL t]
theorem takeB_hexL : ∀ t : Bytes, takeB hexB (hexL t) = hexL t
  | [] => rfl
  | c :: t => by
    have ih := takeB_hexL t
    unfold takeB at ih ⊢
    simp only [hexL, hex2, List.cons_append, List.nil_append, List.takeWhile_cons, hex_hi, hex_lo, if_true, ih]

/-- A byte between quotes. -/
def qc (c : UInt8) : Bytes := if (c.toNat : Int) = 34 ∨ (c.toNat : Int) = 92 then [92, c] else if (c.toNat : Int) = 10 then [92, 110] else if (c.toNat : Int) < 32 ∨ 126 < (c.toNat : Int) then 92 :: 120 :: hex2 c else [c]
def qb : Bytes → Bytes
  | [] => []
  | c :: t => qc c ++ qb t
def quoteL (s : Bytes) : Bytes := 34 :: (qb s ++ [34])
theorem qb_append (a b : Bytes) : qb (a ++ b) = qb a ++ qb b := by
  induction a with
  | nil => rfl
  | cons c t ih => simp only [List.cons_append, qb, ih, List.append_assoc]
theorem qb_one (c : UInt8) : qb [c] = qc c := by simp [qb]
theorem qc_len (c : UInt8) : (qc c).length ≤ 4 := by
  unfold qc
  split
  · simp
  · split
    · simp
    · split <;> simp [hex2]
theorem qb_len : ∀ a : Bytes, (qb a).length ≤ 4 * a.length
  | [] => by simp [qb]
  | c :: t => by
    have := qb_len t
    have := qc_len c
    simp only [qb, List.length_append, List.length_cons]; omega
theorem esc_two (c : UInt8) (r : Bytes) (h : (c.toNat : Int) = 34 ∨ (c.toNat : Int) = 92) : escF (c :: r) = some (c, 1) := by
  have hne : ((110 : UInt8) == c) = false := by
    rw [beq_eq_false_iff_ne]; intro e; subst e; revert h; decide
  unfold escF
  rw [if_neg (by simp [Lib.hasPrefix, List.isPrefixOf, hne])]
  simp only [if_pos h]
theorem esc_hex (c : UInt8) (r : Bytes) : escF (120 :: (hex2 c ++ r)) = some (c, 3) := by
  unfold escF
  rw [if_neg (by simp [Lib.hasPrefix, List.isPrefixOf])]
  simp only [hex2, List.cons_append, List.nil_append, hex_hi, hex_lo, hex_back, Bool.and_self, if_true]
  rfl
theorem textF_q (z : Bytes) : ∀ s : Bytes, textF (qb s ++ 34 :: z) = some (s, (qb s).length + 1)
  | [] => textF_end rfl
  | c :: t => by
    have ih := textF_q z t
    simp only [qb, List.append_assoc]
    unfold qc
    split
    · rename_i h
      simp only [List.cons_append, List.nil_append]
      rw [textF_esc rfl, esc_two c _ h]
      simp only [List.drop_succ_cons, List.drop_zero, ih, Option.map_some, List.length_cons]
      simp; omega
    · rename_i h
      split
      · rename_i h1
        have hc : c = 10 := by
          have : c.toNat = (10 : UInt8).toNat := by show c.toNat = 10; omega
          exact UInt8.toNat_inj.1 this
        subst hc
        simp only [List.cons_append, List.nil_append]
        rw [textF_esc rfl, esc_n rfl]
        simp only [List.drop_succ_cons, List.drop_zero, ih, Option.map_some, List.length_cons]
        simp; omega
      · rename_i h1
        split
        · rename_i h2
          simp only [List.cons_append]
          rw [textF_esc rfl, esc_hex c]
          simp only [hex2, List.cons_append, List.nil_append, List.drop_succ_cons, List.drop_zero, ih, Option.map_some, List.length_cons]
          simp; omega
        · rename_i h2
          simp only [List.cons_append, List.nil_append]
          rw [textF_plain (by omega) (by omega) (by omega), ih]
          simp; omega

theorem cls_quote (r : Bytes) : cls (34 :: r) = 4 := rfl
theorem cls_hexs (r : Bytes) : cls (104 :: 101 :: 120 :: 58 :: r) = 6 := by simp [cls, Lib.hasPrefix, List.isPrefixOf]
theorem next_quote (neg : Bool) (s z : Bytes) : nextF neg (quoteL s ++ z) = if 256 < s.length then none else some (4, s, 0, (quoteL s).length) := by
  have e : quoteL s ++ z = 34 :: (qb s ++ 34 :: z) := by simp [quoteL]
  unfold nextF
  rw [e, cls_quote]
  show wd4 _ = _
  unfold wd4
  rw [List.drop_succ_cons, List.drop_zero, textF_q]
  simp only [quoteL, List.length_cons, List.length_append, List.length_nil]
  split
  · rfl
  · simp; omega
theorem next_hex (neg : Bool) (t : Bytes) : nextF neg (104 :: 101 :: 120 :: 58 :: hexL t) = if 256 < t.length then none else some (6, t, 0, 4 + 2 * t.length) := by
  unfold nextF
  rw [cls_hexs]
  show wd6 _ = _
  unfold wd6
  simp only [List.drop_succ_cons, List.drop_zero, takeB_hexL, unhex_hexL, hexL_len]
  by_cases h : 256 < t.length
  · rw [if_pos h, if_pos (by omega)]
  · rw [if_neg h, if_neg (by omega)]
theorem runL_no {u : Bytes} {p : Nat} {c : UInt8} {r : Bytes} (h : u.drop p = c :: r) (hc : blankB c.toNat = false) : runL u p = 0 := by
  unfold runL takeB
  rw [h, List.takeWhile_cons, if_neg (by rw [hc]; decide)]
  rfl
theorem quotes_second (q t : Bytes) (hq : (q ++ (32 :: 104 :: 101 :: 120 :: 58 :: hexL t)).drop q.length = 32 :: 104 :: 101 :: 120 :: 58 :: hexL t) :
    Lx (q ++ (32 :: 104 :: 101 :: 120 :: 58 :: hexL t)) q.length (if 256 < t.length then [] else [⟨6, mkS t, 0, ((q.length + 1 : Nat) : Int)⟩]) (if 256 < t.length then some (q.length + 1) else none) := by
  have hlen : (q ++ (32 :: 104 :: 101 :: 120 :: 58 :: hexL t)).length = q.length + (5 + 2 * t.length) := by simp [hexL_len]; omega
  generalize hu : q ++ (32 :: 104 :: 101 :: 120 :: 58 :: hexL t) = u at *
  have hrun : runL u q.length = 1 := by
    unfold runL takeB
    rw [hq, List.takeWhile_cons, if_pos (by rfl), List.takeWhile_cons, if_neg (by decide)]
    rfl
  have hd : u.drop (q.length + 1) = 104 :: 101 :: 120 :: 58 :: hexL t := by
    rw [← drop_plus, hq]; rfl
  have hn := next_hex (negB u (q.length + 1)) t
  by_cases h : 256 < t.length
  · rw [if_pos h] at hn ⊢
    rw [if_pos h]
    have := Lx.bad (u := u) (p := q.length) (by rw [hrun]; omega) (by rw [hrun, hd]; exact hn)
    rwa [hrun] at this
  · rw [if_neg h] at hn ⊢
    rw [if_neg h]
    have hend : Lx u (q.length + runL u q.length + (4 + 2 * t.length)) [] none := by
      refine .done ?_
      have e0 : u.drop (q.length + runL u q.length + (4 + 2 * t.length)) = [] := List.drop_eq_nil_of_le (by rw [hrun]; omega)
      unfold runL
      unfold runL at e0
      rw [e0]
      have hr2 : (takeB blankB (List.drop q.length u)).length = 1 := hrun
      rw [hr2]
      simp [takeB]; omega
    have := Lx.step (u := u) (p := q.length) (len := 4 + 2 * t.length) (by rw [hrun]; omega) (by rw [hrun, hd]; exact hn) (by rw [hrun]; omega) hend
    rwa [hrun] at this
/-- The words of a quoted text, a blank, and bytes in base 16. -/
theorem quotes_lx (s t : Bytes) : Lx (quoteL s ++ (32 :: 104 :: 101 :: 120 :: 58 :: hexL t)) 0
    (if 256 < s.length then [] else ⟨4, mkS s, 0, 0⟩ :: (if 256 < t.length then [] else [⟨6, mkS t, 0, (((quoteL s).length + 1 : Nat) : Int)⟩]))
    (if 256 < s.length then some 0 else if 256 < t.length then some ((quoteL s).length + 1) else none) := by
  have h2 := quotes_second (quoteL s) t (List.drop_left)
  have hn := next_quote (negB (quoteL s ++ (32 :: 104 :: 101 :: 120 :: 58 :: hexL t)) 0) s (32 :: 104 :: 101 :: 120 :: 58 :: hexL t)
  have hlen : (quoteL s ++ (32 :: 104 :: 101 :: 120 :: 58 :: hexL t)).length = (quoteL s).length + (5 + 2 * t.length) := by simp [hexL_len]; omega
  have hql : 0 < (quoteL s).length := by simp [quoteL]
  have hrun : runL (quoteL s ++ (32 :: 104 :: 101 :: 120 :: 58 :: hexL t)) 0 = 0 := by
    refine runL_no (c := 34) (r := qb s ++ [34] ++ (32 :: 104 :: 101 :: 120 :: 58 :: hexL t)) ?_ rfl
    rw [List.drop_zero]; simp [quoteL]
  generalize quoteL s ++ (32 :: 104 :: 101 :: 120 :: 58 :: hexL t) = u at *
  by_cases h : 256 < s.length
  · rw [if_pos h] at hn ⊢
    rw [if_pos h]
    have := Lx.bad (u := u) (p := 0) (by rw [hrun]; omega) (by rw [hrun]; exact hn)
    rwa [hrun] at this
  · rw [if_neg h] at hn ⊢
    rw [if_neg h]
    have := Lx.step (u := u) (p := 0) (len := (quoteL s).length) (by rw [hrun]; omega) (by rw [hrun]; exact hn) (by rw [hrun]; omega) (by rw [hrun]; simpa using h2)
    rw [hrun] at this
    exact this
end Go.Proofs.YtijajfelmekmiaaDoor
