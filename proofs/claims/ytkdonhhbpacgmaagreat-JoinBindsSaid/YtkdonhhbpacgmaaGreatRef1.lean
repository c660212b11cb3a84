/- The document's own answers on names (viaticumref6): as the program's. -/
import Derived.Test.YtkdonhhbpacgmaaGreatOwn
import Derived.Test.YtkdonhhbpacgmaaGreatTerm5
set_option linter.unusedVariables false
set_option linter.unusedSimpArgs false
namespace Go.Proofs.YtkdonhhbpacgmaaGreat
open Go.ChangeShapes Go.WideShapes Go.ChangeAt Go.RowKit
def eqL {α : Type} (f : α → α → Bool) : List α → List α → Bool
 | [], [] => true
 | x :: xs, y :: ys => f x y && eqL f xs ys
 | _, _ => false
theorem eqL_len {α : Type} {f : α → α → Bool} : ∀ {xs ys : List α}, xs.length ≠ ys.length → eqL f xs ys = false
 | [], [], h => absurd rfl h
 | [], _ :: _, _ => rfl
 | _ :: _, [], _ => rfl
 | x :: xs, y :: ys, h => by rw [eqL, eqL_len (xs := xs) (ys := ys) (by simpa using h), Bool.and_false]
theorem eqL_refl {α : Type} {f : α → α → Bool} (hf : ∀ x, f x x = true) : ∀ (xs : List α), eqL f xs xs = true
 | [] => rfl
 | x :: xs => by rw [eqL, hf, eqL_refl hf xs]; rfl
open Go.ChangeShapes Go.WideShapes Go.ChangeAt Go.RowKit
set_option maxHeartbeats 400000 in
theorem refSign_any (b : Bool) (w : World) :
   Calls Tryz.prog 93 #[.bool b] w fun e w' => e = .returned (.int .i64 (if b then -1 else 1)) ∧ w = w' := by
 cases b
 all_goals
   go_enter Tryz.func93, Tryz.ntmps93
   go_wp2_with fail
   go_ret
   exact ⟨rfl, rfl⟩
set_option maxHeartbeats 400000 in
theorem refLetter_any (c : Int) (w : World) (h0 : 0 ≤ c) (h1 : c ≤ 255) :
   Calls Tryz.prog 59 #[.int .u8 c] w fun e w' => e = .returned (.bool (letterB c)) ∧ w = w' := by
 have hc : (97 ≤ c ∧ c ≤ 122) ∨ (65 ≤ c ∧ c ≤ 90) ∨ (c < 65) ∨ (90 < c ∧ c < 97) ∨ 122 < c := by omega
 rcases hc with h | h | h | h | h
 all_goals
   go_enter Tryz.func59, Tryz.ntmps59
   go_wp2_with fail
   go_ret
   refine ⟨ret_bool ?_, rfl⟩
   rw [Bool.eq_iff_iff, letterB_iff]
   simp
   try omega
set_option maxHeartbeats 1000000 in
theorem refInner_any (c : Int) (w : World) (h0 : 0 ≤ c) (h1 : c ≤ 255) :
   Calls Tryz.prog 60 #[.int .u8 c] w fun e w' => e = .returned (.bool (nameAt 1 c)) ∧ w = w' := by
 by_cases hl : letterB c = true
 · go_enter Tryz.func60, Tryz.ntmps60
   go_wp2_with fail
   refine (refLetter_any c w h0 h1).mono ?_
   rintro e w1 ⟨rfl, rfl⟩
   rw [hl]
   go_wp2_with fail
   go_ret
   exact ⟨ret_bool (by simp [nameAt, hl]), rfl⟩
 · simp only [Bool.not_eq_true] at hl
   have hc : (48 ≤ c ∧ c ≤ 57) ∨ c = 95 ∨ c = 58 ∨ c < 48 ∨ (58 < c ∧ c < 95) ∨ 95 < c := by omega
   rcases hc with h | rfl | rfl | h | h | h
   all_goals
     go_enter Tryz.func60, Tryz.ntmps60
     go_wp2_with fail
     refine (refLetter_any _ w h0 h1).mono ?_
     rintro e w1 ⟨rfl, rfl⟩
     rw [hl]
     go_wp2_with fail
     go_ret
     refine ⟨ret_bool ?_, rfl⟩
     rw [Bool.eq_iff_iff, nameAt_iff]
     have hl2 := hl
     rw [Bool.eq_false_iff, ne_eq, letterB_iff] at hl2
     simp
     try omega
theorem nameB_not {s : ByteArray} (h : ¬ (((∀ i, (h : i < s.size) → nameAt i s[i].toNat = true) ∧ 1 ≤ s.size ∧ s.size ≤ 32) ∧ Lib.hasPrefix (bs s) (bs hexB) = false)) : false = nameB (bs s) := by
 rw [eq_comm, Bool.eq_false_iff, ne_eq, nameB_iff]
 exact h
theorem refName_short (s : ByteArray) (w : World) (hs : s.size ≤ maxLen) (t1 : ¬ (1 ≤ s.size ∧ s.size ≤ 32)) :
   Calls Tryz.prog 33 #[.string s] w fun e w' => e = .returned (.bool (nameB (bs s))) ∧ w = w' := by
 unfold maxLen at hs
 go_enter Tryz.func33, Tryz.ntmps33
 go_wp2_with fail
 all_goals
   go_ret
   exact ⟨ret_bool (nameB_not (by omega)), rfl⟩
theorem hexQ {s : ByteArray} (h : 4 ≤ s.size) : ((s.extract 0 4).toList == [104, 101, 120, 58]) = Lib.hasPrefix (bs s) (bs hexB) := by
 rw [← Lib.hasPrefix_of_take, ← Lib.size_eq, ← Lib.size_eq]
 have e : hexB.toList = [104, 101, 120, 58] := by rw [ByteArray.toList_eq]; rfl
 have h4 : hexB.size = 4 := rfl
 rw [← e, same_iff, Bool.eq_iff_iff]
 simp [h4, h, Lib.extract_data]
theorem hexN {s : ByteArray} (h : s.size < 4) : Lib.hasPrefix (bs s) (bs hexB) = false := by
 rw [← Lib.hasPrefix_of_take, ← Lib.size_eq, ← Lib.size_eq]
 have h4 : hexB.size = 4 := rfl
 simp [h4]
 omega
set_option maxRecDepth 100000 in
set_option maxHeartbeats 2000000 in
theorem refName_any (s : ByteArray) (w : World) (hs : s.size ≤ maxLen) :
   Calls Tryz.prog 33 #[.string s] w fun e w' => e = .returned (.bool (nameB (bs s))) ∧ w = w' := by
 by_cases t1 : 1 ≤ s.size ∧ s.size ≤ 32
 rotate_left
 · exact refName_short s w hs t1
 unfold maxLen at hs
 have hb : (s[0].toNat : Int) ≤ 255 := by have := s[0].toNat_lt; omega
 by_cases hl : letterB s[0].toNat = true
 rotate_left
 · simp only [Bool.not_eq_true] at hl
   go_enter Tryz.func33, Tryz.ntmps33
   go_wp2_with fail
   refine (refLetter_any _ w (by omega) (by omega)).mono ?_
   rintro e w1 ⟨rfl, rfl⟩
   rw [hl]
   go_wp2_with fail
   go_ret
   refine ⟨ret_bool (nameB_not fun h => ?_), rfl⟩
   have := h.1.1 0 (by omega)
   rw [nameAt, hl] at this
   simp at this
 have HL0 := Lib.hid hl
 have key : (4 ≤ s.size ∧ ((s.extract 0 4).toList == [104, 101, 120, 58]) = true) ∨ (Lib.hasPrefix (bs s) (bs hexB) = false ∧ 4 ≤ s.size ∧ ((s.extract 0 4).toList == [104, 101, 120, 58]) = false) ∨ (Lib.hasPrefix (bs s) (bs hexB) = false ∧ s.size < 4) := by
   by_cases t4 : 4 ≤ s.size
   · cases hx : ((s.extract 0 4).toList == [104, 101, 120, 58])
     · exact .inr (.inl ⟨by rw [← hexQ t4, hx], t4, rfl⟩)
     · exact .inl ⟨t4, rfl⟩
   · exact .inr (.inr ⟨hexN (by omega), by omega⟩)
 rcases key with ⟨t4, hx⟩ | hk
 · have HX := Lib.hid hx
   go_enter Tryz.func33, Tryz.ntmps33
   go_wp2_with fail
   refine (refLetter_any _ w (by omega) (by omega)).mono ?_
   rintro e w1 ⟨rfl, rfl⟩
   rw [hl]
   go_wp2_with fail
   go_ret
   refine ⟨ret_bool (nameB_not fun h => ?_), rfl⟩
   have h2 := h.2
   rw [← hexQ t4, HX.out] at h2
   cases h2
 have HP := Lib.hid (show Lib.hasPrefix (bs s) (bs hexB) = false by rcases hk with h | h <;> exact h.1)
 have hk' : (4 ≤ s.size ∧ ((s.extract 0 4).toList == [104, 101, 120, 58]) = false) ∨ s.size < 4 := by rcases hk with h | h <;> simp [h.2]
 clear hk
 rcases hk' with ⟨t4, hx⟩ | t4
 all_goals
   go_enter Tryz.func33, Tryz.ntmps33
   go_wp2_with fail
   refine (refLetter_any _ w (by omega) (by omega)).mono ?_
   rintro e w1 ⟨rfl, rfl⟩
   rw [hl]
   go_wp2_with fail
   go_loop [30] (fun i => ∃ k : Nat, k ≤ s.size ∧ i = .int .i64 k ∧ (∀ i, (h : i < k) → (h' : i < s.size) → nameAt i s[i].toNat = true)) (fun i => s.size - (intOf i).toNat)
   case atStart => exact ⟨0, Nat.zero_le _, rfl, fun i h => by omega⟩
   case round =>
     obtain ⟨k, hk, rfl, hall⟩ := hrel
     have HA := Lib.hid hall
     clear hall
     by_cases hlt : k < s.size
     · have hbk : (s[k].toNat : Int) ≤ 255 := by have := s[k].toNat_lt; omega
       have HN : Hid (nameAt 1 s[k].toNat = true → nameAt k s[k].toNat = true) := by
         intro h1
         rcases Nat.eq_zero_or_pos k with rfl | hk0
         · simp [nameAt, HL0.out]
         · rw [nameAt_iff] at h1 ⊢
           rcases h1 with h1 | h1
           · exact .inl h1
           · exact .inr ⟨by omega, h1.2⟩
       have HM : Hid (nameAt 1 s[k].toNat = false → ¬ nameAt k s[k].toNat = true) := by
         intro h1
         rw [Bool.eq_false_iff, ne_eq, nameAt_iff] at h1
         rw [nameAt_iff]
         intro h2
         apply h1
         rcases h2 with h2 | h2
         · exact .inl h2
         · exact .inr ⟨by omega, h2.2⟩
       go_wp2_with fail
       refine (refInner_any _ w (by omega) (by omega)).mono ?_
       rintro e w1 ⟨rfl, rfl⟩
       by_cases hn : nameAt 1 s[k].toNat = true
       · have HN2 := Lib.hid (HN.out hn)
         rw [hn]
         go_wp2_with fail
         go_round
         case rel => exact ⟨k + 1, by omega, by go_num, fun i h h' => by
            rcases Nat.lt_or_ge i k with h1 | h1
            · exact HA.out i h1 h'
            · obtain rfl : i = k := by omega
              exact HN2.out⟩
         case measure => simp [intOf]; omega
       · simp only [Bool.not_eq_true] at hn
         have HN2 := Lib.hid (HM.out hn)
         rw [hn]
         go_wp2_with fail
         go_ret
         exact ⟨ret_bool (nameB_not fun h => HN2.out (h.1.1 k hlt)), rfl⟩
     · go_wp2_with fail
       go_ret
       refine ⟨ret_bool ?_, rfl⟩
       show true = _
       rw [eq_comm, nameB_iff]
       exact ⟨⟨fun i hi => HA.out i (by omega) hi, by omega, by omega⟩, HP.out⟩
end Go.Proofs.YtkdonhhbpacgmaaGreat
