/- (*lex.scanner).run. -/
import Derived.Test.YtijajfelmekmiaaDoorLex1
set_option linter.unusedVariables false
set_option linter.unusedSimpArgs false
namespace Go.Proofs.YtijajfelmekmiaaDoor
open Go.ChangeShapes Go.WideShapes Go.ChangeAt Go.RowKit

/-- The bytes from a place on, as long as they are of some sort. -/
def takeB (p : Int → Bool) (r : Bytes) : Bytes := r.takeWhile (fun c => p c.toNat)
def runN (p : Int → Bool) (s : ByteArray) (at_ : Nat) : Nat := (takeB p ((bs s).drop at_)).length

theorem bs_get (s : ByteArray) (i : Nat) (h : i < s.size) : (bs s)[i]'(by rw [bs_length]; exact h) = s[i] := by
  cases s with
  | mk d => simp [bs, ByteArray.getElem_eq_getElem_data]

theorem takeW_len {α : Type} (p : α → Bool) : ∀ (l : List α) (n : Nat), (∀ i (h : i < l.length), i < n → p l[i] = true) → (n ≤ l.length) → ((h : n < l.length) → p l[n] = false) → (l.takeWhile p).length = n
  | [], n, _, hn, _ => by simp at hn; simp [hn]
  | x :: l, 0, _, _, h => by
    have := h (by simp)
    simp at this
    simp [List.takeWhile_cons, this]
  | x :: l, n + 1, h, hn, h2 => by
    have hx : p x = true := h 0 (by simp) (by omega)
    rw [List.takeWhile_cons, if_pos hx, List.length_cons]
    rw [takeW_len p l n (fun i hi hin => h (i + 1) (by simp; omega) (by omega)) (by simp at hn; omega) (fun hh => h2 (by simp; omega))]

theorem runN_eq {p : Int → Bool} {s : ByteArray} {at_ k : Nat} (h0 : at_ ≤ k) (h1 : k ≤ s.size) (ha : ∀ i, at_ ≤ i → i < k → (h : i < s.size) → p s[i].toNat = true) (hz : (h : k < s.size) → p s[k].toNat = false) : k = at_ + runN p s at_ := by
  have : runN p s at_ = k - at_ := by
    unfold runN takeB
    refine takeW_len _ _ _ (fun i hi hin => ?_) (by rw [List.length_drop, bs_length]; omega) (fun hh => ?_)
    · rw [List.length_drop, bs_length] at hi
      rw [List.getElem_drop, bs_get s _ (by omega)]
      exact ha _ (by omega) (by omega) (by omega)
    · rw [List.length_drop, bs_length] at hh
      have e : at_ + (k - at_) = k := by omega
      simp only [List.getElem_drop, e]
      rw [bs_get s _ (by omega)]
      exact hz (by omega)
  omega
theorem runN_le (p : Int → Bool) (s : ByteArray) (at_ : Nat) (h : at_ ≤ s.size) : at_ + runN p s at_ ≤ s.size := by
  have : runN p s at_ ≤ ((bs s).drop at_).length := (List.takeWhile_sublist _).length_le
  rw [List.length_drop, bs_length] at this
  omega

/-- Where a scanner stands. -/
def posOf (w : World) (g : Nat) : Nat := (intOf ((w.cell? ⟨g, 1, none⟩).getD undef)).toNat
theorem posOf_eq {w : World} {g at_ : Nat} {s : ByteArray} {bad : Bool} (h : SC w g s at_ bad) : posOf w g = at_ := by
  unfold posOf; rw [h.cell]; simp [intOf]

set_option maxRecDepth 100000 in
set_option maxHeartbeats 4000000 in
theorem run_any {w : World} {g at_ : Nat} {s : ByteArray} {bad : Bool} (F : FuncId) (p : Int → Bool) (hF : ∀ args (w : World), (callFunc F args).run Tryd.prog w = .ok (.enter F args) w)
    (hp : ∀ (c : Int) (w : World), 0 ≤ c → c ≤ 255 → Calls Tryd.prog F #[.int .u8 c] w fun e w' => e = .returned (.bool (p c)) ∧ w = w')
    (hb : SC w g s at_ bad) (hat : at_ ≤ s.size) (hs : s.size ≤ 1000000) :
    Calls Tryd.prog 12 #[.pointer (some ⟨g, 0, none⟩), .func (.func F) #[] #[]] w fun e w' => e = .returned (.string (s.extract at_ (at_ + runN p s at_))) ∧ SC w' g s (at_ + runN p s at_) bad ∧ Exc g w w' := by
  have HP := Lib.hid hp
  have hg := hb.lt
  clear hp
  go_enter Tryd.func12, Tryd.ntmps12
  have k_g := hb.cell
  go_wp2_with fail
  clear k_g
  go_loopw [] (fun wr => ∃ k : Nat, at_ ≤ k ∧ k ≤ s.size ∧ SC wr g s k bad ∧ Exc g w wr ∧ Hid (∀ i, at_ ≤ i → i < k → (h : i < s.size) → p s[i].toNat = true)) (fun wr => s.size - posOf wr g)
  case atStart => exact ⟨at_, Nat.le_refl _, hat, hb, Exc.refl _ _, Lib.hid (fun i h h' => by omega)⟩
  case round =>
    obtain ⟨k, hk0, hk1, b_g, HE, HA⟩ := hrel
    have HX := Lib.hid HE
    have k_g := b_g.cell
    have q_g := b_g.regrown
    have f_g := b_g.free
    have hgr : g ≤ wr.heap.size := Nat.le_of_lt b_g.lt
    clear HE
    by_cases hlt : k < s.size
    · have hc1 : (s[k].toNat : Int) ≤ 255 := by have := s[k].toNat_lt; omega
      have HC := Lib.hid (fun w => HP.out (s[k].toNat : Int) w (by omega) hc1)
      have hq : p s[k].toNat = true ∨ p s[k].toNat = false := by cases p s[k].toNat <;> simp
      rcases hq with hq | hq
      · have HQ := Lib.hid hq
        rw [hq] at HC
        clear hq
        go_wp2_with fail
        refine wp_region_quiet_below (by kernel_rfl) (by kernel_rfl) ?_
        repeat (go_big_quiet_step (exact Calls.regrown_of ((HC.out _).mono (by rintro e w' ⟨rfl, rfl⟩; exact ⟨rfl, Below.refl _ _⟩))))
        refine wpQuiet_nil ?_
        intro w1 hw1
        have hb1 : Below wr.heap.size wr w1 := by obtain ⟨p, rfl⟩ := hw1; exact below_regrown _ _ _
        clear hw1 q_g k_g f_g
        have b_g1 := b_g.later hb1
        have HE1 := Lib.hid (HX.out.then (Nat.le_of_lt hg) hb1)
        have k_g := b_g1.cell
        have f_g := b_g1.free
        have l_g := b_g1.lt
        go_wp2_with fail
        have b_g2 : SC (w1.setCell ⟨g, 1, none⟩ (.int .i64 ((k + 1 : Nat) : Int))) g s (k + 1) bad := b_g1.set_ 1 _
        have HE2 := Lib.hid (HE1.out.set 1 (.int .i64 ((k + 1 : Nat) : Int)))
        have ek : ((k + 1 : Nat) : Int) = (k : Int) + 1 := by omega
        rw [ek] at b_g2 HE2
        clear ek
        go_roundw
        case rel => exact ⟨k + 1, by omega, by omega, b_g2, HE2.out, Lib.hid (fun i h1 h2 h3 => by
          rcases Nat.lt_or_ge i k with h4 | h4
          · exact HA.out i h1 h4 h3
          · obtain rfl : i = k := by omega
            exact HQ.out)⟩
        case measure =>
          have e1 := posOf_eq b_g
          have e2 : posOf (w1.setCell ⟨g, 1, none⟩ (.int .i64 ((k : Int) + 1))) g = k + 1 := posOf_eq (s := s) (bad := bad) b_g2
          rw [e1, e2]
          omega
      · have HK := Lib.hid (runN_eq hk0 hk1 HA.out (fun _ => hq))
        rw [hq] at HC
        clear hq
        go_wp2_with fail
        refine wp_region_quiet_below (by kernel_rfl) (by kernel_rfl) ?_
        repeat (go_big_quiet_step (exact Calls.regrown_of ((HC.out _).mono (by rintro e w' ⟨rfl, rfl⟩; exact ⟨rfl, Below.refl _ _⟩))))
        refine wpQuiet_nil ?_
        intro w1 hw1
        have hb1 : Below wr.heap.size wr w1 := by obtain ⟨p, rfl⟩ := hw1; exact below_regrown _ _ _
        clear hw1 q_g k_g f_g
        have b_g1 := b_g.later hb1
        have HE1 := Lib.hid (HX.out.then (Nat.le_of_lt hg) hb1)
        have k_g := b_g1.cell
        go_wp2_with fail
        have q_g := b_g1.regrown
        clear k_g
        refine wp_region_quiet_below (by kernel_rfl) (by kernel_rfl) ?_
        repeat (go_big_quiet_step (fail))
        refine wpQuiet_nil ?_
        intro w2 hw2
        have hb2 : Below w1.heap.size w1 w2 := by obtain ⟨p, rfl⟩ := hw2; exact below_regrown _ _ _
        clear hw2 q_g
        have b_g2 := b_g1.later hb2
        have HE2 := Lib.hid (HE1.out.then (Nat.le_of_lt hg) hb2)
        go_wp2_with fail
        go_ret
        have e := HK.out
        subst e
        exact ⟨rfl, b_g2, HE2.out⟩
    · have HK := Lib.hid (runN_eq hk0 hk1 HA.out (fun h => absurd h hlt))
      go_wp2_with fail
      refine wp_region_quiet_below (by kernel_rfl) (by kernel_rfl) ?_
      repeat (go_big_quiet_step (fail))
      refine wpQuiet_nil ?_
      intro w1 hw1
      have hb1 : Below wr.heap.size wr w1 := by obtain ⟨p, rfl⟩ := hw1; exact below_regrown _ _ _
      clear hw1 q_g k_g f_g
      have b_g1 := b_g.later hb1
      have HE1 := Lib.hid (HX.out.then (Nat.le_of_lt hg) hb1)
      have k_g := b_g1.cell
      go_wp2_with fail
      have q_g := b_g1.regrown
      clear k_g
      refine wp_region_quiet_below (by kernel_rfl) (by kernel_rfl) ?_
      repeat (go_big_quiet_step (fail))
      refine wpQuiet_nil ?_
      intro w2 hw2
      have hb2 : Below w1.heap.size w1 w2 := by obtain ⟨p, rfl⟩ := hw2; exact below_regrown _ _ _
      clear hw2 q_g
      have b_g2 := b_g1.later hb2
      have HE2 := Lib.hid (HE1.out.then (Nat.le_of_lt hg) hb2)
      go_wp2_with fail
      go_ret
      have e := HK.out
      subst e
      exact ⟨rfl, b_g2, HE2.out⟩
end Go.Proofs.YtijajfelmekmiaaDoor
