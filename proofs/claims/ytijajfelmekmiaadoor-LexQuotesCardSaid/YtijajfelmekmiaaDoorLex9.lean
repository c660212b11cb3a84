/- text of the scanner. -/
import Derived.Test.YtijajfelmekmiaaDoorLex8
set_option linter.unusedVariables false
set_option linter.unusedSimpArgs false
namespace Go.Proofs.YtijajfelmekmiaaDoor
open Go.ChangeShapes Go.WideShapes Go.ChangeAt Go.RowKit

theorem OwnR.exc {α : Type} {R : Reader α} {e : TypeId} {w w' : World} {base g : Nat} {v : Value} {xs : List α} (h : OwnR R e w base 0 v xs) (he : Exc g w w') (hg : g < base) : OwnR R e w' base 0 v xs := by
  obtain ⟨cells, h, hf⟩ := h
  refine ⟨cells, ⟨h.1, ?_⟩, hf.keep (he.1.mono (Nat.zero_le _)) (Nat.le_refl _)⟩
  rcases h.2 with h2 | ⟨g', cap, cur, hv, hg', hh, r⟩
  · exact .inl h2
  · refine .inr ⟨g', cap, cur, hv, hg', ?_, r⟩
    have hlt : g' < w.heap.size := by
      rcases Nat.lt_or_ge g' w.heap.size with h' | h'
      · exact h'
      · rw [Array.getElem?_eq_none h'] at hh; cases hh
    rw [he.2 g' hlt (by omega)]; exact hh
/-- Behind a write into memory of the call's own. -/
theorem Exc.own {g base : Nat} {a b c : World} (h : Exc g a b) (k : Below base b c) (hb : a.heap.size ≤ base) (hg : g < base) : Exc g a c :=
  ⟨h.1.trans (k.mono (by omega)), fun i hi hne => (k.block i (by omega)).trans (h.2 i hi hne)⟩
/-- What stands between quotes, behind the first: the text, and how many bytes it takes with the last quote. -/
def textG : Nat → Bytes → Option (Bytes × Nat)
  | 0, _ => none
  | n + 1, r => match r with
    | [] => none
    | c :: t =>
      if (c.toNat : Int) < 32 ∨ 126 < (c.toNat : Int) then none
      else if (c.toNat : Int) = 34 then some ([], 1)
      else if (c.toNat : Int) = 92 then
        (match escF t with
        | none => none
        | some (b, k) => (textG n (t.drop k)).map fun x => (b :: x.1, 1 + k + x.2))
      else (textG n t).map fun x => (c :: x.1, 1 + x.2)
def textF (r : Bytes) : Option (Bytes × Nat) := textG r.length r
theorem textG_nil (n : Nat) : textG n [] = none := by cases n <;> rfl
theorem textG_cons (n : Nat) (c : UInt8) (t : Bytes) : textG (n + 1) (c :: t) =
      if (c.toNat : Int) < 32 ∨ 126 < (c.toNat : Int) then none
      else if (c.toNat : Int) = 34 then some ([], 1)
      else if (c.toNat : Int) = 92 then
        (match escF t with
        | none => none
        | some (b, k) => (textG n (t.drop k)).map fun x => (b :: x.1, 1 + k + x.2))
      else (textG n t).map fun x => (c :: x.1, 1 + x.2) := rfl
theorem textG_fuel : ∀ (n m : Nat) (r : Bytes), r.length ≤ n → r.length ≤ m → textG n r = textG m r
  | 0, m, r, hn, _ => by
    have : r = [] := List.eq_nil_of_length_eq_zero (by omega)
    subst this
    rw [textG_nil, textG_nil]
  | n + 1, m, [], _, _ => by rw [textG_nil, textG_nil]
  | n + 1, 0, c :: t, _, hm => by simp at hm
  | n + 1, m + 1, c :: t, hn, hm => by
    rw [List.length_cons] at hn hm
    have h1 := textG_fuel n m t (by omega) (by omega)
    have h2 : ∀ k, textG n (t.drop k) = textG m (t.drop k) := fun k => textG_fuel n m (t.drop k) (by rw [List.length_drop]; omega) (by rw [List.length_drop]; omega)
    rw [textG_cons, textG_cons, h1]
    simp only [h2]
theorem textF_nil : textF [] = none := rfl
theorem textF_out {c : UInt8} {t : Bytes} (h : (c.toNat : Int) < 32 ∨ 126 < (c.toNat : Int)) : textF (c :: t) = none := by unfold textF; rw [List.length_cons, textG_cons, if_pos h]
theorem textF_end {c : UInt8} {t : Bytes} (h : (c.toNat : Int) = 34) : textF (c :: t) = some ([], 1) := by unfold textF; rw [List.length_cons, textG_cons, if_neg (by omega), if_pos h]
theorem textF_esc {c : UInt8} {t : Bytes} (h : (c.toNat : Int) = 92) : textF (c :: t) = match escF t with
      | none => none
      | some (b, k) => (textF (t.drop k)).map fun x => (b :: x.1, 1 + k + x.2) := by
  have h2 : ∀ k, textG t.length (t.drop k) = textF (t.drop k) := fun k => textG_fuel _ _ _ (by rw [List.length_drop]; omega) (Nat.le_refl _)
  show textG (t.length + 1) (c :: t) = _
  rw [textG_cons, if_neg (by omega), if_neg (by omega), if_pos h]
  simp only [h2]
theorem textF_plain {c : UInt8} {t : Bytes} (h : 32 ≤ (c.toNat : Int) ∧ (c.toNat : Int) ≤ 126) (h1 : (c.toNat : Int) ≠ 34) (h2 : (c.toNat : Int) ≠ 92) : textF (c :: t) = (textF t).map fun x => (c :: x.1, 1 + x.2) := by
  show textG (t.length + 1) (c :: t) = _
  rw [textG_cons, if_neg (by omega), if_neg h1, if_neg h2]
  rfl
/-- Where the loop stands: at p, with xs taken; b: it is bad. -/
def TInv (s : ByteArray) (at_ p : Nat) (b : Bool) (xs : Bytes) : Prop :=
  match b with
  | false => textF ((bs s).drop (at_ + 1)) = (textF ((bs s).drop p)).map fun x => (xs ++ x.1, p - (at_ + 1) + x.2)
  | true => textF ((bs s).drop (at_ + 1)) = none
theorem tinv0 (s : ByteArray) (at_ : Nat) : TInv s at_ (at_ + 1) false [] := by
  show textF _ = _
  cases textF ((bs s).drop (at_ + 1)) with
  | none => rfl
  | some x => simp
theorem drop_at {s : ByteArray} {p : Nat} (h : p < s.size) : (bs s).drop p = s[p] :: (bs s).drop (p + 1) := by
  have h1 : p < (bs s).length := by rw [bs_length]; exact h
  rw [List.drop_eq_getElem_cons h1, bs_get s p h]
theorem tinv_empty {s : ByteArray} {at_ p : Nat} {xs : Bytes} (h : TInv s at_ p false xs) (hp : s.size ≤ p) : textF ((bs s).drop (at_ + 1)) = none := by
  have h : textF _ = _ := h
  rw [h, List.drop_eq_nil_of_le (by rw [bs_length]; exact hp), textF_nil]; rfl
theorem tinv_out {s : ByteArray} {at_ p : Nat} {xs : Bytes} (h : TInv s at_ p false xs) (hp : p < s.size) (hc : (s[p].toNat : Int) < 32 ∨ 126 < (s[p].toNat : Int)) : textF ((bs s).drop (at_ + 1)) = none := by
  have h : textF _ = _ := h
  rw [h, drop_at hp, textF_out hc]; rfl
theorem tinv_end {s : ByteArray} {at_ p : Nat} {xs : Bytes} (h : TInv s at_ p false xs) (hp : p < s.size) (hc : (s[p].toNat : Int) = 34) : textF ((bs s).drop (at_ + 1)) = some (xs, p - (at_ + 1) + 1) := by
  have h : textF _ = _ := h
  rw [h, drop_at hp, textF_end hc]; simp
theorem tinv_esc {s : ByteArray} {at_ p : Nat} {xs : Bytes} {cc : UInt8} {to : Nat} {bb : Bool} (h : TInv s at_ p false xs) (hp : p < s.size) (h1 : at_ + 1 ≤ p) (hc : (s[p].toNat : Int) = 92) (he : EscS (escF ((bs s).drop (p + 1))) (p + 1) false cc to bb) : TInv s at_ to bb (xs ++ [cc]) := by
  have h : textF _ = _ := h
  rw [drop_at hp, textF_esc hc] at h
  unfold EscS at he
  split at he
  · rename_i b k hk
    obtain ⟨rfl, rfl, rfl⟩ := he
    rw [hk] at h
    show textF _ = _
    simp only [List.drop_drop] at h
    rw [h]
    cases textF ((bs s).drop (p + 1 + k)) with
    | none => rfl
    | some x =>
      simp only [Option.map_some, List.append_assoc, List.singleton_append, Option.some.injEq, Prod.mk.injEq, true_and]
      omega
  · rename_i hk
    subst he
    rw [hk] at h
    exact h
theorem tinv_plain {s : ByteArray} {at_ p : Nat} {xs : Bytes} (h : TInv s at_ p false xs) (hp : p < s.size) (h1 : at_ + 1 ≤ p) (hc : 32 ≤ (s[p].toNat : Int) ∧ (s[p].toNat : Int) ≤ 126) (h3 : (s[p].toNat : Int) ≠ 34) (h4 : (s[p].toNat : Int) ≠ 92) {c : UInt8} (he : c = s[p]) : TInv s at_ (p + 1) false (xs ++ [c]) := by
  subst he
  have h : textF _ = _ := h
  rw [drop_at hp, textF_plain hc h3 h4] at h
  show textF _ = _
  rw [h]
  cases textF ((bs s).drop (p + 1)) with
  | none => rfl
  | some x =>
    simp only [Option.map_some, List.append_assoc, List.singleton_append, Option.some.injEq, Prod.mk.injEq, true_and]
    omega
def TextS (o : Option (Bytes × Nat)) (at_ : Nat) (k : Int) (S : ByteArray) (to : Nat) (bad : Bool) : Prop :=
  match o with
  | some (T, n) => k = 4 ∧ S = mkS T ∧ to = at_ + 1 + n ∧ bad = decide ((256 : Int) < (T.length : Int))
  | none => bad = true
theorem texts_none {o : Option (Bytes × Nat)} (h : o = none) (at_ : Nat) (k : Int) (S : ByteArray) (to : Nat) : TextS o at_ k S to true := by rw [h]; exact rfl
theorem texts_some {o : Option (Bytes × Nat)} {at_ p : Nat} {xs : Bytes} (h : o = some (xs, p - (at_ + 1) + 1)) (hp : at_ + 1 ≤ p) : TextS o at_ 4 (mkS xs) (p + 1) (decide ((256 : Int) < (xs.length : Int))) := by
  rw [h]; exact ⟨rfl, rfl, by omega, rfl⟩
def TextPost (s : ByteArray) (g at_ : Nat) (w : World) (e : Ending) (w' : World) : Prop := ∃ (k : Int) (S : ByteArray) (to : Nat) (bad' : Bool), e = .returned (.agg #[.int .i64 k, .string S, .int .i64 0, .int .i64 0]) ∧ SC w' g s to bad' ∧ Exc g w w' ∧ (at_ < to ∧ to ≤ s.size) ∧ (bad' = false → k = 4) ∧ TextS (textF ((bs s).drop (at_ + 1))) at_ k S to bad'

set_option maxRecDepth 100000 in
set_option maxHeartbeats 8000000 in
theorem text_any {w : World} {g at_ : Nat} {s : ByteArray} (b_g_0 : SC w g s at_ false) (hat : at_ < s.size) (hs : s.size ≤ 1000000) :
    Calls Tryd.prog 20 #[.pointer (some ⟨g, 0, none⟩)] w fun e w' => TextPost s g at_ w e w' := by
  have hg := b_g_0.lt
  have HI := Lib.hid (info_parts infoBy)
  have HT0 := Lib.hid (tinv0 s at_)
  generalize hbad : false = bad at b_g_0 HT0
  clear hbad
  go_enter Tryd.func20, Tryd.ntmps20
  have k_g := b_g_0.cell
  have f_g := b_g_0.free
  have l_g := b_g_0.lt
  go_wp2_with fail
  clear k_g f_g l_g
  have b_g_1 : SC (w.setCell ⟨g, 1, none⟩ (.int .i64 ((at_ : Int) + 1))) g s (at_ + 1) bad := b_g_0.set_ 1 (.int .i64 ((at_ : Int) + 1))
  have HE1 := Lib.hid (Exc.set (Exc.refl g w) 1 (.int .i64 ((at_ : Int) + 1)))
  clear b_g_0
  have z1 : (w.setCell ⟨g, 1, none⟩ (.int .i64 ((at_ : Int) + 1))).heap.size = w.heap.size := World.size_setCell _ _ _
  generalize w.setCell ⟨g, 1, none⟩ (.int .i64 ((at_ : Int) + 1)) = w1 at *
  generalize hW : World.alloc _ _ = w2
  obtain ⟨hb, hz⟩ := al1 hW
  have b_r_2 := n11 hW
  rw [z1] at b_r_2
  have b_g_2 := b_g_1.later hb
  have HE2 := Lib.hid (Exc.then HE1.out (Nat.le_of_lt hg) hb)
  clear b_g_1
  clear hW hb
  have hbase : w.heap.size < w2.heap.size := by omega
  go_loopw [3] (fun v wr => ∃ (p : Nat) (b : Bool) (xs : Bytes), (at_ + 1 ≤ p ∧ p ≤ s.size) ∧ xs.length ≤ p ∧ SC wr g s p b ∧ Blk wr w.heap.size #[.int .i64 0, .string ⟨#[]⟩, .int .i64 0, .int .i64 0] ∧ Hid (Exc g w wr) ∧ w2.heap.size ≤ wr.heap.size ∧ Hid (OwnR ByR 5 wr w2.heap.size 0 v xs) ∧ Hid (TInv s at_ p b xs)) (fun _ wr => s.size - posOf wr g)
  case atStart => exact ⟨at_ + 1, bad, [], ⟨Nat.le_refl _, by omega⟩, by simp, b_g_2, b_r_2, HE2, Nat.le_refl _, Lib.hid (OwnR.nil _ _ _ _ _), HT0⟩
  case round =>
    obtain ⟨p, b, xs, ⟨hp0, hp1⟩, hxl, b_g_10, b_r_10, HE10, hsz, HO, HTI⟩ := hrel
    have hpos := posOf_eq b_g_10
    have HPOS := Lib.hid hpos
    clear hpos b_g_2 b_r_2
    obtain ⟨AO, cO, rfl⟩ := HO.out.form
    have hgb : g < w2.heap.size := by omega
    rcases (show b = true ∨ b = false by cases b <;> simp) with rfl | rfl
    · have k_g := b_g_10.cell
      have f_g := b_g_10.free
      have l_g := b_g_10.lt
      have k_r := b_r_10.cell
      have f_r := b_r_10.free
      have l_r := b_r_10.lt
      go_wp2_with fail
      clear k_g f_g l_g k_r f_r l_r
      obtain ⟨p1, p2, p3⟩ := put4e (b_r_10) (HE10.out) (show g ≤ _ by omega) (show w.heap.size ≤ _ by omega)
      refine bodyPost_ret (ret_wd rfl rfl p1 rfl) rfl ?_
      unfold TextPost
      exact ⟨0, ⟨#[]⟩, _, _, rfl, p3 _ _ (by omega) b_g_10, p2, ⟨by omega, by omega⟩, (fun h => by cases h), texts_none HTI.out _ _ _ _⟩
    · obtain ⟨r, hr, hz, hi⟩ := rest_r s p hp1
      have k_g := b_g_10.cell
      have f_g := b_g_10.free
      have l_g := b_g_10.lt
      have k_r := b_r_10.cell
      have f_r := b_r_10.free
      have l_r := b_r_10.lt
      go_wp2_with fail
      clear k_g f_g l_g k_r f_r l_r
      refine (rest_any b_g_10 hp1 hs).mono ?_
      rintro x w11 ⟨rfl, hb⟩
      have b_g_11 := b_g_10.later hb
      have b_r_11 := b_r_10.later hb
      have HE11 := Lib.hid (Exc.then HE10.out (Nat.le_of_lt hg) hb)
      clear b_g_10 b_r_10
      have HO11 := Lib.hid (HO.out.later hb (Nat.zero_le _))
      have hsz11 : w2.heap.size ≤ w11.heap.size := Nat.le_trans hsz hb.size
      clear hb
      rw [hr]
      have HI0 := Lib.hid hi
      clear hr hi
      rcases Nat.lt_or_ge p s.size with hlt | hge
      rotate_left
      · have hne := nil_of (r := r) (by omega)
        have k_g := b_g_11.cell
        have f_g := b_g_11.free
        have l_g := b_g_11.lt
        have k_r := b_r_11.cell
        have f_r := b_r_11.free
        have l_r := b_r_11.lt
        go_wp2_with fail
        clear k_g f_g l_g k_r f_r l_r
        have b_g_12 : SC (w11.setCell ⟨g, 2, none⟩ (.bool true)) g s p true := b_g_11.set_ 2 (.bool true)
        have b_r_12 := b_r_11.far (show _ ≠ g by omega) 2 (.bool true)
        have HE12 := Lib.hid (Exc.set HE11.out 2 (.bool true))
        clear b_g_11 b_r_11
        have z12 : (w11.setCell ⟨g, 2, none⟩ (.bool true)).heap.size = w11.heap.size := World.size_setCell _ _ _
        generalize w11.setCell ⟨g, 2, none⟩ (.bool true) = w12 at *
        obtain ⟨p1, p2, p3⟩ := put4e (b_r_12) (HE12.out) (show g ≤ _ by omega) (show w.heap.size ≤ _ by omega)
        refine bodyPost_ret (ret_wd rfl rfl p1 rfl) rfl ?_
        unfold TextPost
        exact ⟨0, ⟨#[]⟩, _, _, rfl, p3 _ _ (by omega) b_g_12, p2, ⟨by omega, by omega⟩, (fun h => by cases h), texts_none (tinv_empty HTI.out hge) _ _ _ _⟩
      have hp00 : 0 < r.size := by omega
      have hne := not_nil hp00
      have hc0 := u8_le (r[0]'hp00)
      have HD0 := Lib.hid (show r[0]'hp00 = s[p] from HI0.out 0 hp00 hlt)
      rcases (show ((r[0]'hp00).toNat : Int) < (32 : Int) ∨ (126 : Int) < ((r[0]'hp00).toNat : Int) ∨ ((32 : Int) ≤ ((r[0]'hp00).toNat : Int) ∧ ((r[0]'hp00).toNat : Int) ≤ (126 : Int)) by omega) with hc | hc | ⟨hc1, hc2⟩
      · have HF := Lib.hid (texts_none (tinv_out HTI.out hlt (by rw [← HD0.out]; omega)) at_ 0 ⟨#[]⟩ p)
        have k_g := b_g_11.cell
        have f_g := b_g_11.free
        have l_g := b_g_11.lt
        have k_r := b_r_11.cell
        have f_r := b_r_11.free
        have l_r := b_r_11.lt
        go_wp2_with fail
        clear k_g f_g l_g k_r f_r l_r
        have b_g_12 : SC (w11.setCell ⟨g, 2, none⟩ (.bool true)) g s p true := b_g_11.set_ 2 (.bool true)
        have b_r_12 := b_r_11.far (show _ ≠ g by omega) 2 (.bool true)
        have HE12 := Lib.hid (Exc.set HE11.out 2 (.bool true))
        clear b_g_11 b_r_11
        have z12 : (w11.setCell ⟨g, 2, none⟩ (.bool true)).heap.size = w11.heap.size := World.size_setCell _ _ _
        generalize w11.setCell ⟨g, 2, none⟩ (.bool true) = w12 at *
        obtain ⟨p1, p2, p3⟩ := put4e (b_r_12) (HE12.out) (show g ≤ _ by omega) (show w.heap.size ≤ _ by omega)
        refine bodyPost_ret (ret_wd rfl rfl p1 rfl) rfl ?_
        unfold TextPost
        exact ⟨0, ⟨#[]⟩, _, _, rfl, p3 _ _ (by omega) b_g_12, p2, ⟨by omega, by omega⟩, (fun h => by cases h), HF.out⟩
      · have HF := Lib.hid (texts_none (tinv_out HTI.out hlt (by rw [← HD0.out]; omega)) at_ 0 ⟨#[]⟩ p)
        have k_g := b_g_11.cell
        have f_g := b_g_11.free
        have l_g := b_g_11.lt
        have k_r := b_r_11.cell
        have f_r := b_r_11.free
        have l_r := b_r_11.lt
        go_wp2_with fail
        clear k_g f_g l_g k_r f_r l_r
        have b_g_12 : SC (w11.setCell ⟨g, 2, none⟩ (.bool true)) g s p true := b_g_11.set_ 2 (.bool true)
        have b_r_12 := b_r_11.far (show _ ≠ g by omega) 2 (.bool true)
        have HE12 := Lib.hid (Exc.set HE11.out 2 (.bool true))
        clear b_g_11 b_r_11
        have z12 : (w11.setCell ⟨g, 2, none⟩ (.bool true)).heap.size = w11.heap.size := World.size_setCell _ _ _
        generalize w11.setCell ⟨g, 2, none⟩ (.bool true) = w12 at *
        obtain ⟨p1, p2, p3⟩ := put4e (b_r_12) (HE12.out) (show g ≤ _ by omega) (show w.heap.size ≤ _ by omega)
        refine bodyPost_ret (ret_wd rfl rfl p1 rfl) rfl ?_
        unfold TextPost
        exact ⟨0, ⟨#[]⟩, _, _, rfl, p3 _ _ (by omega) b_g_12, p2, ⟨by omega, by omega⟩, (fun h => by cases h), HF.out⟩
      · rcases (show ((r[0]'hp00).toNat : Int) = 34 ∨ ((r[0]'hp00).toNat : Int) = 92 ∨ (((r[0]'hp00).toNat : Int) ≠ 34 ∧ ((r[0]'hp00).toNat : Int) ≠ 92) by omega) with hq | hq | ⟨hq1, hq2⟩
        · have e34 : (((r[0]'hp00).toNat : Int) == 34) = true := by simp; omega
          have HF := Lib.hid (texts_some (tinv_end HTI.out hlt (by rw [← HD0.out]; exact hq)) hp0)
          clear hq
          have hcv := conv_by (w := (w11.setCell ⟨g, 1, none⟩ (.int .i64 ((p : Int) + 1))).setCell ⟨g, 2, none⟩ (.bool (decide ((256 : Int) < (xs.length : Int))))) ((HO11.out.far hgb (Nat.zero_le _) _).far hgb (Nat.zero_le _) _) (Nat.zero_le _) (by omega)
          have k_g := b_g_11.cell
          have f_g := b_g_11.free
          have l_g := b_g_11.lt
          have k_r := b_r_11.cell
          have f_r := b_r_11.free
          have l_r := b_r_11.lt
          go_wp2_with fail
          clear k_g f_g l_g k_r f_r l_r
          clear hcv
          have b_g_12 : SC (w11.setCell ⟨g, 1, none⟩ (.int .i64 ((p : Int) + 1))) g s (p + 1) false := b_g_11.set_ 1 (.int .i64 ((p : Int) + 1))
          have b_r_12 := b_r_11.far (show _ ≠ g by omega) 1 (.int .i64 ((p : Int) + 1))
          have HE12 := Lib.hid (Exc.set HE11.out 1 (.int .i64 ((p : Int) + 1)))
          clear b_g_11 b_r_11
          have z12 : (w11.setCell ⟨g, 1, none⟩ (.int .i64 ((p : Int) + 1))).heap.size = w11.heap.size := World.size_setCell _ _ _
          generalize w11.setCell ⟨g, 1, none⟩ (.int .i64 ((p : Int) + 1)) = w12 at *
          have b_g_13 : SC (w12.setCell ⟨g, 2, none⟩ (.bool (decide ((256 : Int) < (xs.length : Int))))) g s (p + 1) (decide ((256 : Int) < (xs.length : Int))) := b_g_12.set_ 2 (.bool (decide ((256 : Int) < (xs.length : Int))))
          have b_r_13 := b_r_12.far (show _ ≠ g by omega) 2 (.bool (decide ((256 : Int) < (xs.length : Int))))
          have HE13 := Lib.hid (Exc.set HE12.out 2 (.bool (decide ((256 : Int) < (xs.length : Int)))))
          clear b_g_12 b_r_12
          have z13 : (w12.setCell ⟨g, 2, none⟩ (.bool (decide ((256 : Int) < (xs.length : Int))))).heap.size = w12.heap.size := World.size_setCell _ _ _
          generalize w12.setCell ⟨g, 2, none⟩ (.bool (decide ((256 : Int) < (xs.length : Int)))) = w13 at *
          obtain ⟨p1, p2, p3⟩ := put4e (b_r_13) (HE13.out) (show g ≤ _ by omega) (show w.heap.size ≤ _ by omega)
          refine bodyPost_ret (ret_wd rfl rfl p1 rfl) rfl ?_
          unfold TextPost
          exact ⟨4, mkS xs, _, _, rfl, p3 _ _ (by omega) b_g_13, p2, ⟨by omega, by omega⟩, fun _ => rfl, HF.out⟩
        · have e34 : (((r[0]'hp00).toNat : Int) == 34) = false := by simp; omega
          have e92 : (((r[0]'hp00).toNat : Int) == 92) = true := by simp; omega
          have H92 := Lib.hid (show (s[p].toNat : Int) = 92 by rw [← HD0.out]; exact hq)
          clear hq
          have HO12 := Lib.hid (HO11.out.far hgb (Nat.zero_le _) (i := 1) (.int .i64 ((p : Int) + 1)))
          have k_g := b_g_11.cell
          have f_g := b_g_11.free
          have l_g := b_g_11.lt
          have k_r := b_r_11.cell
          have f_r := b_r_11.free
          have l_r := b_r_11.lt
          go_wp2_with fail
          clear k_g f_g l_g k_r f_r l_r
          have b_g_12 : SC (w11.setCell ⟨g, 1, none⟩ (.int .i64 ((p : Int) + 1))) g s (p + 1) false := b_g_11.set_ 1 (.int .i64 ((p : Int) + 1))
          have b_r_12 := b_r_11.far (show _ ≠ g by omega) 1 (.int .i64 ((p : Int) + 1))
          have HE12 := Lib.hid (Exc.set HE11.out 1 (.int .i64 ((p : Int) + 1)))
          clear b_g_11 b_r_11
          have z12 : (w11.setCell ⟨g, 1, none⟩ (.int .i64 ((p : Int) + 1))).heap.size = w11.heap.size := World.size_setCell _ _ _
          generalize w11.setCell ⟨g, 1, none⟩ (.int .i64 ((p : Int) + 1)) = w12 at *
          refine (escape_any b_g_12 (by omega) hs).mono ?_
          rintro x w13 ⟨cc, to, bb, rfl, b_g_13, he, ⟨ht1, ht2⟩, hes⟩
          have b_r_13 := Exc.blk he (by omega) b_r_12
          have HO13 := Lib.hid (HO12.out.exc he hgb)
          have HE13 := Lib.hid (Exc.trans HE12.out he)
          have HSZ : Hid (w2.heap.size ≤ w13.heap.size) := Lib.hid (Nat.le_trans (by omega) he.1.size)
          have HTE := Lib.hid (tinv_esc HTI.out hlt hp0 H92.out hes)
          clear he b_g_12 b_r_12 hes
          have k_g := b_g_13.cell
          have f_g := b_g_13.free
          have l_g := b_g_13.lt
          have k_r := b_r_13.cell
          have f_r := b_r_13.free
          have l_r := b_r_13.lt
          go_wp2_with (at_builtin; (
                        obtain ⟨i0, hi0, hz0, hz1, hz2⟩ := HI.out
                        refine wpList_append_R (R := ByR) (e := 5) rfl (.tmp 61) (.tmp 64) 32 rfl (bytes := 1) Tryd.underlying32 hi0 hz0 hz1 hz2 rfl (show 0 < 1 by omega) single_by rfl (xs := xs) (base := w2.heap.size) (B := 0) (HO13.out.later ((Below.refl _ _).alloc (Nat.le_refl _) _) (Nat.zero_le _)) rfl (Blk.src (x := cc) (n11 rfl) rfl) rfl (Nat.zero_le _) (by simp only [List.length_cons, List.length_nil]; omega) (by omega) (Nat.le_trans HSZ.out (by simp)) ?_
                        intro v2 w20 hown2 hb2
                        have b_g_20 := ((b_g_13).old (.cells #[.int .u8 (cc).toNat] 5)).keep hb2 hgb
                        have b_r_20 := ((b_r_13).old (.cells #[.int .u8 (cc).toNat] 5)).keep hb2 hbase
                        have HE20 := Lib.hid (Exc.own (Exc.then (HE13.out) (Nat.le_of_lt hg) ((Below.refl _ _).alloc (Nat.le_refl _) (.cells #[.int .u8 (cc).toNat] 5))) hb2 (by omega) hgb)
                        have hsz20 : w2.heap.size ≤ w20.heap.size := Nat.le_trans (Nat.le_trans HSZ.out (by simp)) hb2.size
                        obtain ⟨A2, c2, rfl⟩ := hown2.form
                        simp only [List.length_append, List.length_cons, List.length_nil, Nat.zero_add] at hown2
                        have HO2 := Lib.hid hown2
                        clear i0 hi0 hz0 hz1 hz2 hown2 hb2))
          go_roundw
          case rel => exact ⟨to, _, xs ++ [cc], ⟨by omega, by omega⟩, by simp; omega, b_g_20, b_r_20, HE20, hsz20, HO2, HTE⟩
          case measure =>
            have e2 := posOf_eq b_g_20
            rw [HPOS.out, e2]
            omega
        · have e34 : (((r[0]'hp00).toNat : Int) == 34) = false := by simp; omega
          have e92 : (((r[0]'hp00).toNat : Int) == 92) = false := by simp; omega
          have HTE := Lib.hid (tinv_plain HTI.out hlt hp0 (by rw [← HD0.out]; omega) (by rw [← HD0.out]; exact hq1) (by rw [← HD0.out]; exact hq2) HD0.out)
          clear hq1 hq2
          have HSZ : Hid (w2.heap.size ≤ (w11.setCell ⟨g, 1, none⟩ (.int .i64 ((p : Int) + 1))).heap.size) := Lib.hid (by rw [World.size_setCell]; exact hsz11)
          have HO12 := Lib.hid (HO11.out.far hgb (Nat.zero_le _) (i := 1) (.int .i64 ((p : Int) + 1)))
          have b_g_12 : SC (w11.setCell ⟨g, 1, none⟩ (.int .i64 ((p : Int) + 1))) g s (p + 1) false := b_g_11.set_ 1 _
          have b_r_12 := b_r_11.far (show _ ≠ g by omega) 1 (.int .i64 ((p : Int) + 1))
          have HE12 := Lib.hid (Exc.set HE11.out 1 (.int .i64 ((p : Int) + 1)))
          have HBG := Lib.hid b_g_12
          have HN : Hid (Blk ((w11.setCell ⟨g, 1, none⟩ (.int .i64 ((p : Int) + 1))).alloc (.cells #[.int .u8 (r[0]'hp00).toNat] 5)) w11.heap.size #[.int .u8 (r[0]'hp00).toNat]) := Lib.hid (by have h := n11 (w := w11.setCell ⟨g, 1, none⟩ (.int .i64 ((p : Int) + 1))) (v1 := #[.int .u8 (r[0]'hp00).toNat]) (T1 := 5) rfl; rw [World.size_setCell] at h; exact h)
          have HBR := Lib.hid b_r_12
          clear b_g_12 b_r_12
          have k_g := b_g_11.cell
          have f_g := b_g_11.free
          have l_g := b_g_11.lt
          have k_r := b_r_11.cell
          have f_r := b_r_11.free
          have l_r := b_r_11.lt
          go_wp2_with (at_builtin; (
                        obtain ⟨i0, hi0, hz0, hz1, hz2⟩ := HI.out
                        refine wpList_append_R (R := ByR) (e := 5) rfl (.tmp 43) (.tmp 46) 32 rfl (bytes := 1) Tryd.underlying32 hi0 hz0 hz1 hz2 rfl (show 0 < 1 by omega) single_by rfl (xs := xs) (base := w2.heap.size) (B := 0) (HO12.out.later ((Below.refl _ _).alloc (Nat.le_refl _) _) (Nat.zero_le _)) rfl (Blk.src (x := r[0]'hp00) HN.out rfl) rfl (Nat.zero_le _) (by simp only [List.length_cons, List.length_nil]; omega) (by omega) (Nat.le_trans HSZ.out (by simp)) ?_
                        intro v2 w20 hown2 hb2
                        have b_g_20 := ((HBG.out).old (.cells #[.int .u8 (r[0]'hp00).toNat] 5)).keep hb2 hgb
                        have b_r_20 := ((HBR.out).old (.cells #[.int .u8 (r[0]'hp00).toNat] 5)).keep hb2 hbase
                        have HE20 := Lib.hid (Exc.own (Exc.then (HE12.out) (Nat.le_of_lt hg) ((Below.refl _ _).alloc (Nat.le_refl _) (.cells #[.int .u8 (r[0]'hp00).toNat] 5))) hb2 (by omega) hgb)
                        have hsz20 : w2.heap.size ≤ w20.heap.size := Nat.le_trans (Nat.le_trans HSZ.out (by simp)) hb2.size
                        obtain ⟨A2, c2, rfl⟩ := hown2.form
                        simp only [List.length_append, List.length_cons, List.length_nil, Nat.zero_add] at hown2
                        have HO2 := Lib.hid hown2
                        clear i0 hi0 hz0 hz1 hz2 hown2 hb2))
          go_roundw
          case rel => exact ⟨p + 1, _, xs ++ [r[0]'hp00], ⟨by omega, by omega⟩, by simp; omega, b_g_20, b_r_20, HE20, hsz20, HO2, HTE⟩
          case measure =>
            have e2 := posOf_eq b_g_20
            rw [HPOS.out, e2]
            omega
end Go.Proofs.YtijajfelmekmiaaDoor
