/- next of the scanner. -/
import Derived.Test.YtijajfelmekmiaaDoorLex7
import Derived.Test.YtijajfelmekmiaaDoorLex9
set_option linter.unusedVariables false
set_option linter.unusedSimpArgs false
namespace Go.Proofs.YtijajfelmekmiaaDoor
open Go.ChangeShapes Go.WideShapes Go.ChangeAt Go.RowKit

/-- Of what sort the word is that begins here. -/
def cls (r : Bytes) : Nat :=
  match r with
  | [] => 0
  | c :: _ => if c.toNat = 34 then 4 else if Lib.hasPrefix r [104, 101, 120, 58] then 6 else if Lib.hasPrefix r [101, 100, 50, 53, 53, 49, 57, 47] then 8 else if c.toNat = 36 then 2 else if letterB c.toNat then 1 else if digitB c.toNat then 3 else 7
/-- What is known of the word, by its sort. -/
def NextR (s : ByteArray) (at_ : Nat) (k : Int) (S : ByteArray) (n : Int) (to : Nat) (bad : Bool) : Prop :=
  match cls ((bs s).drop at_) with
  | 1 => k = 1 ∧ S = s.extract at_ (at_ + runN namedB s at_) ∧ n = 0 ∧ to = at_ + runN namedB s at_ ∧ bad = decide (32 < (runN namedB s at_ : Int))
  | 2 => (nameHere s (at_ + 1) = true → k = 2 ∧ S = s.extract (at_ + 1) (at_ + 1 + runN namedB s (at_ + 1)) ∧ n = 0 ∧ to = at_ + 1 + runN namedB s (at_ + 1) ∧ bad = decide (32 < (runN namedB s (at_ + 1) : Int))) ∧ (nameHere s (at_ + 1) = false → bad = true)
  | 3 => (Lib.indexByte (s.extract at_ (at_ + runN datedB s at_)).data.toList 84 < 0 →
      (∀ u : Nat, Lib.parseUintB 64 (bs (s.extract at_ (at_ + runN digitB s at_))) = .ok u → k = 3 ∧ S = ⟨#[]⟩ ∧ n = wrap64 u ∧ to = at_ + runN digitB s at_ ∧ (bad = true ↔ NumBad s at_ u (runN digitB s at_))) ∧
      ((¬ ∃ u : Nat, Lib.parseUintB 64 (bs (s.extract at_ (at_ + runN digitB s at_))) = .ok u) → bad = true)) ∧
      (0 ≤ Lib.indexByte (s.extract at_ (at_ + runN datedB s at_)).data.toList 84 → k = 5 ∧ S = ⟨#[]⟩ ∧ n = (dateF (bs (s.extract at_ (at_ + runN datedB s at_)))).1 ∧ to = at_ + runN datedB s at_ ∧ bad = !(dateF (bs (s.extract at_ (at_ + runN datedB s at_)))).2)
  | 4 => n = 0 ∧ TextS (textF ((bs s).drop (at_ + 1))) at_ k S to bad
  | 6 => k = 6 ∧ S = mkS (unhex (bs (s.extract (at_ + 4) (at_ + 4 + runN hexB s (at_ + 4))))) ∧ n = 0 ∧ to = at_ + 4 + runN hexB s (at_ + 4) ∧ bad = decide (runN hexB s (at_ + 4) % 2 = 1 ∨ 512 < runN hexB s (at_ + 4))
  | 7 => k = 7 ∧ n = 0 ∧ markR s at_ false S to bad
  | 8 => k = 8 ∧ S = mkS (unhex (bs (s.extract (at_ + 8) (at_ + 8 + runN hexB s (at_ + 8))))) ∧ n = 0 ∧ to = at_ + 8 + runN hexB s (at_ + 8) ∧ bad = decide (¬ runN hexB s (at_ + 8) = 64)
  | _ => True
def NextPost (s : ByteArray) (g at_ : Nat) (w : World) (e : Ending) (w' : World) : Prop :=
  ∃ (k : Int) (S : ByteArray) (n : Int) (to : Nat) (bad : Bool), e = .returned (.agg #[.int .i64 k, .string S, .int .i64 n, .int .i64 (at_ : Int)]) ∧ SC w' g s to bad ∧ Exc g w w' ∧ to ≤ s.size ∧ (bad = false → at_ < to ∧ 1 ≤ k ∧ k ≤ 8) ∧ NextR s at_ k S n to bad
theorem mark_to {s S : ByteArray} {at_ to : Nat} {bad bad' : Bool} (hat : at_ < s.size) (h : markR s at_ bad S to bad') : at_ < to ∧ to ≤ s.size := by
  unfold markR at h
  split at h
  · rename_i m hm
    obtain ⟨_, rfl, _⟩ := h
    have hp : Lib.hasPrefix ((bs s).drop at_) m = true := by
      unfold markF at hm
      exact List.find?_some hm
    have hmem : m ∈ marks2 := List.mem_of_find?_eq_some hm
    have hl := pre_len hp
    rw [List.length_drop, bs_length] at hl
    have h2 : m.length = 2 := by
      unfold marks2 at hmem
      simp only [List.mem_cons, List.not_mem_nil, or_false] at hmem
      rcases hmem with rfl | rfl | rfl | rfl | rfl | rfl | rfl <;> rfl
    omega
  · obtain ⟨_, rfl, _⟩ := h
    omega

set_option maxRecDepth 100000 in
set_option maxHeartbeats 16000000 in
theorem next_any {w : World} {g at_ : Nat} {s : ByteArray} (b_g_0 : SC w g s at_ false) (hat : at_ < s.size) (hs : s.size ≤ 1000000) (hv : ErrOk w) (h2 : 2 < g) :
    Calls Tryd.prog 14 #[.pointer (some ⟨g, 0, none⟩)] w fun e w' => NextPost s g at_ w e w' := by
  have hg := b_g_0.lt
  have HV := Lib.hid hv
  clear hv
  obtain ⟨r, hr, hz, hi⟩ := rest_r s at_ (by omega)
  have hbr : bs r = (bs s).drop at_ := by rw [← hr]; exact bs_ext s at_
  have hp0 : 0 < r.size := by omega
  have hd0 := hi 0 hp0 hat
  have HD0 := Lib.hid hd0
  have hc0 := u8_le (r[0]'hp0)
  have hcl : cls ((bs s).drop at_) = if (r[0]'hp0).toNat = 34 then 4 else if Lib.hasPrefix (bs r) [104, 101, 120, 58] then 6 else if Lib.hasPrefix (bs r) [101, 100, 50, 53, 53, 49, 57, 47] then 8 else if (r[0]'hp0).toNat = 36 then 2 else if letterB (r[0]'hp0).toNat then 1 else if digitB (r[0]'hp0).toNat then 3 else 7 := by
    rw [← hbr]
    have hl : 0 < (bs r).length := by rw [bs_length]; exact hp0
    have e0 : (bs r)[0]'hl = r[0]'hp0 := bs_get r 0 hp0
    cases hb : bs r with
    | nil => rw [hb] at hl; simp at hl
    | cons c t =>
      have e1 : c = r[0]'hp0 := by rw [← e0]; simp [hb]
      rw [← e1]; rfl
  have HCL := Lib.hid hcl
  have HR := Lib.hid hr
  have HBR := Lib.hid hbr
  clear hi hd0 hcl hr hbr
  rcases (show (((r[0]'hp0).toNat : Int) == 34) = true ∨ (((r[0]'hp0).toNat : Int) == 34) = false by cases (((r[0]'hp0).toNat : Int) == 34) <;> simp) with h0 | h0
  · have H0 := Lib.hid h0
    go_enter Tryd.func14, Tryd.ntmps14
    have k_g := b_g_0.cell
    have f_g := b_g_0.free
    have l_g := b_g_0.lt
    go_wp2_with fail
    clear k_g f_g l_g
    generalize hW : World.alloc _ _ = w1
    obtain ⟨hb, hz⟩ := al1 hW
    have b_r_1 := n11 hW
    have b_g_1 := b_g_0.later hb
    have HE1 := Lib.hid (Exc.then (Exc.refl g w) (Nat.le_of_lt hg) hb)
    clear b_g_0
    clear hW hb
    refine (rest_any b_g_1 (by omega) hs).mono ?_
    rintro x w2 ⟨rfl, hb⟩
    have b_g_2 := b_g_1.later hb
    have b_r_2 := b_r_1.later hb
    have HE2 := Lib.hid (Exc.then HE1.out (Nat.le_of_lt hg) hb)
    clear b_g_1 b_r_1
    clear hb
    rw [HR.out]
    have k_g := b_g_2.cell
    have f_g := b_g_2.free
    have l_g := b_g_2.lt
    have k_r := b_r_2.cell
    have f_r := b_r_2.free
    have l_r := b_r_2.lt
    go_wp2_with fail
    clear k_g f_g l_g k_r f_r l_r
    refine (text_any b_g_2 hat hs).mono ?_
    rintro x w3 ⟨k, S, to, bb, rfl, b_g_3, he, ⟨ht1, ht2⟩, hk, hts⟩
    have b_r_3 := Exc.blk he (by omega) b_r_2
    have HE3 := Lib.hid (Exc.trans HE2.out he)
    clear b_g_2 b_r_2
    clear he
    have HTS := Lib.hid hts
    clear hts
    have k_g := b_g_3.cell
    have f_g := b_g_3.free
    have l_g := b_g_3.lt
    have k_r := b_r_3.cell
    have f_r := b_r_3.free
    have l_r := b_r_3.lt
    go_wp2_with fail
    clear k_g f_g l_g k_r f_r l_r
    refine bodyPost_ret (ret_wd rfl rfl ((put4e (b_r_3) (HE3.out) (show g ≤ _ by omega) (show w.heap.size ≤ _ by omega)).1.old _) rfl) rfl ?_
    unfold NextPost
    have hc : cls ((bs s).drop at_) = 4 := by rw [HCL.out, if_pos (by have h := H0.out; simp only [beq_iff_eq, beq_eq_false_iff_ne] at h; omega)]
    refine ⟨k, S, 0, to, bb, rfl, ((put4e (b_r_3) (HE3.out) (show g ≤ _ by omega) (show w.heap.size ≤ _ by omega)).2.2 _ _ (by omega) b_g_3).old _, Exc.then (put4e (b_r_3) (HE3.out) (show g ≤ _ by omega) (show w.heap.size ≤ _ by omega)).2.1 (Nat.le_of_lt hg) ((Below.refl _ _).alloc (Nat.le_refl _) _), ht2, fun h => ⟨ht1, by have := hk h; omega, by have := hk h; omega⟩, ?_⟩
    unfold NextR
    rw [hc]
    exact ⟨rfl, HTS.out⟩
  · have H0 := Lib.hid h0
    rcases (show Lib.hasPrefix r.data.toList [104, 101, 120, 58] = true ∨ Lib.hasPrefix r.data.toList [104, 101, 120, 58] = false by cases Lib.hasPrefix r.data.toList [104, 101, 120, 58] <;> simp) with h1 | h1
    · have H1 := Lib.hid h1
      clear h1
      have hl := pre_len (m := [104, 101, 120, 58]) (show Lib.hasPrefix r.data.toList [104, 101, 120, 58] = true from H1.out)
      have hl2 : r.data.toList.length = r.size := bs_length r
      have hat4 : at_ + 4 ≤ s.size := by simp only [List.length_cons, List.length_nil] at hl; omega
      have hm := runN_le hexB s (at_ + 4) hat4
      clear hl hl2
      go_enter Tryd.func14, Tryd.ntmps14
      have k_g := b_g_0.cell
      have f_g := b_g_0.free
      have l_g := b_g_0.lt
      go_wp2_with fail
      clear k_g f_g l_g
      generalize hW : World.alloc _ _ = w1
      obtain ⟨hb, hz⟩ := al1 hW
      have b_r_1 := n11 hW
      have b_g_1 := b_g_0.later hb
      have HE1 := Lib.hid (Exc.then (Exc.refl g w) (Nat.le_of_lt hg) hb)
      clear b_g_0
      clear hW hb
      refine (rest_any b_g_1 (by omega) hs).mono ?_
      rintro x w2 ⟨rfl, hb⟩
      have b_g_2 := b_g_1.later hb
      have b_r_2 := b_r_1.later hb
      have HE2 := Lib.hid (Exc.then HE1.out (Nat.le_of_lt hg) hb)
      clear b_g_1 b_r_1
      clear hb
      rw [HR.out]
      have k_g := b_g_2.cell
      have f_g := b_g_2.free
      have l_g := b_g_2.lt
      have k_r := b_r_2.cell
      have f_r := b_r_2.free
      have l_r := b_r_2.lt
      go_wp2_with fail
      clear k_g f_g l_g k_r f_r l_r
      refine (Tryd.strings_HasPrefix r ⟨#[104, 101, 120, 58]⟩ _).mono ?_
      rintro x wz ⟨rfl, hw⟩
      replace hw := hw.symm
      subst hw
      rw [show Lib.hasPrefix r.data.toList (ByteArray.data ⟨#[104, 101, 120, 58]⟩).toList = _ from H1.out]
      have k_g := b_g_2.cell
      have f_g := b_g_2.free
      have l_g := b_g_2.lt
      have k_r := b_r_2.cell
      have f_r := b_r_2.free
      have l_r := b_r_2.lt
      go_wp2_with fail
      clear k_g f_g l_g k_r f_r l_r
      refine (raw_any b_g_2 hat4 hs).mono ?_
      rintro x w3 ⟨rfl, b_g_3, he⟩
      have b_r_3 := Exc.blk he (by omega) b_r_2
      have HE3 := Lib.hid (Exc.trans HE2.out he)
      clear b_g_2 b_r_2
      clear he
      have k_g := b_g_3.cell
      have f_g := b_g_3.free
      have l_g := b_g_3.lt
      have k_r := b_r_3.cell
      have f_r := b_r_3.free
      have l_r := b_r_3.lt
      go_wp2_with fail
      clear k_g f_g l_g k_r f_r l_r
      refine bodyPost_ret (ret_wd rfl rfl ((put4e (b_r_3) (HE3.out) (show g ≤ _ by omega) (show w.heap.size ≤ _ by omega)).1.old _) rfl) rfl ?_
      unfold NextPost
      have hc : cls ((bs s).drop at_) = 6 := by rw [HCL.out, if_neg (by have h := H0.out; simp only [beq_iff_eq, beq_eq_false_iff_ne] at h; omega), if_pos (by rw [show Lib.hasPrefix (bs r) [104, 101, 120, 58] = _ from H1.out])]
      refine ⟨_, _, _, _, _, rfl, ((put4e (b_r_3) (HE3.out) (show g ≤ _ by omega) (show w.heap.size ≤ _ by omega)).2.2 _ _ (by omega) b_g_3).old _, Exc.then (put4e (b_r_3) (HE3.out) (show g ≤ _ by omega) (show w.heap.size ≤ _ by omega)).2.1 (Nat.le_of_lt hg) ((Below.refl _ _).alloc (Nat.le_refl _) _), hm, fun h => ⟨by omega, by omega, by omega⟩, ?_⟩
      unfold NextR
      rw [hc]
      exact ⟨rfl, rfl, rfl, rfl, rfl⟩
    · have H1 := Lib.hid h1
      clear h1
      rcases (show Lib.hasPrefix r.data.toList [101, 100, 50, 53, 53, 49, 57, 47] = true ∨ Lib.hasPrefix r.data.toList [101, 100, 50, 53, 53, 49, 57, 47] = false by cases Lib.hasPrefix r.data.toList [101, 100, 50, 53, 53, 49, 57, 47] <;> simp) with h2 | h2
      · have H2 := Lib.hid h2
        clear h2
        have hl := pre_len (m := [101, 100, 50, 53, 53, 49, 57, 47]) (show Lib.hasPrefix r.data.toList [101, 100, 50, 53, 53, 49, 57, 47] = true from H2.out)
        have hl2 : r.data.toList.length = r.size := bs_length r
        have hat4 : at_ + 8 ≤ s.size := by simp only [List.length_cons, List.length_nil] at hl; omega
        have hm := runN_le hexB s (at_ + 8) hat4
        clear hl hl2
        go_enter Tryd.func14, Tryd.ntmps14
        have k_g := b_g_0.cell
        have f_g := b_g_0.free
        have l_g := b_g_0.lt
        go_wp2_with fail
        clear k_g f_g l_g
        generalize hW : World.alloc _ _ = w1
        obtain ⟨hb, hz⟩ := al1 hW
        have b_r_1 := n11 hW
        have b_g_1 := b_g_0.later hb
        have HE1 := Lib.hid (Exc.then (Exc.refl g w) (Nat.le_of_lt hg) hb)
        clear b_g_0
        clear hW hb
        refine (rest_any b_g_1 (by omega) hs).mono ?_
        rintro x w2 ⟨rfl, hb⟩
        have b_g_2 := b_g_1.later hb
        have b_r_2 := b_r_1.later hb
        have HE2 := Lib.hid (Exc.then HE1.out (Nat.le_of_lt hg) hb)
        clear b_g_1 b_r_1
        clear hb
        rw [HR.out]
        have k_g := b_g_2.cell
        have f_g := b_g_2.free
        have l_g := b_g_2.lt
        have k_r := b_r_2.cell
        have f_r := b_r_2.free
        have l_r := b_r_2.lt
        go_wp2_with fail
        clear k_g f_g l_g k_r f_r l_r
        refine (Tryd.strings_HasPrefix r ⟨#[104, 101, 120, 58]⟩ _).mono ?_
        rintro x wz ⟨rfl, hw⟩
        replace hw := hw.symm
        subst hw
        rw [show Lib.hasPrefix r.data.toList (ByteArray.data ⟨#[104, 101, 120, 58]⟩).toList = _ from H1.out]
        have k_g := b_g_2.cell
        have f_g := b_g_2.free
        have l_g := b_g_2.lt
        have k_r := b_r_2.cell
        have f_r := b_r_2.free
        have l_r := b_r_2.lt
        go_wp2_with fail
        clear k_g f_g l_g k_r f_r l_r
        refine (Tryd.strings_HasPrefix r ⟨#[101, 100, 50, 53, 53, 49, 57, 47]⟩ _).mono ?_
        rintro x wz ⟨rfl, hw⟩
        replace hw := hw.symm
        subst hw
        rw [show Lib.hasPrefix r.data.toList (ByteArray.data ⟨#[101, 100, 50, 53, 53, 49, 57, 47]⟩).toList = _ from H2.out]
        have k_g := b_g_2.cell
        have f_g := b_g_2.free
        have l_g := b_g_2.lt
        have k_r := b_r_2.cell
        have f_r := b_r_2.free
        have l_r := b_r_2.lt
        go_wp2_with fail
        clear k_g f_g l_g k_r f_r l_r
        refine (key_any b_g_2 hat4 hs).mono ?_
        rintro x w3 ⟨rfl, b_g_3, he⟩
        have b_r_3 := Exc.blk he (by omega) b_r_2
        have HE3 := Lib.hid (Exc.trans HE2.out he)
        clear b_g_2 b_r_2
        clear he
        have k_g := b_g_3.cell
        have f_g := b_g_3.free
        have l_g := b_g_3.lt
        have k_r := b_r_3.cell
        have f_r := b_r_3.free
        have l_r := b_r_3.lt
        go_wp2_with fail
        clear k_g f_g l_g k_r f_r l_r
        refine bodyPost_ret (ret_wd rfl rfl ((put4e (b_r_3) (HE3.out) (show g ≤ _ by omega) (show w.heap.size ≤ _ by omega)).1.old _) rfl) rfl ?_
        unfold NextPost
        have hc : cls ((bs s).drop at_) = 8 := by rw [HCL.out, if_neg (by have h := H0.out; simp only [beq_iff_eq, beq_eq_false_iff_ne] at h; omega), if_neg (by rw [show Lib.hasPrefix (bs r) [104, 101, 120, 58] = _ from H1.out]; simp), if_pos (by rw [show Lib.hasPrefix (bs r) [101, 100, 50, 53, 53, 49, 57, 47] = _ from H2.out])]
        refine ⟨_, _, _, _, _, rfl, ((put4e (b_r_3) (HE3.out) (show g ≤ _ by omega) (show w.heap.size ≤ _ by omega)).2.2 _ _ (by omega) b_g_3).old _, Exc.then (put4e (b_r_3) (HE3.out) (show g ≤ _ by omega) (show w.heap.size ≤ _ by omega)).2.1 (Nat.le_of_lt hg) ((Below.refl _ _).alloc (Nat.le_refl _) _), hm, fun h => ⟨by omega, by omega, by omega⟩, ?_⟩
        unfold NextR
        rw [hc]
        exact ⟨rfl, rfl, rfl, rfl, rfl⟩
      · have H2 := Lib.hid h2
        clear h2
        rcases (show (((r[0]'hp0).toNat : Int) == 36) = true ∨ (((r[0]'hp0).toNat : Int) == 36) = false by cases (((r[0]'hp0).toNat : Int) == 36) <;> simp) with h3 | h3
        · have H3 := Lib.hid h3
          rcases (show nameHere s (at_ + 1) = true ∨ nameHere s (at_ + 1) = false by cases nameHere s (at_ + 1) <;> simp) with hn | hn
          · have HN := Lib.hid hn
            obtain ⟨hat1, hl1⟩ := nameHere_yes hn
            have HL1 := Lib.hid hl1
            have hm := runN_le namedB s (at_ + 1) (by omega)
            clear hn hl1
            go_enter Tryd.func14, Tryd.ntmps14
            have k_g := b_g_0.cell
            have f_g := b_g_0.free
            have l_g := b_g_0.lt
            go_wp2_with fail
            clear k_g f_g l_g
            generalize hW : World.alloc _ _ = w1
            obtain ⟨hb, hz⟩ := al1 hW
            have b_r_1 := n11 hW
            have b_g_1 := b_g_0.later hb
            have HE1 := Lib.hid (Exc.then (Exc.refl g w) (Nat.le_of_lt hg) hb)
            clear b_g_0
            clear hW hb
            refine (rest_any b_g_1 (by omega) hs).mono ?_
            rintro x w2 ⟨rfl, hb⟩
            have b_g_2 := b_g_1.later hb
            have b_r_2 := b_r_1.later hb
            have HE2 := Lib.hid (Exc.then HE1.out (Nat.le_of_lt hg) hb)
            clear b_g_1 b_r_1
            clear hb
            rw [HR.out]
            have k_g := b_g_2.cell
            have f_g := b_g_2.free
            have l_g := b_g_2.lt
            have k_r := b_r_2.cell
            have f_r := b_r_2.free
            have l_r := b_r_2.lt
            go_wp2_with fail
            clear k_g f_g l_g k_r f_r l_r
            refine (Tryd.strings_HasPrefix r ⟨#[104, 101, 120, 58]⟩ _).mono ?_
            rintro x wz ⟨rfl, hw⟩
            replace hw := hw.symm
            subst hw
            rw [show Lib.hasPrefix r.data.toList (ByteArray.data ⟨#[104, 101, 120, 58]⟩).toList = _ from H1.out]
            have k_g := b_g_2.cell
            have f_g := b_g_2.free
            have l_g := b_g_2.lt
            have k_r := b_r_2.cell
            have f_r := b_r_2.free
            have l_r := b_r_2.lt
            go_wp2_with fail
            clear k_g f_g l_g k_r f_r l_r
            refine (Tryd.strings_HasPrefix r ⟨#[101, 100, 50, 53, 53, 49, 57, 47]⟩ _).mono ?_
            rintro x wz ⟨rfl, hw⟩
            replace hw := hw.symm
            subst hw
            rw [show Lib.hasPrefix r.data.toList (ByteArray.data ⟨#[101, 100, 50, 53, 53, 49, 57, 47]⟩).toList = _ from H2.out]
            have k_g := b_g_2.cell
            have f_g := b_g_2.free
            have l_g := b_g_2.lt
            have k_r := b_r_2.cell
            have f_r := b_r_2.free
            have l_r := b_r_2.lt
            go_wp2_with fail
            clear k_g f_g l_g k_r f_r l_r
            refine (variable_yes b_g_2 hat1 HL1.out hs).mono ?_
            rintro x w3 ⟨rfl, b_g_3, he⟩
            have b_r_3 := Exc.blk he (by omega) b_r_2
            have HE3 := Lib.hid (Exc.trans HE2.out he)
            clear b_g_2 b_r_2
            clear he
            have k_g := b_g_3.cell
            have f_g := b_g_3.free
            have l_g := b_g_3.lt
            have k_r := b_r_3.cell
            have f_r := b_r_3.free
            have l_r := b_r_3.lt
            go_wp2_with fail
            clear k_g f_g l_g k_r f_r l_r
            refine bodyPost_ret (ret_wd rfl rfl ((put4e (b_r_3) (HE3.out) (show g ≤ _ by omega) (show w.heap.size ≤ _ by omega)).1.old _) rfl) rfl ?_
            unfold NextPost
            have hc : cls ((bs s).drop at_) = 2 := by rw [HCL.out, if_neg (by have h := H0.out; simp only [beq_iff_eq, beq_eq_false_iff_ne] at h; omega), if_neg (by rw [show Lib.hasPrefix (bs r) [104, 101, 120, 58] = _ from H1.out]; simp), if_neg (by rw [show Lib.hasPrefix (bs r) [101, 100, 50, 53, 53, 49, 57, 47] = _ from H2.out]; simp), if_pos (by have h := H3.out; simp only [beq_iff_eq, beq_eq_false_iff_ne] at h; omega)]
            refine ⟨_, _, _, _, _, rfl, ((put4e (b_r_3) (HE3.out) (show g ≤ _ by omega) (show w.heap.size ≤ _ by omega)).2.2 _ _ (by omega) b_g_3).old _, Exc.then (put4e (b_r_3) (HE3.out) (show g ≤ _ by omega) (show w.heap.size ≤ _ by omega)).2.1 (Nat.le_of_lt hg) ((Below.refl _ _).alloc (Nat.le_refl _) _), hm, fun h => ⟨by omega, by omega, by omega⟩, ?_⟩
            unfold NextR
            rw [hc]
            exact ⟨fun _ => ⟨rfl, rfl, rfl, rfl, rfl⟩, fun h => (by rw [HN.out] at h; cases h)⟩
          · have HN := Lib.hid hn
            clear hn
            go_enter Tryd.func14, Tryd.ntmps14
            have k_g := b_g_0.cell
            have f_g := b_g_0.free
            have l_g := b_g_0.lt
            go_wp2_with fail
            clear k_g f_g l_g
            generalize hW : World.alloc _ _ = w1
            obtain ⟨hb, hz⟩ := al1 hW
            have b_r_1 := n11 hW
            have b_g_1 := b_g_0.later hb
            have HE1 := Lib.hid (Exc.then (Exc.refl g w) (Nat.le_of_lt hg) hb)
            clear b_g_0
            clear hW hb
            refine (rest_any b_g_1 (by omega) hs).mono ?_
            rintro x w2 ⟨rfl, hb⟩
            have b_g_2 := b_g_1.later hb
            have b_r_2 := b_r_1.later hb
            have HE2 := Lib.hid (Exc.then HE1.out (Nat.le_of_lt hg) hb)
            clear b_g_1 b_r_1
            clear hb
            rw [HR.out]
            have k_g := b_g_2.cell
            have f_g := b_g_2.free
            have l_g := b_g_2.lt
            have k_r := b_r_2.cell
            have f_r := b_r_2.free
            have l_r := b_r_2.lt
            go_wp2_with fail
            clear k_g f_g l_g k_r f_r l_r
            refine (Tryd.strings_HasPrefix r ⟨#[104, 101, 120, 58]⟩ _).mono ?_
            rintro x wz ⟨rfl, hw⟩
            replace hw := hw.symm
            subst hw
            rw [show Lib.hasPrefix r.data.toList (ByteArray.data ⟨#[104, 101, 120, 58]⟩).toList = _ from H1.out]
            have k_g := b_g_2.cell
            have f_g := b_g_2.free
            have l_g := b_g_2.lt
            have k_r := b_r_2.cell
            have f_r := b_r_2.free
            have l_r := b_r_2.lt
            go_wp2_with fail
            clear k_g f_g l_g k_r f_r l_r
            refine (Tryd.strings_HasPrefix r ⟨#[101, 100, 50, 53, 53, 49, 57, 47]⟩ _).mono ?_
            rintro x wz ⟨rfl, hw⟩
            replace hw := hw.symm
            subst hw
            rw [show Lib.hasPrefix r.data.toList (ByteArray.data ⟨#[101, 100, 50, 53, 53, 49, 57, 47]⟩).toList = _ from H2.out]
            have k_g := b_g_2.cell
            have f_g := b_g_2.free
            have l_g := b_g_2.lt
            have k_r := b_r_2.cell
            have f_r := b_r_2.free
            have l_r := b_r_2.lt
            go_wp2_with fail
            clear k_g f_g l_g k_r f_r l_r
            refine (variable_no b_g_2 hat HN.out hs).mono ?_
            rintro x w3 ⟨rfl, b_g_3, he⟩
            have b_r_3 := Exc.blk he (by omega) b_r_2
            have HE3 := Lib.hid (Exc.trans HE2.out he)
            clear b_g_2 b_r_2
            clear he
            have k_g := b_g_3.cell
            have f_g := b_g_3.free
            have l_g := b_g_3.lt
            have k_r := b_r_3.cell
            have f_r := b_r_3.free
            have l_r := b_r_3.lt
            go_wp2_with fail
            clear k_g f_g l_g k_r f_r l_r
            refine bodyPost_ret (ret_wd rfl rfl ((put4e (b_r_3) (HE3.out) (show g ≤ _ by omega) (show w.heap.size ≤ _ by omega)).1.old _) rfl) rfl ?_
            unfold NextPost
            have hc : cls ((bs s).drop at_) = 2 := by rw [HCL.out, if_neg (by have h := H0.out; simp only [beq_iff_eq, beq_eq_false_iff_ne] at h; omega), if_neg (by rw [show Lib.hasPrefix (bs r) [104, 101, 120, 58] = _ from H1.out]; simp), if_neg (by rw [show Lib.hasPrefix (bs r) [101, 100, 50, 53, 53, 49, 57, 47] = _ from H2.out]; simp), if_pos (by have h := H3.out; simp only [beq_iff_eq, beq_eq_false_iff_ne] at h; omega)]
            refine ⟨_, _, _, _, _, rfl, ((put4e (b_r_3) (HE3.out) (show g ≤ _ by omega) (show w.heap.size ≤ _ by omega)).2.2 _ _ (by omega) b_g_3).old _, Exc.then (put4e (b_r_3) (HE3.out) (show g ≤ _ by omega) (show w.heap.size ≤ _ by omega)).2.1 (Nat.le_of_lt hg) ((Below.refl _ _).alloc (Nat.le_refl _) _), by omega, fun h => (by cases h), ?_⟩
            unfold NextR
            rw [hc]
            exact ⟨fun h => (by rw [HN.out] at h; cases h), fun _ => rfl⟩
        · have H3 := Lib.hid h3
          rcases (show letterB ((r[0]'hp0).toNat : Int) = true ∨ letterB ((r[0]'hp0).toNat : Int) = false by cases letterB ((r[0]'hp0).toNat : Int) <;> simp) with h4 | h4
          · have H4 := Lib.hid h4
            clear h4
            have hl1 : letterB s[at_].toNat = true := by have h := H4.out; rw [HD0.out] at h; exact h
            have HL1 := Lib.hid hl1
            have hm := runN_le namedB s at_ (by omega)
            have hps : 1 ≤ runN namedB s at_ := runN_pos hat (by have h := HL1.out; unfold namedB; rw [h]; rfl)
            clear hl1
            go_enter Tryd.func14, Tryd.ntmps14
            have k_g := b_g_0.cell
            have f_g := b_g_0.free
            have l_g := b_g_0.lt
            go_wp2_with fail
            clear k_g f_g l_g
            generalize hW : World.alloc _ _ = w1
            obtain ⟨hb, hz⟩ := al1 hW
            have b_r_1 := n11 hW
            have b_g_1 := b_g_0.later hb
            have HE1 := Lib.hid (Exc.then (Exc.refl g w) (Nat.le_of_lt hg) hb)
            clear b_g_0
            clear hW hb
            refine (rest_any b_g_1 (by omega) hs).mono ?_
            rintro x w2 ⟨rfl, hb⟩
            have b_g_2 := b_g_1.later hb
            have b_r_2 := b_r_1.later hb
            have HE2 := Lib.hid (Exc.then HE1.out (Nat.le_of_lt hg) hb)
            clear b_g_1 b_r_1
            clear hb
            rw [HR.out]
            have k_g := b_g_2.cell
            have f_g := b_g_2.free
            have l_g := b_g_2.lt
            have k_r := b_r_2.cell
            have f_r := b_r_2.free
            have l_r := b_r_2.lt
            go_wp2_with fail
            clear k_g f_g l_g k_r f_r l_r
            refine (Tryd.strings_HasPrefix r ⟨#[104, 101, 120, 58]⟩ _).mono ?_
            rintro x wz ⟨rfl, hw⟩
            replace hw := hw.symm
            subst hw
            rw [show Lib.hasPrefix r.data.toList (ByteArray.data ⟨#[104, 101, 120, 58]⟩).toList = _ from H1.out]
            have k_g := b_g_2.cell
            have f_g := b_g_2.free
            have l_g := b_g_2.lt
            have k_r := b_r_2.cell
            have f_r := b_r_2.free
            have l_r := b_r_2.lt
            go_wp2_with fail
            clear k_g f_g l_g k_r f_r l_r
            refine (Tryd.strings_HasPrefix r ⟨#[101, 100, 50, 53, 53, 49, 57, 47]⟩ _).mono ?_
            rintro x wz ⟨rfl, hw⟩
            replace hw := hw.symm
            subst hw
            rw [show Lib.hasPrefix r.data.toList (ByteArray.data ⟨#[101, 100, 50, 53, 53, 49, 57, 47]⟩).toList = _ from H2.out]
            have k_g := b_g_2.cell
            have f_g := b_g_2.free
            have l_g := b_g_2.lt
            have k_r := b_r_2.cell
            have f_r := b_r_2.free
            have l_r := b_r_2.lt
            go_wp2_with fail
            clear k_g f_g l_g k_r f_r l_r
            refine (letter_any _ _ (by omega) hc0).mono ?_
            rintro x wz ⟨rfl, rfl⟩
            rw [H4.out]
            have k_g := b_g_2.cell
            have f_g := b_g_2.free
            have l_g := b_g_2.lt
            have k_r := b_r_2.cell
            have f_r := b_r_2.free
            have l_r := b_r_2.lt
            go_wp2_with fail
            clear k_g f_g l_g k_r f_r l_r
            refine (word_yes b_g_2 hat HL1.out hs).mono ?_
            rintro x w3 ⟨rfl, b_g_3, he⟩
            have b_r_3 := Exc.blk he (by omega) b_r_2
            have HE3 := Lib.hid (Exc.trans HE2.out he)
            clear b_g_2 b_r_2
            clear he
            have k_g := b_g_3.cell
            have f_g := b_g_3.free
            have l_g := b_g_3.lt
            have k_r := b_r_3.cell
            have f_r := b_r_3.free
            have l_r := b_r_3.lt
            go_wp2_with fail
            clear k_g f_g l_g k_r f_r l_r
            refine bodyPost_ret (ret_wd rfl rfl ((put4e (b_r_3) (HE3.out) (show g ≤ _ by omega) (show w.heap.size ≤ _ by omega)).1.old _) rfl) rfl ?_
            unfold NextPost
            have hc : cls ((bs s).drop at_) = 1 := by rw [HCL.out, if_neg (by have h := H0.out; simp only [beq_iff_eq, beq_eq_false_iff_ne] at h; omega), if_neg (by rw [show Lib.hasPrefix (bs r) [104, 101, 120, 58] = _ from H1.out]; simp), if_neg (by rw [show Lib.hasPrefix (bs r) [101, 100, 50, 53, 53, 49, 57, 47] = _ from H2.out]; simp), if_neg (by have h := H3.out; simp only [beq_iff_eq, beq_eq_false_iff_ne] at h; omega), if_pos (by rw [show letterB ((r[0]'hp0).toNat : Int) = _ from H4.out])]
            refine ⟨_, _, _, _, _, rfl, ((put4e (b_r_3) (HE3.out) (show g ≤ _ by omega) (show w.heap.size ≤ _ by omega)).2.2 _ _ (by omega) b_g_3).old _, Exc.then (put4e (b_r_3) (HE3.out) (show g ≤ _ by omega) (show w.heap.size ≤ _ by omega)).2.1 (Nat.le_of_lt hg) ((Below.refl _ _).alloc (Nat.le_refl _) _), hm, fun h => ⟨by omega, by omega, by omega⟩, ?_⟩
            unfold NextR
            rw [hc]
            exact ⟨rfl, rfl, rfl, rfl, rfl⟩
          · have H4 := Lib.hid h4
            clear h4
            rcases (show digitB ((r[0]'hp0).toNat : Int) = true ∨ digitB ((r[0]'hp0).toNat : Int) = false by cases digitB ((r[0]'hp0).toNat : Int) <;> simp) with h5 | h5
            · have H5 := Lib.hid h5
              clear h5
              have hl1 : digitB s[at_].toNat = true := by have h := H5.out; rw [HD0.out] at h; exact h
              have HL1 := Lib.hid hl1
              have hm := runN_le datedB s at_ (by omega)
              have hm2 := runN_le digitB s at_ (by omega)
              have hps : 1 ≤ runN datedB s at_ := runN_pos hat (by have h := HL1.out; unfold datedB; rw [h]; rfl)
              have hps2 : 1 ≤ runN digitB s at_ := runN_pos hat HL1.out
              clear hl1
              rcases (show 0 ≤ Lib.indexByte (s.extract at_ (at_ + runN datedB s at_)).data.toList 84 ∨ Lib.indexByte (s.extract at_ (at_ + runN datedB s at_)).data.toList 84 < 0 by omega) with h84 | h84
              · have H84 := Lib.hid h84
                clear h84
                go_enter Tryd.func14, Tryd.ntmps14
                have k_g := b_g_0.cell
                have f_g := b_g_0.free
                have l_g := b_g_0.lt
                go_wp2_with fail
                clear k_g f_g l_g
                generalize hW : World.alloc _ _ = w1
                obtain ⟨hb, hz⟩ := al1 hW
                have b_r_1 := n11 hW
                have b_g_1 := b_g_0.later hb
                have HE1 := Lib.hid (Exc.then (Exc.refl g w) (Nat.le_of_lt hg) hb)
                clear b_g_0
                clear hW hb
                refine (rest_any b_g_1 (by omega) hs).mono ?_
                rintro x w2 ⟨rfl, hb⟩
                have b_g_2 := b_g_1.later hb
                have b_r_2 := b_r_1.later hb
                have HE2 := Lib.hid (Exc.then HE1.out (Nat.le_of_lt hg) hb)
                clear b_g_1 b_r_1
                clear hb
                rw [HR.out]
                have k_g := b_g_2.cell
                have f_g := b_g_2.free
                have l_g := b_g_2.lt
                have k_r := b_r_2.cell
                have f_r := b_r_2.free
                have l_r := b_r_2.lt
                go_wp2_with fail
                clear k_g f_g l_g k_r f_r l_r
                refine (Tryd.strings_HasPrefix r ⟨#[104, 101, 120, 58]⟩ _).mono ?_
                rintro x wz ⟨rfl, hw⟩
                replace hw := hw.symm
                subst hw
                rw [show Lib.hasPrefix r.data.toList (ByteArray.data ⟨#[104, 101, 120, 58]⟩).toList = _ from H1.out]
                have k_g := b_g_2.cell
                have f_g := b_g_2.free
                have l_g := b_g_2.lt
                have k_r := b_r_2.cell
                have f_r := b_r_2.free
                have l_r := b_r_2.lt
                go_wp2_with fail
                clear k_g f_g l_g k_r f_r l_r
                refine (Tryd.strings_HasPrefix r ⟨#[101, 100, 50, 53, 53, 49, 57, 47]⟩ _).mono ?_
                rintro x wz ⟨rfl, hw⟩
                replace hw := hw.symm
                subst hw
                rw [show Lib.hasPrefix r.data.toList (ByteArray.data ⟨#[101, 100, 50, 53, 53, 49, 57, 47]⟩).toList = _ from H2.out]
                have k_g := b_g_2.cell
                have f_g := b_g_2.free
                have l_g := b_g_2.lt
                have k_r := b_r_2.cell
                have f_r := b_r_2.free
                have l_r := b_r_2.lt
                go_wp2_with fail
                clear k_g f_g l_g k_r f_r l_r
                refine (letter_any _ _ (by omega) hc0).mono ?_
                rintro x wz ⟨rfl, rfl⟩
                rw [H4.out]
                have k_g := b_g_2.cell
                have f_g := b_g_2.free
                have l_g := b_g_2.lt
                have k_r := b_r_2.cell
                have f_r := b_r_2.free
                have l_r := b_r_2.lt
                go_wp2_with fail
                clear k_g f_g l_g k_r f_r l_r
                refine (digit_any _ _ (by omega) hc0).mono ?_
                rintro x wz ⟨rfl, rfl⟩
                rw [H5.out]
                have k_g := b_g_2.cell
                have f_g := b_g_2.free
                have l_g := b_g_2.lt
                have k_r := b_r_2.cell
                have f_r := b_r_2.free
                have l_r := b_r_2.lt
                go_wp2_with fail
                clear k_g f_g l_g k_r f_r l_r
                refine (number_date b_g_2 hat H84.out hs).mono ?_
                rintro x w3 ⟨rfl, b_g_3, he⟩
                have b_r_3 := Exc.blk he (by omega) b_r_2
                have HE3 := Lib.hid (Exc.trans HE2.out he)
                clear b_g_2 b_r_2
                clear he
                have k_g := b_g_3.cell
                have f_g := b_g_3.free
                have l_g := b_g_3.lt
                have k_r := b_r_3.cell
                have f_r := b_r_3.free
                have l_r := b_r_3.lt
                go_wp2_with fail
                clear k_g f_g l_g k_r f_r l_r
                refine bodyPost_ret (ret_wd rfl rfl ((put4e (b_r_3) (HE3.out) (show g ≤ _ by omega) (show w.heap.size ≤ _ by omega)).1.old _) rfl) rfl ?_
                unfold NextPost
                have hc : cls ((bs s).drop at_) = 3 := by rw [HCL.out, if_neg (by have h := H0.out; simp only [beq_iff_eq, beq_eq_false_iff_ne] at h; omega), if_neg (by rw [show Lib.hasPrefix (bs r) [104, 101, 120, 58] = _ from H1.out]; simp), if_neg (by rw [show Lib.hasPrefix (bs r) [101, 100, 50, 53, 53, 49, 57, 47] = _ from H2.out]; simp), if_neg (by have h := H3.out; simp only [beq_iff_eq, beq_eq_false_iff_ne] at h; omega), if_neg (by rw [show letterB ((r[0]'hp0).toNat : Int) = _ from H4.out]; simp), if_pos (by rw [show digitB ((r[0]'hp0).toNat : Int) = _ from H5.out])]
                refine ⟨_, _, _, _, _, rfl, ((put4e (b_r_3) (HE3.out) (show g ≤ _ by omega) (show w.heap.size ≤ _ by omega)).2.2 _ _ (by omega) b_g_3).old _, Exc.then (put4e (b_r_3) (HE3.out) (show g ≤ _ by omega) (show w.heap.size ≤ _ by omega)).2.1 (Nat.le_of_lt hg) ((Below.refl _ _).alloc (Nat.le_refl _) _), hm, fun h => ⟨by omega, by omega, by omega⟩, ?_⟩
                unfold NextR
                rw [hc]
                exact ⟨fun h => absurd H84.out (by omega), fun _ => ⟨rfl, rfl, rfl, rfl, rfl⟩⟩
              · have H84 := Lib.hid h84
                clear h84
                rcases Classical.em (∃ u : Nat, Lib.parseUintB 64 (bs (s.extract at_ (at_ + runN digitB s at_))) = .ok u) with hu | hu
                · obtain ⟨u, hu⟩ := hu
                  have HU := Lib.hid hu
                  clear hu
                  obtain ⟨a, ha⟩ : ∃ a : Int, a = (u : Int) := ⟨_, rfl⟩
                  have HA := Lib.hid ha
                  clear ha
                  obtain ⟨bb, hbb⟩ : ∃ bb : Bool, bb = true ↔ NumBad s at_ a (runN digitB s at_) := by
                    rcases Classical.em (NumBad s at_ a (runN digitB s at_)) with h | h
                    · exact ⟨true, by simp [h]⟩
                    · exact ⟨false, by simp [h]⟩
                  have HBB := Lib.hid hbb
                  clear hbb
                  go_enter Tryd.func14, Tryd.ntmps14
                  have k_g := b_g_0.cell
                  have f_g := b_g_0.free
                  have l_g := b_g_0.lt
                  go_wp2_with fail
                  clear k_g f_g l_g
                  generalize hW : World.alloc _ _ = w1
                  obtain ⟨hb, hz⟩ := al1 hW
                  have b_r_1 := n11 hW
                  have b_g_1 := b_g_0.later hb
                  have HE1 := Lib.hid (Exc.then (Exc.refl g w) (Nat.le_of_lt hg) hb)
                  clear b_g_0
                  clear hW hb
                  refine (rest_any b_g_1 (by omega) hs).mono ?_
                  rintro x w2 ⟨rfl, hb⟩
                  have b_g_2 := b_g_1.later hb
                  have b_r_2 := b_r_1.later hb
                  have HE2 := Lib.hid (Exc.then HE1.out (Nat.le_of_lt hg) hb)
                  clear b_g_1 b_r_1
                  clear hb
                  rw [HR.out]
                  have k_g := b_g_2.cell
                  have f_g := b_g_2.free
                  have l_g := b_g_2.lt
                  have k_r := b_r_2.cell
                  have f_r := b_r_2.free
                  have l_r := b_r_2.lt
                  go_wp2_with fail
                  clear k_g f_g l_g k_r f_r l_r
                  refine (Tryd.strings_HasPrefix r ⟨#[104, 101, 120, 58]⟩ _).mono ?_
                  rintro x wz ⟨rfl, hw⟩
                  replace hw := hw.symm
                  subst hw
                  rw [show Lib.hasPrefix r.data.toList (ByteArray.data ⟨#[104, 101, 120, 58]⟩).toList = _ from H1.out]
                  have k_g := b_g_2.cell
                  have f_g := b_g_2.free
                  have l_g := b_g_2.lt
                  have k_r := b_r_2.cell
                  have f_r := b_r_2.free
                  have l_r := b_r_2.lt
                  go_wp2_with fail
                  clear k_g f_g l_g k_r f_r l_r
                  refine (Tryd.strings_HasPrefix r ⟨#[101, 100, 50, 53, 53, 49, 57, 47]⟩ _).mono ?_
                  rintro x wz ⟨rfl, hw⟩
                  replace hw := hw.symm
                  subst hw
                  rw [show Lib.hasPrefix r.data.toList (ByteArray.data ⟨#[101, 100, 50, 53, 53, 49, 57, 47]⟩).toList = _ from H2.out]
                  have k_g := b_g_2.cell
                  have f_g := b_g_2.free
                  have l_g := b_g_2.lt
                  have k_r := b_r_2.cell
                  have f_r := b_r_2.free
                  have l_r := b_r_2.lt
                  go_wp2_with fail
                  clear k_g f_g l_g k_r f_r l_r
                  refine (letter_any _ _ (by omega) hc0).mono ?_
                  rintro x wz ⟨rfl, rfl⟩
                  rw [H4.out]
                  have k_g := b_g_2.cell
                  have f_g := b_g_2.free
                  have l_g := b_g_2.lt
                  have k_r := b_r_2.cell
                  have f_r := b_r_2.free
                  have l_r := b_r_2.lt
                  go_wp2_with fail
                  clear k_g f_g l_g k_r f_r l_r
                  refine (digit_any _ _ (by omega) hc0).mono ?_
                  rintro x wz ⟨rfl, rfl⟩
                  rw [H5.out]
                  have k_g := b_g_2.cell
                  have f_g := b_g_2.free
                  have l_g := b_g_2.lt
                  have k_r := b_r_2.cell
                  have f_r := b_r_2.free
                  have l_r := b_r_2.lt
                  go_wp2_with fail
                  clear k_g f_g l_g k_r f_r l_r
                  refine (number_ok b_g_2 hat H84.out HL1.out HU.out HA.out HBB.out hs).mono ?_
                  rintro x w3 ⟨rfl, b_g_3, he⟩
                  have b_r_3 := Exc.blk he (by omega) b_r_2
                  have HE3 := Lib.hid (Exc.trans HE2.out he)
                  clear b_g_2 b_r_2
                  clear he
                  have k_g := b_g_3.cell
                  have f_g := b_g_3.free
                  have l_g := b_g_3.lt
                  have k_r := b_r_3.cell
                  have f_r := b_r_3.free
                  have l_r := b_r_3.lt
                  go_wp2_with fail
                  clear k_g f_g l_g k_r f_r l_r
                  refine bodyPost_ret (ret_wd rfl rfl ((put4e (b_r_3) (HE3.out) (show g ≤ _ by omega) (show w.heap.size ≤ _ by omega)).1.old _) rfl) rfl ?_
                  unfold NextPost
                  have hc : cls ((bs s).drop at_) = 3 := by rw [HCL.out, if_neg (by have h := H0.out; simp only [beq_iff_eq, beq_eq_false_iff_ne] at h; omega), if_neg (by rw [show Lib.hasPrefix (bs r) [104, 101, 120, 58] = _ from H1.out]; simp), if_neg (by rw [show Lib.hasPrefix (bs r) [101, 100, 50, 53, 53, 49, 57, 47] = _ from H2.out]; simp), if_neg (by have h := H3.out; simp only [beq_iff_eq, beq_eq_false_iff_ne] at h; omega), if_neg (by rw [show letterB ((r[0]'hp0).toNat : Int) = _ from H4.out]; simp), if_pos (by rw [show digitB ((r[0]'hp0).toNat : Int) = _ from H5.out])]
                  refine ⟨_, _, _, _, _, rfl, ((put4e (b_r_3) (HE3.out) (show g ≤ _ by omega) (show w.heap.size ≤ _ by omega)).2.2 _ _ (by omega) b_g_3).old _, Exc.then (put4e (b_r_3) (HE3.out) (show g ≤ _ by omega) (show w.heap.size ≤ _ by omega)).2.1 (Nat.le_of_lt hg) ((Below.refl _ _).alloc (Nat.le_refl _) _), hm2, fun h => ⟨by omega, by omega, by omega⟩, ?_⟩
                  unfold NextR
                  rw [hc]
                  refine ⟨fun _ => ⟨fun u' hu' => ?_, fun h => absurd ⟨_, HU.out⟩ h⟩, fun h => absurd H84.out (by omega)⟩
                  rw [HU.out] at hu'
                  cases hu'
                  rw [← HA.out]
                  exact ⟨rfl, rfl, rfl, rfl, HBB.out⟩
                · have HU := Lib.hid hu
                  clear hu
                  go_enter Tryd.func14, Tryd.ntmps14
                  have k_g := b_g_0.cell
                  have f_g := b_g_0.free
                  have l_g := b_g_0.lt
                  go_wp2_with fail
                  clear k_g f_g l_g
                  generalize hW : World.alloc _ _ = w1
                  obtain ⟨hb, hz⟩ := al1 hW
                  have b_r_1 := n11 hW
                  have b_g_1 := b_g_0.later hb
                  have HE1 := Lib.hid (Exc.then (Exc.refl g w) (Nat.le_of_lt hg) hb)
                  clear b_g_0
                  clear hW hb
                  refine (rest_any b_g_1 (by omega) hs).mono ?_
                  rintro x w2 ⟨rfl, hb⟩
                  have b_g_2 := b_g_1.later hb
                  have b_r_2 := b_r_1.later hb
                  have HE2 := Lib.hid (Exc.then HE1.out (Nat.le_of_lt hg) hb)
                  clear b_g_1 b_r_1
                  clear hb
                  rw [HR.out]
                  have k_g := b_g_2.cell
                  have f_g := b_g_2.free
                  have l_g := b_g_2.lt
                  have k_r := b_r_2.cell
                  have f_r := b_r_2.free
                  have l_r := b_r_2.lt
                  go_wp2_with fail
                  clear k_g f_g l_g k_r f_r l_r
                  refine (Tryd.strings_HasPrefix r ⟨#[104, 101, 120, 58]⟩ _).mono ?_
                  rintro x wz ⟨rfl, hw⟩
                  replace hw := hw.symm
                  subst hw
                  rw [show Lib.hasPrefix r.data.toList (ByteArray.data ⟨#[104, 101, 120, 58]⟩).toList = _ from H1.out]
                  have k_g := b_g_2.cell
                  have f_g := b_g_2.free
                  have l_g := b_g_2.lt
                  have k_r := b_r_2.cell
                  have f_r := b_r_2.free
                  have l_r := b_r_2.lt
                  go_wp2_with fail
                  clear k_g f_g l_g k_r f_r l_r
                  refine (Tryd.strings_HasPrefix r ⟨#[101, 100, 50, 53, 53, 49, 57, 47]⟩ _).mono ?_
                  rintro x wz ⟨rfl, hw⟩
                  replace hw := hw.symm
                  subst hw
                  rw [show Lib.hasPrefix r.data.toList (ByteArray.data ⟨#[101, 100, 50, 53, 53, 49, 57, 47]⟩).toList = _ from H2.out]
                  have k_g := b_g_2.cell
                  have f_g := b_g_2.free
                  have l_g := b_g_2.lt
                  have k_r := b_r_2.cell
                  have f_r := b_r_2.free
                  have l_r := b_r_2.lt
                  go_wp2_with fail
                  clear k_g f_g l_g k_r f_r l_r
                  refine (letter_any _ _ (by omega) hc0).mono ?_
                  rintro x wz ⟨rfl, rfl⟩
                  rw [H4.out]
                  have k_g := b_g_2.cell
                  have f_g := b_g_2.free
                  have l_g := b_g_2.lt
                  have k_r := b_r_2.cell
                  have f_r := b_r_2.free
                  have l_r := b_r_2.lt
                  go_wp2_with fail
                  clear k_g f_g l_g k_r f_r l_r
                  refine (digit_any _ _ (by omega) hc0).mono ?_
                  rintro x wz ⟨rfl, rfl⟩
                  rw [H5.out]
                  have k_g := b_g_2.cell
                  have f_g := b_g_2.free
                  have l_g := b_g_2.lt
                  have k_r := b_r_2.cell
                  have f_r := b_r_2.free
                  have l_r := b_r_2.lt
                  go_wp2_with fail
                  clear k_g f_g l_g k_r f_r l_r
                  refine (number_err b_g_2 hat H84.out HL1.out HU.out (HV.out.keep HE2.out.1 h2) h2 hs).mono ?_
                  rintro x w3 ⟨⟨n, rfl⟩, b_g_3, he⟩
                  have b_r_3 := Exc.blk he (by omega) b_r_2
                  have HE3 := Lib.hid (Exc.trans HE2.out he)
                  clear b_g_2 b_r_2
                  clear he
                  have k_g := b_g_3.cell
                  have f_g := b_g_3.free
                  have l_g := b_g_3.lt
                  have k_r := b_r_3.cell
                  have f_r := b_r_3.free
                  have l_r := b_r_3.lt
                  go_wp2_with fail
                  clear k_g f_g l_g k_r f_r l_r
                  refine bodyPost_ret (ret_wd rfl rfl ((put4e (b_r_3) (HE3.out) (show g ≤ _ by omega) (show w.heap.size ≤ _ by omega)).1.old _) rfl) rfl ?_
                  unfold NextPost
                  have hc : cls ((bs s).drop at_) = 3 := by rw [HCL.out, if_neg (by have h := H0.out; simp only [beq_iff_eq, beq_eq_false_iff_ne] at h; omega), if_neg (by rw [show Lib.hasPrefix (bs r) [104, 101, 120, 58] = _ from H1.out]; simp), if_neg (by rw [show Lib.hasPrefix (bs r) [101, 100, 50, 53, 53, 49, 57, 47] = _ from H2.out]; simp), if_neg (by have h := H3.out; simp only [beq_iff_eq, beq_eq_false_iff_ne] at h; omega), if_neg (by rw [show letterB ((r[0]'hp0).toNat : Int) = _ from H4.out]; simp), if_pos (by rw [show digitB ((r[0]'hp0).toNat : Int) = _ from H5.out])]
                  refine ⟨_, _, _, _, _, rfl, ((put4e (b_r_3) (HE3.out) (show g ≤ _ by omega) (show w.heap.size ≤ _ by omega)).2.2 _ _ (by omega) b_g_3).old _, Exc.then (put4e (b_r_3) (HE3.out) (show g ≤ _ by omega) (show w.heap.size ≤ _ by omega)).2.1 (Nat.le_of_lt hg) ((Below.refl _ _).alloc (Nat.le_refl _) _), hm2, fun h => (by cases h), ?_⟩
                  unfold NextR
                  rw [hc]
                  exact ⟨fun _ => ⟨fun u' hu' => absurd ⟨_, hu'⟩ HU.out, fun _ => rfl⟩, fun h => absurd H84.out (by omega)⟩
            · have H5 := Lib.hid h5
              clear h5
              go_enter Tryd.func14, Tryd.ntmps14
              have k_g := b_g_0.cell
              have f_g := b_g_0.free
              have l_g := b_g_0.lt
              go_wp2_with fail
              clear k_g f_g l_g
              generalize hW : World.alloc _ _ = w1
              obtain ⟨hb, hz⟩ := al1 hW
              have b_r_1 := n11 hW
              have b_g_1 := b_g_0.later hb
              have HE1 := Lib.hid (Exc.then (Exc.refl g w) (Nat.le_of_lt hg) hb)
              clear b_g_0
              clear hW hb
              refine (rest_any b_g_1 (by omega) hs).mono ?_
              rintro x w2 ⟨rfl, hb⟩
              have b_g_2 := b_g_1.later hb
              have b_r_2 := b_r_1.later hb
              have HE2 := Lib.hid (Exc.then HE1.out (Nat.le_of_lt hg) hb)
              clear b_g_1 b_r_1
              clear hb
              rw [HR.out]
              have k_g := b_g_2.cell
              have f_g := b_g_2.free
              have l_g := b_g_2.lt
              have k_r := b_r_2.cell
              have f_r := b_r_2.free
              have l_r := b_r_2.lt
              go_wp2_with fail
              clear k_g f_g l_g k_r f_r l_r
              refine (Tryd.strings_HasPrefix r ⟨#[104, 101, 120, 58]⟩ _).mono ?_
              rintro x wz ⟨rfl, hw⟩
              replace hw := hw.symm
              subst hw
              rw [show Lib.hasPrefix r.data.toList (ByteArray.data ⟨#[104, 101, 120, 58]⟩).toList = _ from H1.out]
              have k_g := b_g_2.cell
              have f_g := b_g_2.free
              have l_g := b_g_2.lt
              have k_r := b_r_2.cell
              have f_r := b_r_2.free
              have l_r := b_r_2.lt
              go_wp2_with fail
              clear k_g f_g l_g k_r f_r l_r
              refine (Tryd.strings_HasPrefix r ⟨#[101, 100, 50, 53, 53, 49, 57, 47]⟩ _).mono ?_
              rintro x wz ⟨rfl, hw⟩
              replace hw := hw.symm
              subst hw
              rw [show Lib.hasPrefix r.data.toList (ByteArray.data ⟨#[101, 100, 50, 53, 53, 49, 57, 47]⟩).toList = _ from H2.out]
              have k_g := b_g_2.cell
              have f_g := b_g_2.free
              have l_g := b_g_2.lt
              have k_r := b_r_2.cell
              have f_r := b_r_2.free
              have l_r := b_r_2.lt
              go_wp2_with fail
              clear k_g f_g l_g k_r f_r l_r
              refine (letter_any _ _ (by omega) hc0).mono ?_
              rintro x wz ⟨rfl, rfl⟩
              rw [H4.out]
              have k_g := b_g_2.cell
              have f_g := b_g_2.free
              have l_g := b_g_2.lt
              have k_r := b_r_2.cell
              have f_r := b_r_2.free
              have l_r := b_r_2.lt
              go_wp2_with fail
              clear k_g f_g l_g k_r f_r l_r
              refine (digit_any _ _ (by omega) hc0).mono ?_
              rintro x wz ⟨rfl, rfl⟩
              rw [H5.out]
              have k_g := b_g_2.cell
              have f_g := b_g_2.free
              have l_g := b_g_2.lt
              have k_r := b_r_2.cell
              have f_r := b_r_2.free
              have l_r := b_r_2.lt
              go_wp2_with fail
              clear k_g f_g l_g k_r f_r l_r
              refine (mark_any b_g_2 hat hs).mono ?_
              rintro x w3 ⟨S, to, bb, rfl, b_g_3, he, hmk⟩
              have b_r_3 := Exc.blk he (by omega) b_r_2
              have HE3 := Lib.hid (Exc.trans HE2.out he)
              clear b_g_2 b_r_2
              clear he
              have HMK := Lib.hid hmk
              obtain ⟨ht1, ht2⟩ := mark_to hat hmk
              clear hmk
              have k_g := b_g_3.cell
              have f_g := b_g_3.free
              have l_g := b_g_3.lt
              have k_r := b_r_3.cell
              have f_r := b_r_3.free
              have l_r := b_r_3.lt
              go_wp2_with fail
              clear k_g f_g l_g k_r f_r l_r
              refine bodyPost_ret (ret_wd rfl rfl ((put4e (b_r_3) (HE3.out) (show g ≤ _ by omega) (show w.heap.size ≤ _ by omega)).1.old _) rfl) rfl ?_
              unfold NextPost
              have hc : cls ((bs s).drop at_) = 7 := by rw [HCL.out, if_neg (by have h := H0.out; simp only [beq_iff_eq, beq_eq_false_iff_ne] at h; omega), if_neg (by rw [show Lib.hasPrefix (bs r) [104, 101, 120, 58] = _ from H1.out]; simp), if_neg (by rw [show Lib.hasPrefix (bs r) [101, 100, 50, 53, 53, 49, 57, 47] = _ from H2.out]; simp), if_neg (by have h := H3.out; simp only [beq_iff_eq, beq_eq_false_iff_ne] at h; omega), if_neg (by rw [show letterB ((r[0]'hp0).toNat : Int) = _ from H4.out]; simp), if_neg (by rw [show digitB ((r[0]'hp0).toNat : Int) = _ from H5.out]; simp)]
              refine ⟨_, _, _, _, _, rfl, ((put4e (b_r_3) (HE3.out) (show g ≤ _ by omega) (show w.heap.size ≤ _ by omega)).2.2 _ _ (by omega) b_g_3).old _, Exc.then (put4e (b_r_3) (HE3.out) (show g ≤ _ by omega) (show w.heap.size ≤ _ by omega)).2.1 (Nat.le_of_lt hg) ((Below.refl _ _).alloc (Nat.le_refl _) _), ht2, fun h => ⟨ht1, by omega, by omega⟩, ?_⟩
              unfold NextR
              rw [hc]
              exact ⟨rfl, rfl, HMK.out⟩
end Go.Proofs.YtijajfelmekmiaaDoor
