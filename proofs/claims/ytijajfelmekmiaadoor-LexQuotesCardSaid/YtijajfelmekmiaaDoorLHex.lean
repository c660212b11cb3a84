/- lex.Hex. -/
import Derived.Test.YtijajfelmekmiaaDoorLHexLaw
import Derived.Test.YtijajfelmekmiaaDoorLBuild
set_option linter.unusedVariables false
set_option linter.unusedSimpArgs false
namespace Go.Proofs.YtijajfelmekmiaaDoor
open Go.ChangeShapes Go.WideShapes Go.ChangeAt Go.RowKit

theorem Blk.srcs {α : Type} {R : Reader α} {w : World} {B b : Nat} {xs : List α} {vs : Array Value} (h : Blk w b vs) (hr : Flat R w B xs vs.toList) (h0 : vs.size ≠ 0) : SrcR R w B (some ⟨b, 0, none⟩) xs := by
  refine ⟨vs.toList, hr, fun e => by (cases e), fun a ha j u hu => ?_⟩
  simp only [Option.some.injEq] at ha
  subst ha
  have := h.cell j
  rw [← Array.getElem?_toList, hu] at this
  unfold Addr.add
  split
  · rename_i hj; subst hj; exact this
  · simpa using this
theorem flat2 (w : World) (B : Nat) (d1 d2 : UInt8) : Flat ByR w B [d1, d2] [.int .u8 (d1.toNat : Int), .int .u8 (d2.toNat : Int)] :=
  (Flat.one (R := ByR) (w := w) (B := B) (x := d1) (vs := [.int .u8 (d1.toNat : Int)]) rfl).append (Flat.one (R := ByR) (w := w) (B := B) (x := d2) (vs := [.int .u8 (d2.toNat : Int)]) rfl)
set_option maxRecDepth 100000 in
theorem index16 (n : Nat) (h : n < 16) (i : Int) (hi : i = n) (wx : World) : (Instr.index 9 (.string { data := #[48, 49, 50, 51, 52, 53, 54, 55, 56, 57, 97, 98, 99, 100, 101, 102] }) (.int .u8 i)).run Tryd.prog wx = .ok (.int .u8 ((hexDig n).toNat : Int)) wx := by
  subst hi
  show (Instr.index 9 (.string dig16) (.int .u8 n)).run Tryd.prog wx = _
  rw [run_index_string wx 9 dig16 .u8 n Tryd.underlying9, dif_pos ⟨by omega, by show (n : Int) < 16; omega⟩]
  have e : ∀ h2 : (n : Int).toNat < dig16.size, dig16[(n : Int).toNat]'h2 = hexDig n := fun h2 => by
    unfold hexDig
    rw [List.getD_eq_getElem?_getD, List.getElem?_eq_getElem (by rw [bs_length]; exact h), bs_get dig16 n h]
    rfl
  rw [e]
set_option maxRecDepth 100000 in
set_option maxHeartbeats 4000000 in
theorem hexS_any {w : World} {s : ByteArray} (hs : s.size ≤ 100000) :
    Calls Tryd.prog 11 #[.string s] w fun e w' => e = .returned (.string (mkS (hexL (bs s)))) ∧ Below w.heap.size w w' := by
  obtain ⟨i0, hi0, hz0, hz1, hz2⟩ := info_parts infoBy
  go_enter Tryd.func11, Tryd.ntmps11
  go_wp2_with fail
  go_loopw [3, 7] (fun v i wr => ∃ (k : Nat) (xs : Bytes), k ≤ s.size ∧ i = .int .i64 k ∧ Hid (xs = hexL ((bs s).take k)) ∧ xs.length ≤ 2 * k ∧ Hid (OwnR ByR 5 wr w.heap.size 0 v xs) ∧ Below w.heap.size w wr) (fun _ i _ => s.size - (intOf i).toNat)
  case atStart => exact ⟨0, [], by omega, rfl, Lib.hid rfl, by simp, Lib.hid (OwnR.nil _ _ _ _ _), Below.refl _ _⟩
  case round =>
    obtain ⟨k, xs, hk, rfl, HU, hx, HO, hbw⟩ := hrel
    have HBW := Lib.hid hbw
    have hszr := hbw.size
    clear hbw
    by_cases hlt : k < s.size
    · have i1 : (k : Int) < s.size := by omega
      obtain ⟨AO, cO, rfl⟩ := HO.out.form
      have hc8 := (s[k]'hlt).toNat_lt
      have kx := index16 ((s[k]'hlt).toNat / 16) (by omega) (((s[k]'hlt).toNat : Int) / 16) (by omega)
      have ky := index16 ((s[k]'hlt).toNat % 16) (by omega) (((s[k]'hlt).toNat : Int) % 16) (by omega)
      have HN := Lib.hid (show xs ++ [hexDig ((s[k]'hlt).toNat / 16), hexDig ((s[k]'hlt).toNat % 16)] = hexL ((bs s).take (k + 1)) by
        have hlk : k < (bs s).length := by rw [bs_length]; exact hlt
        rw [List.take_succ_eq_append_getElem hlk, bs_get s k hlt, hexL_append, HU.out, hexL_one]; rfl)
      generalize hexDig ((s[k]'hlt).toNat / 16) = d1 at *
      generalize hexDig ((s[k]'hlt).toNat % 16) = d2 at *
      go_wp2_with fail
      refine wp_region_mix (fun _ => True) (by kernel_rfl) (by kernel_rfl) trivial ?_
      repeat (refine mix_quiet rfl rfl (fun K hK => ?_); go_big_quiet_op; refine hK _ ?_; clear hK K)
      refine mix_loud rfl rfl (fun K hK => ?_)
      go_wp2_with fail
      refine ⟨trivial, ?_⟩
      refine mix_loud rfl rfl (fun K hK => ?_)
      refine wp_append_R (R := ByR) (e := 5) (.tmp 10) (.tmp 21) 32 rfl (bytes := 1) Tryd.underlying32 hi0 hz0 hz1 hz2 rfl (show 0 < 1 by omega) single_by rfl (HO.out.later ((Below.refl _ wr).alloc (Nat.le_refl _) _).drew (Nat.zero_le _)) rfl (Blk.srcs (xs := [d1, d2]) (n11 rfl).drew (flat2 _ _ d1 d2) (by simp)) rfl (Nat.zero_le _) (by simp; omega) (by omega) (Nat.le_trans hszr (by simp [World.drew])) ?_
      intro v2 w2 hown2 hb2 _
      have HO2 := Lib.hid hown2
      have HB2 := Lib.hid (HBW.out.trans ((((Below.refl wr.heap.size wr).alloc (Nat.le_refl _) (.cells #[.int .u8 d1.toNat, .int .u8 d2.toNat] 5)).drew.mono hszr).trans hb2))
      clear hown2 hb2
      refine hK _ _ ⟨trivial, ?_⟩
      clear hK K
      dsimp only [Act.put]
      simp only [List.setIfInBounds_toArray, List.set_cons_succ, List.set_cons_zero]
      repeat (refine mix_quiet rfl rfl (fun K hK => ?_); go_big_quiet_op; refine hK _ ?_; clear hK K)
      refine mix_nil (fun _ => ?_)
      go_wp2_with fail
      go_roundw
      case rel => exact ⟨k + 1, xs ++ [d1, d2], by omega, by go_num, HN, by simp; omega, HO2, HB2.out⟩
      case measure => simp [intOf]; omega
    · have hcv := conv_by HO.out (Nat.zero_le _) (by omega)
      go_wp2_with fail
      go_ret
      refine ⟨ret_str ?_, HBW.out⟩
      have h := HU.out
      rw [show k = s.size by omega, List.take_of_length_le (by rw [bs_length]; omega)] at h
      rw [h]
end Go.Proofs.YtijajfelmekmiaaDoor
