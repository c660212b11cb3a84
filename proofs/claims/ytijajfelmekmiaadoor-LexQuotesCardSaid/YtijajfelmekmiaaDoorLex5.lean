/- A reader of bytes; lex.bytes. -/
import Derived.Test.YtijajfelmekmiaaDoorLex4
import Derived.Laws.IdiomStrings
import Derived.Laws.BytesArg
set_option linter.unusedVariables false
set_option linter.unusedSimpArgs false
namespace Go.Proofs.YtijajfelmekmiaaDoor
open Go.ChangeShapes Go.WideShapes Go.ChangeAt Go.RowKit

def ByR : Reader UInt8 where
  k := 1
  rd := fun _ _ c vs => vs = [.int .u8 c.toNat]
  keep := fun _ _ h => h
  wide := fun _ h => h
  len := fun h => by rw [h]; rfl
theorem single_by : Single ByR := fun h u hu => by
  simp only [ByR] at h
  subst h
  simp only [List.mem_cons, List.not_mem_nil, or_false] at hu
  subst hu; rfl
theorem infoBy : (Tryd.prog.info? 5).map (fun i => (i.zero, i.size, i.bytes)) = some (some (.int .u8 0), 1, 1) := by kernel_rfl

/-- 'string(out)'. -/
theorem conv_by {w : World} {base B : Nat} {v : Value} {xs : Bytes} (h : OwnR ByR 5 w base B v xs) (hB : B ≤ w.heap.size) (hn : xs.length ≤ 1000000) :
    (convert 32 9 v).run Tryd.prog w = .ok (.string (mkS xs)) w := by
  obtain ⟨A, c, rfl, h1, h2, hl⟩ := h.reads hB (by simp only [ByR]; omega)
  rcases A with _ | a
  · have hx : xs = [] := by
      rcases Nat.eq_zero_or_pos xs.length with h0 | h0
      · exact List.eq_nil_of_length_eq_zero h0
      · obtain ⟨b, off, e, _⟩ := hl h0; cases e
    subst hx
    exact run_convert_bytes_nil w _ 5 Tryd.underlying32 Tryd.underlying5 _ _ _ Tryd.underlying9
  · refine run_convert_bytes_back w _ _ 5 a c xs Tryd.underlying32 Tryd.underlying5 Tryd.underlying9 (fun j hj => ?_)
    obtain ⟨b, off, e, hb, hc⟩ := hl (by omega)
    simp only [Option.some.injEq] at e
    subst e
    obtain ⟨vs, hlen, ⟨x, hx, hr⟩, hcell⟩ := hc j hj
    simp only [ByR] at hr
    subst hr
    have e1 : x = xs[j] := by
      have := (List.getElem?_eq_some_iff.1 hx).2
      exact this.symm
    have := hcell 0 _ rfl
    simp only [ByR, Nat.mul_one, Nat.add_zero] at this
    rw [e1] at this
    rcases Nat.eq_zero_or_pos j with h0 | h0
    · subst h0; simpa [Addr.add] using this
    · have hj0 : ¬ j = 0 := by omega
      simpa [Addr.add, hj0] using this

/-- The byte of two digits of base 16. -/
def hexPair (a b : UInt8) : UInt8 := UInt8.ofNat (((bits .or .i64 (wrap64 (Lib.indexByte [48, 49, 50, 51, 52, 53, 54, 55, 56, 57, 97, 98, 99, 100, 101, 102] a * 16)) (Lib.indexByte [48, 49, 50, 51, 52, 53, 54, 55, 56, 57, 97, 98, 99, 100, 101, 102] b)) % 256).toNat)
theorem hexPair_eq (a b : UInt8) : (bits .or .i64 (wrap64 (Lib.indexByte [48, 49, 50, 51, 52, 53, 54, 55, 56, 57, 97, 98, 99, 100, 101, 102] a * 16)) (Lib.indexByte [48, 49, 50, 51, 52, 53, 54, 55, 56, 57, 97, 98, 99, 100, 101, 102] b)) % 256 = ((hexPair a b).toNat : Int) := by
  unfold hexPair
  generalize bits .or .i64 (wrap64 (Lib.indexByte [48, 49, 50, 51, 52, 53, 54, 55, 56, 57, 97, 98, 99, 100, 101, 102] a * 16)) (Lib.indexByte [48, 49, 50, 51, 52, 53, 54, 55, 56, 57, 97, 98, 99, 100, 101, 102] b) = n
  simp
  omega
/-- The bytes of digits of base 16, two each. -/
def unhex : Bytes → Bytes
  | a :: b :: l => hexPair a b :: unhex l
  | _ => []
theorem drop_two {s : ByteArray} {k : Nat} (h : k + 1 < s.size) : (bs s).drop k = s[k] :: s[k + 1] :: (bs s).drop (k + 2) := by
  have h1 : k < (bs s).length := by rw [bs_length]; omega
  have h2 : k + 1 < (bs s).length := by rw [bs_length]; omega
  rw [List.drop_eq_getElem_cons h1, List.drop_eq_getElem_cons h2, bs_get s k (by omega), bs_get s (k + 1) h]
theorem drop_few {s : ByteArray} {k : Nat} (h : ¬ k + 1 < s.size) : unhex ((bs s).drop k) = [] := by
  have : ((bs s).drop k).length ≤ 1 := by rw [List.length_drop, bs_length]; omega
  match (bs s).drop k, this with
  | [], _ => rfl
  | [a], _ => rfl
  | a :: b :: l, h => simp at h

set_option maxRecDepth 100000 in
set_option maxHeartbeats 4000000 in
theorem bytes_any {w : World} {s : ByteArray} (hs : s.size ≤ 1000000) :
    Calls Tryd.prog 34 #[.string s] w fun e w' => e = .returned (.string (mkS (unhex (bs s)))) ∧ Below w.heap.size w w' := by
  obtain ⟨i0, hi0, hz0, hz1, hz2⟩ := info_parts infoBy
  go_enter Tryd.func34, Tryd.ntmps34
  go_wp2_with fail
  go_loopw [3, 4] (fun v i wr => ∃ (k : Nat) (xs : Bytes), k ≤ s.size ∧ i = .int .i64 k ∧ 2 * xs.length = k ∧ Hid (xs ++ unhex ((bs s).drop k) = unhex (bs s)) ∧ Hid (OwnR ByR 5 wr w.heap.size 0 v xs) ∧ Below w.heap.size w wr) (fun _ i _ => s.size - (intOf i).toNat)
  case atStart => exact ⟨0, [], by omega, rfl, rfl, Lib.hid (by simp), Lib.hid (OwnR.nil _ _ _ _ _), Below.refl _ _⟩
  case round =>
    obtain ⟨k, xs, hk, rfl, hx, HU, HO, hbw⟩ := hrel
    have HBW := Lib.hid hbw
    have hszr := hbw.size
    clear hbw
    by_cases hlt : k + 1 < s.size
    · have i1 : (k : Int) < s.size := by omega
      have i2 : (k : Int) + 1 < s.size := by omega
      have i3 : (0 : Int) ≤ (k : Int) + 1 := by omega
      have i4 : IntKind.i64.wrap ((k : Int) + 1) = (k : Int) + 1 := by rw [IntKind.wrap_i64]; omega
      go_wp2_with fail
      refine wp_region_mix (fun _ => True) (by kernel_rfl) (by kernel_rfl) trivial ?_
      repeat (refine mix_quiet rfl rfl (fun K hK => ?_); go_big_quiet_op; refine hK _ ?_; clear hK K)
      refine mix_loud rfl rfl (fun K hK => ?_)
      go_wp2_with fail
      refine (Tryd.strings_IndexByte _ _ _).mono ?_
      rintro x wz ⟨rfl, hw⟩
      replace hw := hw.symm
      subst hw
      go_wp2_with fail
      refine ⟨trivial, ?_⟩
      repeat (refine mix_quiet rfl rfl (fun K hK => ?_); go_big_quiet_op; refine hK _ ?_; clear hK K)
      refine mix_loud rfl rfl (fun K hK => ?_)
      go_wp2_with fail
      refine (Tryd.strings_IndexByte _ _ _).mono ?_
      rintro x wz ⟨rfl, hw⟩
      replace hw := hw.symm
      subst hw
      go_wp2_with fail
      refine ⟨trivial, ?_⟩
      repeat (refine mix_quiet rfl rfl (fun K hK => ?_); go_big_quiet_op; refine hK _ ?_; clear hK K)
      refine mix_loud rfl rfl (fun K hK => ?_)
      have hpe := hexPair_eq s[k] s[k + 1]
      have HN := Lib.hid (show xs ++ [hexPair s[k] s[k + 1]] ++ unhex ((bs s).drop (k + 2)) = unhex (bs s) by rw [← HU.out, drop_two hlt]; simp [unhex])
      generalize hexPair s[k] s[k + 1] = hp at *
      go_wp2_with fail
      refine ⟨trivial, ?_⟩
      refine mix_loud rfl rfl (fun K hK => ?_)
      refine wp_append_R (R := ByR) (e := 5) (.tmp 12) (.tmp 25) 32 rfl (bytes := 1) Tryd.underlying32 hi0 hz0 hz1 hz2 rfl (show 0 < 1 by omega) single_by rfl (HO.out.later ((Below.refl _ wr).alloc (Nat.le_refl _) _).drew (Nat.zero_le _)) rfl (Blk.src (x := hp) (n11 rfl).drew rfl) rfl (Nat.zero_le _) (by simp; omega) (by omega) (Nat.le_trans hszr (by simp [World.drew])) ?_
      intro v2 w2 hown2 hb2 _
      have HO2 := Lib.hid hown2
      have HB2 := Lib.hid (HBW.out.trans ((((Below.refl wr.heap.size wr).alloc (Nat.le_refl _) (.cells #[.int .u8 hp.toNat] 5)).drew.mono hszr).trans hb2))
      clear hown2 hb2
      refine hK _ _ ⟨trivial, ?_⟩
      clear hK K
      dsimp only [Act.put]
      simp only [List.setIfInBounds_toArray, List.set_cons_succ, List.set_cons_zero]
      repeat (refine mix_quiet rfl rfl (fun K hK => ?_); go_big_quiet_op; refine hK _ ?_; clear hK K)
      refine mix_nil (fun _ => ?_)
      go_wp2_with fail
      go_roundw
      case rel => exact ⟨k + 2, xs ++ [hp], by omega, by go_num, by simp; omega, HN, HO2, HB2.out⟩
      case measure => simp [intOf]; omega
    · have HN := Lib.hid (drop_few hlt)
      have hcv := conv_by HO.out (Nat.zero_le _) (by omega)
      go_wp2_with fail
      go_ret
      refine ⟨ret_str ?_, HBW.out⟩
      have h := HU.out
      rw [HN.out, List.append_nil] at h
      rw [h]
end Go.Proofs.YtijajfelmekmiaaDoor
