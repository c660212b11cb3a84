/- cmp.Less, slices.BinarySearch at strings (XKnown's first part, for seats without rule.known). -/
import Derived.Test.YtiplipdigabidaaGreatUniq
import Derived.Test.YtiplipdigabidaaGreatOp2
set_option linter.unusedVariables false
set_option linter.unusedSimpArgs false
namespace Go.Proofs.YtiplipdigabidaaGreat
open Go.ChangeShapes Go.WideShapes Go.ChangeAt Go.RowKit

set_option maxHeartbeats 400000 in
theorem lessStr_any (x y : ByteArray) (w : World) :
    Calls Tryz.prog 107 #[.string x, .string y] w fun e w' => e = .returned (.bool (decide (bs x < bs y))) ∧ w = w' := by
  go_enter Tryz.func107, Tryz.ntmps107
  go_wp2
  all_goals go_ret
  all_goals refine ⟨ret_bool ?_, rfl⟩
  all_goals
    rw [bytesLess_eq, ByteArray.toList_eq, ByteArray.toList_eq]

set_option maxHeartbeats 400000 in
theorem isNaNStr_any (x : ByteArray) (w : World) : Calls Tryz.prog 112 #[.string x] w fun e w' => e = .returned (.bool false) ∧ w = w' := by
  go_enter Tryz.func112, Tryz.ntmps112
  go_wp2
  all_goals go_ret
  all_goals exact ⟨ret_bool (by simp), rfl⟩


/-- Where t stands, or would stand, in a rising list. -/
def posL (L : List Bytes) (t : Bytes) : Nat := L.findIdx (fun x => !decide (x < t))

theorem strs_at {L : List Bytes} {A : Option Addr} {B : Nat} {w wr : World} (hl : RL StrR w B (L.map mkS) A) (hbw : Below w.heap.size w wr) (hB : B ≤ w.heap.size) (h0 : 0 < L.length) :
    ∃ b off, A = some ⟨b, off, none⟩ ∧ b < wr.heap.size ∧ ∀ m (hm : m < L.length), wr.cell? ⟨b, off + m, none⟩ = some (.string (mkS L[m])) := by
  obtain ⟨b, off, rfl, hb⟩ := hl.base hbw hB (by simpa using h0)
  refine ⟨b, off, rfl, hb, fun m hm => ?_⟩
  obtain ⟨x, vs, hx, hlen, hcell, hr⟩ := hl.at_ hbw hB (k := m) (by simpa using hm)
  obtain ⟨rfl, _⟩ := hr
  have := hcell 0 _ rfl
  have e : x = mkS L[m] := by simpa [hm, eq_comm] using hx
  rw [← e]
  simpa [StrR] using this

theorem posL_eq {L : List Bytes} {t : Bytes} {i : Nat} (h : i ≤ L.length) (h1 : ∀ k (hk : k < L.length), k < i → L[k] < t) (h2 : ∀ k (hk : k < L.length), i ≤ k → ¬ L[k] < t) : posL L t = i := by
  unfold posL
  rcases Nat.lt_or_ge i L.length with hlt | hge
  · refine (List.findIdx_eq hlt).2 ⟨by simpa using h2 i hlt (Nat.le_refl _), fun j hj => ?_⟩
    simpa using h1 j (by omega) hj
  · obtain rfl : i = L.length := by omega
    refine List.findIdx_eq_length.2 fun x hx => ?_
    obtain ⟨k, hk, rfl⟩ := List.getElem_of_mem hx
    simpa using h1 k hk hk

/-- In a rising list t is at its place, or nowhere. -/
theorem mem_at {L : List Bytes} {t : Bytes} {i : Nat} (hi : i < L.length) (h1 : ∀ k (hk : k < L.length), k < i → L[k] < t) (hs : L.Pairwise (· < ·)) (h2 : ¬ L[i] < t) : t ∈ L ↔ L[i] = t := by
  constructor
  · intro h
    obtain ⟨k, hk, rfl⟩ := List.getElem_of_mem h
    rcases Nat.lt_trichotomy k i with h | h | h
    · exact absurd (h1 k hk h) (List.lt_irrefl _)
    · subst h; rfl
    · exact absurd (List.pairwise_iff_getElem.1 hs i k hi hk h) h2
  · intro h; rw [← h]; exact List.getElem_mem hi

set_option maxRecDepth 100000 in
set_option maxHeartbeats 1000000 in
theorem bsearch_any (L : List Bytes) (A : Option Addr) (c B : Nat) (t : ByteArray) (w : World) (hl : RL StrR w B (L.map mkS) A) (hB : B ≤ w.heap.size) (hn : L.length ≤ 1000000) (hs : L.Pairwise (· < ·)) :
    Calls Tryz.prog 78 #[.slice A L.length c, .string t] w fun e w' => e = .returned (.tuple #[.int .i64 (posL L (bs t)), .bool (decide (bs t ∈ L))]) ∧ w = w' := by
  go_enter Tryz.func78, Tryz.ntmps78
  go_wp2_with fail
  go_loop [7, 8] (fun u v => ∃ i j : Nat, i ≤ j ∧ j ≤ L.length ∧ u = .int .i64 i ∧ v = .int .i64 j ∧ (∀ k (hk : k < L.length), k < i → L[k] < bs t) ∧ (∀ k (hk : k < L.length), j ≤ k → ¬ L[k] < bs t)) (fun u v => (intOf v).toNat - (intOf u).toNat)
  case atStart => exact ⟨0, L.length, Nat.zero_le _, Nat.le_refl _, rfl, rfl, fun k hk h => absurd h (by omega), fun k hk h => absurd h (by omega)⟩
  case round =>
    obtain ⟨i, j, hij, hj, rfl, rfl, hlo, hhi⟩ := hrel
    have HLO := Lib.hid hlo
    have HHI := Lib.hid hhi
    have HL := Lib.hid hl
    have HS := Lib.hid hs
    clear hlo hhi hl hs
    by_cases hlt : i < j
    · obtain ⟨b, off, rfl, hb, hc⟩ := strs_at HL.out (Below.refl _ _) hB (by omega)
      have hcm := hc ((i + j) / 2) (by omega)
      have hm1 : ((i : Int) + j) / 2 < L.length := by omega
      have hm0 : 0 ≤ ((i : Int) + j) / 2 := by omega
      clear hc
      by_cases hless : L[(i + j) / 2]'(by omega) < bs t
      · have HLS := Lib.hid hless
        have hless' : decide (bs (mkS (L[(i + j) / 2]'(by omega))) < bs t) = true := by rw [bs_mkS]; simpa using hless
        clear hless
        go_wp2_with (go_at_call 107; refine (lessStr_any _ _ _).mono ?_; rintro e w' ⟨rfl, rfl⟩)
        go_round
        case rel => exact ⟨(i + j) / 2 + 1, j, by omega, hj, by go_num, rfl, fun k hk h => by
          rcases Nat.lt_or_ge k ((i + j) / 2) with h1 | h1
          · exact List.lt_trans (List.pairwise_iff_getElem.1 HS.out k _ hk (by omega) h1) HLS.out
          · obtain rfl : k = (i + j) / 2 := by omega
            exact HLS.out, HHI.out⟩
        case measure => simp [intOf]; omega
      · have HLS := Lib.hid hless
        have hless' : decide (bs (mkS (L[(i + j) / 2]'(by omega))) < bs t) = false := by rw [bs_mkS]; simpa using hless
        clear hless
        go_wp2_with (go_at_call 107; refine (lessStr_any _ _ _).mono ?_; rintro e w' ⟨rfl, rfl⟩)
        go_round
        case rel => exact ⟨i, (i + j) / 2, by omega, by omega, rfl, by go_num, HLO.out, fun k hk h h2 => by
          rcases Nat.lt_or_ge ((i + j) / 2) k with h1 | h1
          · exact HLS.out (List.lt_trans (List.pairwise_iff_getElem.1 HS.out _ k (by omega) hk h1) h2)
          · obtain rfl : k = (i + j) / 2 := by omega
            exact HLS.out h2⟩
        case measure => simp [intOf]; omega
    · obtain rfl : i = j := by omega
      have HP := Lib.hid (posL_eq hj HLO.out HHI.out)
      by_cases hin : i < L.length
      · obtain ⟨b, off, rfl, hb, hc⟩ := strs_at HL.out (Below.refl _ _) hB (by omega)
        have hcm := hc i hin
        have HM := Lib.hid (mem_at hin HLO.out HS.out (HHI.out i hin (Nat.le_refl _)))
        clear hc
        have hq : ((mkS L[i]).toList == t.toList) = decide (L[i] = bs t) := by rw [same_iff, bs_mkS]
        by_cases he : L[i] = bs t
        · have HE := Lib.hid he
          have hq' : ((mkS L[i]).toList == t.toList) = true := by rw [hq]; simpa using he
          clear hq he
          go_wp2_with fail
          go_ret2
          exact ⟨ret_ib (by rw [HP.out]) (by simpa using (HM.out.2 HE.out)), rfl⟩
        · have HE := Lib.hid he
          have hq' : ((mkS L[i]).toList == t.toList) = false := by rw [hq]; simpa using he
          clear hq he
          go_wp2_with (go_at_call 112; refine (isNaNStr_any _ _).mono ?_; rintro e w' ⟨rfl, rfl⟩)
          go_ret2
          exact ⟨ret_ib (by rw [HP.out]) (by simpa using (fun h => HE.out (HM.out.1 h))), rfl⟩
      · have hi2 : i = L.length := by omega
        subst hi2
        go_wp2_with fail
        go_ret2
        exact ⟨ret_ib (by rw [HP.out]) (by
          have : bs t ∉ L := fun h => by
            obtain ⟨k, hk, e⟩ := List.getElem_of_mem h
            exact absurd (HLO.out k hk hk) (by rw [e]; exact List.lt_irrefl _)
          simpa using this), rfl⟩
end Go.Proofs.YtiplipdigabidaaGreat
