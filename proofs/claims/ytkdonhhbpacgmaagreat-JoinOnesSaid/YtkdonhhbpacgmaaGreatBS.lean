/- cmp.Less, slices.BinarySearch at strings. -/
import Derived.Test.YtkdonhhbpacgmaaGreatSort
set_option linter.unusedVariables false
set_option linter.unusedSimpArgs false
namespace Go.Proofs.YtkdonhhbpacgmaaGreat
abbrev Bytes := List UInt8
theorem le_total' (x y : Bytes) : x ≤ y ∨ y ≤ x := List.le_total x y
theorem le_trans' {x y z : Bytes} (h : x ≤ y) (k : y ≤ z) : x ≤ z := List.le_trans h k
theorem lt_of_le_ne {x y : Bytes} (h : x ≤ y) (k : x ≠ y) : x < y := by
 rcases List.le_iff_lt_or_eq.1 h with h | h
 · exact h
 · exact absurd h k
theorem lt_of_le_lt {x y z : Bytes} (h : x ≤ y) (k : y < z) : x < z := List.lt_of_le_of_lt h k
theorem sortL_sorted (L : List Bytes) : (sortL L).Pairwise (· ≤ ·) := by
 have := List.pairwise_mergeSort (le := fun x y : Bytes => decide (x ≤ y)) (fun a b c h k => by simp at *; exact le_trans' h k) (fun a b => by simpa using le_total' a b) L
 exact this.imp (by simp)
theorem mem_sortL (L : List Bytes) (x : Bytes) : x ∈ sortL L ↔ x ∈ L := List.mem_mergeSort
theorem compactUpTo_spec (zs : List Bytes) (hs : zs.Pairwise (· ≤ ·)) : ∀ m, m ≤ zs.length → (∀ x, x ∈ Lib.compactUpTo zs.toArray m ↔ x ∈ zs.take m) ∧ (Lib.compactUpTo zs.toArray m).Pairwise (· < ·) := by
 intro m
 induction m with
 | zero => intro _; simp [Lib.compactUpTo]
 | succ m ih =>
   intro hm
   obtain ⟨h1, h2⟩ := ih (by omega)
   have hget : zs.toArray[m]! = zs[m] := by simp [show m < zs.length by omega]
   rw [Lib.compactUpTo_succ]
   have htake : zs.take (m + 1) = zs.take m ++ [zs[m]] := by rw [List.take_succ_eq_append_getElem (by omega)]
   have hle : ∀ x, x ∈ zs.take m → x ≤ zs[m] := by
     intro x hx
     obtain ⟨i, hi, rfl⟩ := List.getElem_of_mem hx
     simp only [List.length_take] at hi
     rw [List.getElem_take]
     exact List.pairwise_iff_getElem.1 hs i m _ _ (by omega)
   by_cases hk : Lib.keeps zs.toArray m = true
   · rw [if_pos hk, hget]
     refine ⟨fun x => by rw [htake, List.mem_append, List.mem_append, h1], ?_⟩
     rw [List.pairwise_append]
     refine ⟨h2, by simp, fun a ha b hb => ?_⟩
     obtain rfl : b = zs[m] := by simpa using hb
     have ha' := (h1 a).1 ha
     rcases Nat.eq_zero_or_pos m with h0 | h0
     · subst h0; simp at ha'
     · have hprev : zs.toArray[m - 1]! = zs[m - 1]'(by omega) := by simp [show m - 1 < zs.length by omega]
       have hne : zs[m] ≠ zs[m - 1]'(by omega) := by
         intro e
         have := Lib.keeps_neg (d := zs.toArray) h0 (by rw [hget, hprev, e])
         rw [this] at hk; cases hk
       have hle2 : a ≤ zs[m - 1]'(by omega) := by
         obtain ⟨i, hi, rfl⟩ := List.getElem_of_mem ha'
         simp only [List.length_take] at hi
         rw [List.getElem_take]
         rcases Nat.lt_or_ge i (m - 1) with h | h
         · exact List.pairwise_iff_getElem.1 hs i (m - 1) _ _ h
         · obtain rfl : i = m - 1 := by omega
           exact List.le_refl _
       exact lt_of_le_lt hle2 (lt_of_le_ne (hle _ (by rw [List.mem_take_iff_getElem]; exact ⟨m - 1, by omega, rfl⟩)) (Ne.symm hne))
   · rw [if_neg hk, List.append_nil]
     refine ⟨fun x => ?_, h2⟩
     rw [htake, List.mem_append, h1]
     constructor
     · exact .inl
     · rintro (h | h)
       · exact h
       · obtain rfl : x = zs[m] := by simpa using h
         rcases Nat.eq_zero_or_pos m with h0 | h0
         · exact absurd (Lib.keeps_lt_one _ m (by omega)) hk
         · have hprev : zs.toArray[m - 1]! = zs[m - 1]'(by omega) := by simp [show m - 1 < zs.length by omega]
           have he : zs[m] = zs[m - 1]'(by omega) := by
             apply Classical.byContradiction
             intro hne
             exact hk (Lib.keeps_pos (by rw [hget, hprev]; exact hne))
           rw [he, List.mem_take_iff_getElem]
           exact ⟨m - 1, by omega, rfl⟩
def uniqL (L : List Bytes) : List Bytes := Lib.compact (sortL L)
theorem mem_uniqL (L : List Bytes) (x : Bytes) : x ∈ uniqL L ↔ x ∈ L := by
 have := (compactUpTo_spec (sortL L) (sortL_sorted L) (sortL L).length (Nat.le_refl _)).1 x
 rw [List.take_length, mem_sortL] at this
 exact this
theorem uniqL_rising (L : List Bytes) : (uniqL L).Pairwise (· < ·) := (compactUpTo_spec (sortL L) (sortL_sorted L) (sortL L).length (Nat.le_refl _)).2
theorem uniqL_length (L : List Bytes) : (uniqL L).length ≤ L.length := by
 have := Lib.compact_length_le (sortL L)
 rwa [sortL_length] at this
open Go.ChangeShapes Go.WideShapes Go.ChangeAt Go.RowKit
theorem ret_ibS {k : IntKind} {a b : Int} {x y : Bool} (h : a = b) (h' : x = y) : Ending.returned (.tuple #[.int k a, .bool x]) = .returned (.tuple #[.int k b, .bool y]) := by rw [h, h']
set_option maxHeartbeats 400000 in
theorem lessStr_any (x y : ByteArray) (w : World) :
   Calls Tryz.prog 86 #[.string x, .string y] w fun e w' => e = .returned (.bool (decide (bs x < bs y))) ∧ w = w' := by
 go_enter Tryz.func86, Tryz.ntmps86
 go_wp2
 all_goals go_ret
 all_goals refine ⟨ret_bool ?_, rfl⟩
 all_goals
   rw [bytesLess_eq, ByteArray.toList_eq, ByteArray.toList_eq]
set_option maxHeartbeats 400000 in
theorem isNaNStr_any (x : ByteArray) (w : World) : Calls Tryz.prog 87 #[.string x] w fun e w' => e = .returned (.bool false) ∧ w = w' := by
 go_enter Tryz.func87, Tryz.ntmps87
 go_wp2
 all_goals go_ret
 all_goals exact ⟨ret_bool (by simp), rfl⟩
def posL (L : List Bytes) (t : Bytes) : Nat := L.findIdx (fun x => !decide (x < t))
theorem strs_at {L : List Bytes} {A : Option Addr} {B : Nat} {w wr : World} (hl : RL StrR w B (L.map mkS) A) (hbw : Below w.heap.size w wr) (hB : B ≤ w.heap.size) (h0 : 0 < L.length) :
   ∃ b off, A = some ⟨b, off, none⟩ ∧ b < wr.heap.size ∧ ∀ m (hm : m < L.length), wr.cell? ⟨b, off + m, none⟩ = some (.string (mkS L[m])) := by
 obtain ⟨b, off, rfl, hb⟩ := hl.base hbw hB (by simpa using h0)
 refine ⟨b, off, rfl, hb, fun m hm => ?_⟩
 obtain ⟨x, vs, hx, hlen, hcell, hr⟩ := hl.at_ hbw hB (k := m) (by simpa using hm)
 obtain ⟨rfl, _⟩ := hr
 have := hcell 0 _ rfl
 have e : x = mkS L[m] := by simpa [hm, eq_comm] using hx
 rw [← e]
 simpa [StrR] using this
theorem posL_eq {L : List Bytes} {t : Bytes} {i : Nat} (h : i ≤ L.length) (h1 : ∀ k (hk : k < L.length), k < i → L[k] < t) (h2 : ∀ k (hk : k < L.length), i ≤ k → ¬ L[k] < t) : posL L t = i := by
 unfold posL
 rcases Nat.lt_or_ge i L.length with hlt | hge
 · refine (List.findIdx_eq hlt).2 ⟨by simpa using h2 i hlt (Nat.le_refl _), fun j hj => ?_⟩
   simpa using h1 j (by omega) hj
 · obtain rfl : i = L.length := by omega
   refine List.findIdx_eq_length.2 fun x hx => ?_
   obtain ⟨k, hk, rfl⟩ := List.getElem_of_mem hx
   simpa using h1 k hk hk
theorem mem_at {L : List Bytes} {t : Bytes} {i : Nat} (hi : i < L.length) (h1 : ∀ k (hk : k < L.length), k < i → L[k] < t) (hs : L.Pairwise (· < ·)) (h2 : ¬ L[i] < t) : t ∈ L ↔ L[i] = t := by
 constructor
 · intro h
   obtain ⟨k, hk, rfl⟩ := List.getElem_of_mem h
   rcases Nat.lt_trichotomy k i with h | h | h
   · exact absurd (h1 k hk h) (List.lt_irrefl _)
   · subst h; rfl
   · exact absurd (List.pairwise_iff_getElem.1 hs i k hi hk h) h2
 · intro h; rw [← h]; exact List.getElem_mem hi
set_option maxRecDepth 100000 in
set_option maxHeartbeats 1000000 in
theorem bsearch_any (L : List Bytes) (A : Option Addr) (c B : Nat) (t : ByteArray) (w : World) (hl : RL StrR w B (L.map mkS) A) (hB : B ≤ w.heap.size) (hn : L.length ≤ 1000000) (hs : L.Pairwise (· < ·)) :
   Calls Tryz.prog 51 #[.slice A L.length c, .string t] w fun e w' => e = .returned (.tuple #[.int .i64 (posL L (bs t)), .bool (decide (bs t ∈ L))]) ∧ w = w' := by
 go_enter Tryz.func51, Tryz.ntmps51
 go_wp2_with fail
 go_loop [7, 8] (fun u v => ∃ i j : Nat, i ≤ j ∧ j ≤ L.length ∧ u = .int .i64 i ∧ v = .int .i64 j ∧ (∀ k (hk : k < L.length), k < i → L[k] < bs t) ∧ (∀ k (hk : k < L.length), j ≤ k → ¬ L[k] < bs t)) (fun u v => (intOf v).toNat - (intOf u).toNat)
 case atStart => exact ⟨0, L.length, Nat.zero_le _, Nat.le_refl _, rfl, rfl, fun k hk h => absurd h (by omega), fun k hk h => absurd h (by omega)⟩
 case round =>
   obtain ⟨i, j, hij, hj, rfl, rfl, hlo, hhi⟩ := hrel
   have HLO := Lib.hid hlo
   have HHI := Lib.hid hhi
   have HL := Lib.hid hl
   have HS := Lib.hid hs
   clear hlo hhi hl hs
   by_cases hlt : i < j
   · obtain ⟨b, off, rfl, hb, hc⟩ := strs_at HL.out (Below.refl _ _) hB (by omega)
     have hcm := hc ((i + j) / 2) (by omega)
     have hm1 : ((i : Int) + j) / 2 < L.length := by omega
     have hm0 : 0 ≤ ((i : Int) + j) / 2 := by omega
     clear hc
     by_cases hless : L[(i + j) / 2]'(by omega) < bs t
     · have HLS := Lib.hid hless
       have hless' : decide (bs (mkS (L[(i + j) / 2]'(by omega))) < bs t) = true := by rw [bs_mkS]; simpa using hless
       clear hless
       go_wp2_with (go_at_call 86; refine (lessStr_any _ _ _).mono ?_; rintro e w' ⟨rfl, rfl⟩)
       go_round
       case rel => exact ⟨(i + j) / 2 + 1, j, by omega, hj, by go_num, rfl, fun k hk h => by
         rcases Nat.lt_or_ge k ((i + j) / 2) with h1 | h1
         · exact List.lt_trans (List.pairwise_iff_getElem.1 HS.out k _ hk (by omega) h1) HLS.out
         · obtain rfl : k = (i + j) / 2 := by omega
           exact HLS.out, HHI.out⟩
       case measure => simp [intOf]; omega
     · have HLS := Lib.hid hless
       have hless' : decide (bs (mkS (L[(i + j) / 2]'(by omega))) < bs t) = false := by rw [bs_mkS]; simpa using hless
       clear hless
       go_wp2_with (go_at_call 86; refine (lessStr_any _ _ _).mono ?_; rintro e w' ⟨rfl, rfl⟩)
       go_round
       case rel => exact ⟨i, (i + j) / 2, by omega, by omega, rfl, by go_num, HLO.out, fun k hk h h2 => by
         rcases Nat.lt_or_ge ((i + j) / 2) k with h1 | h1
         · exact HLS.out (List.lt_trans (List.pairwise_iff_getElem.1 HS.out _ k (by omega) hk h1) h2)
         · obtain rfl : k = (i + j) / 2 := by omega
           exact HLS.out h2⟩
       case measure => simp [intOf]; omega
   · obtain rfl : i = j := by omega
     have HP := Lib.hid (posL_eq hj HLO.out HHI.out)
     by_cases hin : i < L.length
     · obtain ⟨b, off, rfl, hb, hc⟩ := strs_at HL.out (Below.refl _ _) hB (by omega)
       have hcm := hc i hin
       have HM := Lib.hid (mem_at hin HLO.out HS.out (HHI.out i hin (Nat.le_refl _)))
       clear hc
       have hq : ((mkS L[i]).toList == t.toList) = decide (L[i] = bs t) := by rw [same_iff, bs_mkS]
       by_cases he : L[i] = bs t
       · have HE := Lib.hid he
         have hq' : ((mkS L[i]).toList == t.toList) = true := by rw [hq]; simpa using he
         clear hq he
         go_wp2_with fail
         go_ret2
         exact ⟨ret_ibS (by rw [HP.out]) (by simpa using (HM.out.2 HE.out)), rfl⟩
       · have HE := Lib.hid he
         have hq' : ((mkS L[i]).toList == t.toList) = false := by rw [hq]; simpa using he
         clear hq he
         go_wp2_with (go_at_call 87; refine (isNaNStr_any _ _).mono ?_; rintro e w' ⟨rfl, rfl⟩)
         go_ret2
         exact ⟨ret_ibS (by rw [HP.out]) (by simpa using (fun h => HE.out (HM.out.1 h))), rfl⟩
     · have hi2 : i = L.length := by omega
       subst hi2
       go_wp2_with fail
       go_ret2
       exact ⟨ret_ibS (by rw [HP.out]) (by
         have : bs t ∉ L := fun h => by
           obtain ⟨k, hk, e⟩ := List.getElem_of_mem h
           exact absurd (HLO.out k hk hk) (by rw [e]; exact List.lt_irrefl _)
         simpa using this), rfl⟩
end Go.Proofs.YtkdonhhbpacgmaaGreat
