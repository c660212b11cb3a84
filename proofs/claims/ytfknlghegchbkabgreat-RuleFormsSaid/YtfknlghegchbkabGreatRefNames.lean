/- viaticumref11.Names, all: as the program's. -/
import Derived.Test.YtfknlghegchbkabGreatRefWith
import Derived.Test.YtfknlghegchbkabGreatRule3
set_option linter.unusedVariables false
set_option linter.unusedSimpArgs false
namespace Go.Proofs.YtfknlghegchbkabGreat
open Go.ChangeShapes Go.WideShapes Go.ChangeAt Go.RowKit

theorem ReadsS.later {w w' : World} {L : List Bytes} {v : Value} (h : ReadsS w L v) (hb : Below w.heap.size w w') : ReadsS w' L v := by
  obtain ⟨A, c, e, h1, h2, h3⟩ := h
  exact ⟨A, c, e, h1, h2, (h3.keep hb (Nat.le_refl _)).wide hb.size⟩
theorem ReadsS.nil (w : World) : ReadsS w [] (.slice none 0 0) := ⟨none, 0, rfl, by simp, by omega, fun h => by simp at h⟩

theorem withV_any {L : List Bytes} {x : ByteArray} {v : Value} {w : World} (hl : ReadsS w L v) (hn : L.length ≤ 1000000) (hx : x.size ≤ 140737488351232) :
    Calls Tryz.prog 57 #[v, .string x] w fun e w' => (∃ v, e = .returned v ∧ ReadsS w' (withL L (bs x)) v) ∧ Below w.heap.size w w' := by
  obtain ⟨A, c, rfl, h1, h2, h3⟩ := hl
  exact with_any L x A c w.heap.size w h3 (Nat.le_refl _) hn h1 h2 hx

set_option maxRecDepth 100000 in
set_option maxHeartbeats 2000000 in
theorem refNames_any (d : Nat) (ps : List Pr) (A : Option Addr) (c B : Nat) (w : World) (hl : RL (PrR d) w B ps A) (hB : B ≤ w.heap.size) (hn : ps.length ≤ 140737488351232) (hcount : (varsAll ps).length ≤ 1000000) :
    Calls Tryz.prog 22 #[.slice A ps.length c] w fun e w' => (∃ v, e = .returned v ∧ ReadsS w' (uniqL (varsAll ps)) v) ∧ Below w.heap.size w w' := by
  have HL := Lib.hid hl
  go_enter Tryz.func22, Tryz.ntmps22
  go_wp2_with fail
  go_loopw [3, 10] (fun v i wr => ∃ k : Nat, k ≤ ps.length ∧ i = .int .i64 k ∧ ReadsS wr (uniqL (varsAll (ps.take k))) v ∧ Below w.heap.size w wr) (fun _ i _ => ps.length - (intOf i).toNat)
  case atStart => exact ⟨0, Nat.zero_le _, rfl, by rw [List.take_zero, show uniqL (varsAll []) = [] from List.eq_nil_of_length_eq_zero (Nat.le_zero.1 (uniqL_length []))]; exact ReadsS.nil w, Below.refl _ _⟩
  case round =>
    obtain ⟨k, hk, rfl, hown, hbw⟩ := hrel
    have HO := Lib.hid hown
    clear hown
    by_cases hlt : k < ps.length
    · obtain ⟨b, off, rfl, hb⟩ := HL.out.base hbw hB (by omega)
      obtain ⟨p, vs, hx, hlen, hcell, hr⟩ := HL.out.at_ hbw hB hlt
      obtain ⟨_, rfl, hs, A', c', rfl, hc1, hc2, hl'⟩ := hr
      have c0 : wr.cell? ⟨b, off + k * 2, none⟩ = some (.string p.name) := hcell 0 _ rfl
      have c1 : wr.cell? ⟨b, off + k * 2 + 1, none⟩ = some (.slice A' p.terms.length c') := hcell 1 _ rfl
      simp only [TmR] at hc2
      have HX := Lib.hid (varsAll_succ hx)
      have HT := Lib.hid (varsAll_take ps (k + 1))
      have HBw := Lib.hid hbw
      have HLT := Lib.hid hl'
      have hszr := hbw.size
      clear hcell hlen hx hbw hl'
      go_wp2_with fail
      generalize hW : World.alloc _ _ = W
      obtain ⟨hb1, hz1⟩ := al1 hW
      have HB1 := Lib.hid (bthen HBw.out hb1)
      have HO1 := Lib.hid (HO.out.later hb1)
      have HL1 := Lib.hid (HLT.out.keep hb1 (by omega))
      have hBW : B ≤ W.heap.size := by omega
      clear hW hb1 hz1 c0 c1
      go_loopw [3, 17] (fun v i wr2 => ∃ j : Nat, j ≤ p.terms.length ∧ i = .int .i64 j ∧ ReadsS wr2 (uniqL (varsAll (ps.take k) ++ varsOf (p.terms.take j))) v ∧ Below W.heap.size W wr2) (fun _ i _ => p.terms.length - (intOf i).toNat)
      case atStart => exact ⟨0, Nat.zero_le _, rfl, by rw [List.take_zero, show varsOf [] = [] from rfl, List.append_nil]; exact HO1.out, Below.refl _ _⟩
      case round =>
        obtain ⟨j, hj, rfl, hown3, hbw3⟩ := hrel
        have HO3 := Lib.hid hown3
        clear hown3
        by_cases hlt2 : j < p.terms.length
        · obtain ⟨b', off', rfl, hb'⟩ := HL1.out.base hbw3 hBW (by omega)
          obtain ⟨x, vs, hx, hlen, hcell, hr⟩ := HL1.out.at_ hbw3 hBW hlt2
          obtain ⟨Ax, cx, rfl, _, _, hsx, _⟩ := RTm.cells hr
          have c0 : wr.cell? ⟨b', off' + j * 4, none⟩ = some (.int .i64 x.kind) := hcell 0 _ rfl
          have c1 : wr.cell? ⟨b', off' + j * 4 + 1, none⟩ = some (.int .i64 x.n) := hcell 1 _ rfl
          have c2 : wr.cell? ⟨b', off' + j * 4 + 2, none⟩ = some (.string x.s) := hcell 2 _ rfl
          have c3 : wr.cell? ⟨b', off' + j * 4 + 3, none⟩ = some (.slice Ax x.l.length cx) := hcell 3 _ rfl
          have HX2 := Lib.hid (varsOf_succ hx)
          have HLN : Hid ((uniqL (varsAll (ps.take k) ++ varsOf (p.terms.take j))).length ≤ 1000000) := by
            have h1 := HT.out
            rw [HX.out, List.length_append] at h1
            have h2 := varsOf_take p.terms j
            have h3 := uniqL_length (varsAll (ps.take k) ++ varsOf (p.terms.take j))
            rw [List.length_append] at h3
            exact (by omega : (uniqL (varsAll (ps.take k) ++ varsOf (p.terms.take j))).length ≤ 1000000)
          have HB3 := Lib.hid hbw3
          clear hcell hlen hx hr hbw3
          by_cases hk1 : (x.kind == 1) = true
          · have HK := Lib.hid hk1
            go_wp2_with fail
            generalize hW2 : World.alloc _ _ = W2
            obtain ⟨hb2, hz2⟩ := al1 hW2
            refine (withV_any (HO3.out.later hb2) HLN.out hsx).mono ?_
            rintro e w4 ⟨⟨v4, rfl, h4⟩, hb4⟩
            have HN : Hid (ReadsS w4 (uniqL (varsAll (ps.take k) ++ varsOf (p.terms.take (j + 1)))) v4) := by
              have := HK.out
              rw [beq_iff_eq] at this
              rw [HX2.out, if_pos this, ← List.append_assoc, ← withL_uniq]
              exact h4
            have HB4 := Lib.hid (bthen HB3.out (bthen hb2 hb4))
            clear hW2 hb2 hz2 hb4 h4
            go_wp2_with fail
            go_roundw
            case rel => exact ⟨j + 1, by omega, by go_num, HN.out, HB4.out⟩
            case measure => simp [intOf]; omega
          · have hk1 : (x.kind == 1) = false := by simpa using hk1
            have HK := Lib.hid hk1
            have HN : Hid (uniqL (varsAll (ps.take k) ++ varsOf (p.terms.take (j + 1))) = uniqL (varsAll (ps.take k) ++ varsOf (p.terms.take j))) := by
              have := HK.out
              rw [beq_eq_false_iff_ne] at this
              rw [HX2.out, if_neg this, List.append_nil]
              exact rfl
            have HBel := Lib.hid (fun o : Obj => (Below.refl wr.heap.size wr).alloc (Nat.le_refl _) o)
            go_wp2_with fail
            go_roundw
            case rel => exact ⟨j + 1, by omega, by go_num, by rw [HN.out]; exact HO3.out.later (HBel.out _), bthen HB3.out (HBel.out _)⟩
            case measure => simp [intOf]; omega
        · have HE : Hid (uniqL (varsAll (ps.take k) ++ varsOf (p.terms.take j)) = uniqL (varsAll (ps.take (k + 1)))) := by
            rw [HX.out, List.take_of_length_le (l := p.terms) (by omega)]
            exact rfl
          have HB3 := Lib.hid (bthen HB1.out hbw3)
          clear hbw3
          go_wp2_with fail
          go_roundw
          case rel => exact ⟨k + 1, by omega, by go_num, by rw [← HE.out]; exact HO3.out, HB3.out⟩
          case measure => simp [intOf]; omega
    · have HE : Hid (ps.take k = ps) := List.take_of_length_le (by omega)
      go_wp2_with fail
      go_ret
      exact ⟨⟨_, rfl, by have := HO.out; rw [HE.out] at this; exact this⟩, hbw⟩

set_option maxRecDepth 100000 in
set_option maxHeartbeats 2000000 in
theorem refAll_any {L M : List Bytes} {v u : Value} {w : World} (hl : ReadsS w L v) (hm : ReadsS w M u) (hnl : L.length ≤ 1000000) (hnm : M.length ≤ 1000000) (hr : M.Pairwise (· < ·)) (hsm : ∀ l ∈ L, l.length ≤ 140737488351232) :
    Calls Tryz.prog 53 #[v, u] w fun e w' => e = .returned (.bool (L.all (fun x => decide (x ∈ M)))) ∧ Below w.heap.size w w' := by
  have HM := Lib.hid hm
  obtain ⟨A, c, rfl, h1, h2, h3⟩ := hl
  obtain ⟨A', c', rfl, h1', h2', h3'⟩ := hm
  have HL := Lib.hid h3
  have HR := Lib.hid hr
  have HS := Lib.hid hsm
  clear h3 h3' hr hsm
  go_enter Tryz.func53, Tryz.ntmps53
  go_wp2_with fail
  go_loopw [9] (fun i wr => ∃ k : Nat, k ≤ L.length ∧ i = .int .i64 k ∧ Below w.heap.size w wr ∧ (∀ j (h : j < k) (h' : j < L.length), L[j] ∈ M)) (fun i _ => L.length - (intOf i).toNat)
  case atStart => exact ⟨0, Nat.zero_le _, rfl, Below.refl _ _, fun j h => absurd h (by omega)⟩
  case round =>
    obtain ⟨k, hk, rfl, hbw, hall⟩ := hrel
    have HA := Lib.hid hall
    clear hall
    by_cases hlt : k < L.length
    · obtain ⟨b, off, rfl, hb, hcell⟩ := strs_at HL.out hbw (Nat.le_refl _) (by omega)
      have c0 := hcell k hlt
      have HBw := Lib.hid hbw
      have HX := Lib.hid (show L[k] ∈ L from List.getElem_mem hlt)
      have HSx : Hid ((mkS L[k]).size ≤ 140737488351232) := by
        have := HS.out _ HX.out
        have e := Lib.size_eq (mkS L[k])
        rw [show (mkS L[k]).data.toList = L[k] from bs_mkS _] at e
        exact (by omega : (mkS L[k]).size ≤ 140737488351232)
      have HEQ := Lib.hid (show bs (mkS L[k]) = L[k] from bs_mkS _)
      have HAK := Lib.hid (show (∀ j (h : j < k) (h' : j < L.length), L[j] ∈ M) → L[k] ∈ M → (∀ j (h : j < k + 1) (h' : j < L.length), L[j] ∈ M) from fun h0 h1 j h h' => by
        rcases Nat.lt_or_ge j k with h2 | h2
        · exact h0 j h2 h'
        · obtain rfl : j = k := by omega
          exact h1)
      clear hcell hbw
      generalize L[k] = y at *
      go_wp2_with fail
      refine (withV_any (x := mkS y) (HM.out.later HBw.out) hnm HSx.out).mono ?_
      rintro e w4 ⟨⟨v4, rfl, A4, c4, rfl, g1, g2, g3⟩, hb4⟩
      have HB4 := Lib.hid (bthen HBw.out hb4)
      have HSM := Lib.hid (withL_same (bs (mkS y)) HR.out)
      clear hb4 g1 g2 g3
      by_cases hmem : y ∈ M
      · have hlen : (((withL M (bs (mkS y))).length : Int) != (M.length : Int)) = false := by
          have := HSM.out
          rw [HEQ.out, decide_eq_true hmem, decide_eq_true_eq] at this
          rw [HEQ.out, bne_eq_false_iff_eq]
          omega
        have HMM := Lib.hid hmem
        clear hmem
        go_wp2_with fail
        go_roundw
        case rel => exact ⟨k + 1, by omega, by go_num, HB4.out, HAK.out HA.out HMM.out⟩
        case measure => simp [intOf]; omega
      · have hlen : (((withL M (bs (mkS y))).length : Int) != (M.length : Int)) = true := by
          have := HSM.out
          rw [HEQ.out, decide_eq_false hmem, decide_eq_false_iff_not] at this
          rw [HEQ.out]
          simp
          omega
        have HMM := Lib.hid hmem
        clear hmem
        go_wp2_with fail
        go_ret
        refine ⟨ret_bool ?_, HB4.out⟩
        rw [eq_comm, Bool.eq_false_iff]
        intro h
        rw [List.all_eq_true] at h
        have := h _ HX.out
        exact HMM.out (by simpa using this)
    · go_wp2_with fail
      go_ret
      refine ⟨ret_bool ?_, hbw⟩
      rw [eq_comm, List.all_eq_true]
      intro y hy
      obtain ⟨i, hi, rfl⟩ := List.getElem_of_mem hy
      exact decide_eq_true (HA.out i (by omega) hi)
end Go.Proofs.YtfknlghegchbkabGreat
