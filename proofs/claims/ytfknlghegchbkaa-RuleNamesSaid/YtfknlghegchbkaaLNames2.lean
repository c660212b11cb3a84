/- viaticumlaw14.RuleNames: of a rule that may be each name is one of the body's. The walk. -/
import Derived.Test.YtfknlghegchbkaaLNames
set_option linter.unusedVariables false
set_option linter.unusedSimpArgs false
namespace Go.Proofs.Ytfknlghegchbkaa
open Go.ChangeShapes Go.WideShapes Go.ChangeAt Go.RowKit

set_option maxRecDepth 100000 in
set_option maxHeartbeats 4000000 in
theorem ruleNames_any {d B : Nat} {r : Ru} {name : ByteArray} {vs : List Value} {w : World} (hr : (RuR d).rd w B r vs) (hnm : name.size ≤ 140737488351232) (hd : 1 ≤ d) (hB : B ≤ w.heap.size) :
    Calls Try.prog 5 #[.agg vs.toArray, .string name] w fun x w' => x = .returned (.bool true) ∧ Below w.heap.size w w' := by
  have HR := Lib.hid hr
  obtain ⟨_, _, _, _, rfl, hs, ⟨A0, c0, rfl, h01, h02, hl0⟩, ⟨A1, c1, rfl, h11, h12, hl1⟩, ⟨A2, c2, rfl, h21, h22, hl2⟩, ⟨A3, c3, rfl, h31, h32, hl3⟩⟩ := hr
  simp only [PrR, ExR, ScR, TmR] at h02 h12 h22 h32
  have HB := Lib.hid (fun o : Obj => (Below.refl w.heap.size w).alloc (Nat.le_refl _) o)
  have HRl := Lib.hid (show RSl (TmR d) w B r.head.terms (.slice A0 r.head.terms.length c0) ∧ RSl (PrR d) w B r.body (.slice A1 r.body.length c1) ∧ RSl (ExR d) w B r.exprs (.slice A2 r.exprs.length c2) ∧ RSl ScR w B r.scopes (.slice A3 r.scopes.length c3) from ⟨⟨A0, c0, rfl, h01, by simp only [TmR]; omega, hl0⟩, ⟨A1, c1, rfl, h11, by simp only [PrR]; omega, hl1⟩, ⟨A2, c2, rfl, h21, by simp only [ExR]; omega, hl2⟩, ⟨A3, c3, rfl, h31, by simp only [ScR]; omega, hl3⟩⟩)
  have HL1 := Lib.hid hl1
  have HSM := Lib.hid (namesP_small (RL.smallP hl1))
  have HP := Lib.hid (show (PrR d).rd w B r.head [.string r.head.name, .slice A0 r.head.terms.length c0] from ⟨_, rfl, hs, HRl.out.1⟩)
  clear hl0 hl1 hl2 hl3
  go_enter Try.func5, Try.ntmps5
  go_wp2_with fail
  have HW := Lib.hid (HB.out (.cells #[.string r.head.name, .slice A0 r.head.terms.length c0, .slice A1 r.body.length c1, .slice A2 r.exprs.length c2, .slice A3 r.scopes.length c3] 30))
  have x0 : (w.alloc (.cells #[.string r.head.name, .slice A0 r.head.terms.length c0, .slice A1 r.body.length c1, .slice A2 r.exprs.length c2, .slice A3 r.scopes.length c3] 30)).cell? ⟨w.heap.size, 0, none⟩ = some (.string r.head.name) := by go_simp
  have x1 : (w.alloc (.cells #[.string r.head.name, .slice A0 r.head.terms.length c0, .slice A1 r.body.length c1, .slice A2 r.exprs.length c2, .slice A3 r.scopes.length c3] 30)).cell? ⟨w.heap.size, 1, none⟩ = some (.slice A0 r.head.terms.length c0) := by go_simp
  have x2 : (w.alloc (.cells #[.string r.head.name, .slice A0 r.head.terms.length c0, .slice A1 r.body.length c1, .slice A2 r.exprs.length c2, .slice A3 r.scopes.length c3] 30)).cell? ⟨w.heap.size, 2, none⟩ = some (.slice A1 r.body.length c1) := by go_simp
  have x3 : (w.alloc (.cells #[.string r.head.name, .slice A0 r.head.terms.length c0, .slice A1 r.body.length c1, .slice A2 r.exprs.length c2, .slice A3 r.scopes.length c3] 30)).cell? ⟨w.heap.size, 3, none⟩ = some (.slice A2 r.exprs.length c2) := by go_simp
  have x4 : (w.alloc (.cells #[.string r.head.name, .slice A0 r.head.terms.length c0, .slice A1 r.body.length c1, .slice A2 r.exprs.length c2, .slice A3 r.scopes.length c3] 30)).cell? ⟨w.heap.size, 4, none⟩ = some (.slice A3 r.scopes.length c3) := by go_simp
  have xsz : w.heap.size < (w.alloc (.cells #[.string r.head.name, .slice A0 r.head.terms.length c0, .slice A1 r.body.length c1, .slice A2 r.exprs.length c2, .slice A3 r.scopes.length c3] 30)).heap.size := by go_simp
  generalize (w.alloc (.cells #[.string r.head.name, .slice A0 r.head.terms.length c0, .slice A1 r.body.length c1, .slice A2 r.exprs.length c2, .slice A3 r.scopes.length c3] 30)) = W at *
  refine (weight_any (d := d) (B := B) (vs := [_, _, _, _, _]) ((RuR d).keep HW.out hB HR.out) (Nat.le_trans hB HW.out.size)).mono ?_
  rintro x w1 ⟨⟨m, rfl⟩, hb1⟩
  have hsz1 := hb1.size
  have y0 : w1.cell? ⟨w.heap.size, 0, none⟩ = some (.string r.head.name) := (bcell hb1 _ _ (xsz)).trans x0
  have y1 : w1.cell? ⟨w.heap.size, 1, none⟩ = some (.slice A0 r.head.terms.length c0) := (bcell hb1 _ _ (xsz)).trans x1
  have y2 : w1.cell? ⟨w.heap.size, 2, none⟩ = some (.slice A1 r.body.length c1) := (bcell hb1 _ _ (xsz)).trans x2
  have y3 : w1.cell? ⟨w.heap.size, 3, none⟩ = some (.slice A2 r.exprs.length c2) := (bcell hb1 _ _ (xsz)).trans x3
  have y4 : w1.cell? ⟨w.heap.size, 4, none⟩ = some (.slice A3 r.scopes.length c3) := (bcell hb1 _ _ (xsz)).trans x4
  have HB1 := Lib.hid (HW.out.trans (hb1.mono HW.out.size))
  clear x0 x1 x2 x3 x4 hb1
  by_cases t1 : m ≥ 400
  · go_wp2_with fail
    refine (awake_any _).mono ?_
    rintro x w2 ⟨rfl, hb2⟩
    have HB2 := Lib.hid (HB1.out.trans (hb2.mono HB1.out.size))
    clear hb2
    go_wp2_with fail
    go_ret
    exact ⟨rfl, HB2.out⟩
  go_wp2_with fail
  refine (mayRule_any (d := d) (B := B) (r := r) (vs := [_, _, _, _, _]) ((RuR d).keep HB1.out hB HR.out) (Nat.le_trans hB HB1.out.size)).mono ?_
  rintro x w2 ⟨rfl, hb2⟩
  have hsz2 := hb2.size
  have z0 : w2.cell? ⟨w.heap.size, 0, none⟩ = some (.string r.head.name) := (bcell hb2 _ _ (Nat.lt_of_lt_of_le xsz hsz1)).trans y0
  have z1 : w2.cell? ⟨w.heap.size, 1, none⟩ = some (.slice A0 r.head.terms.length c0) := (bcell hb2 _ _ (Nat.lt_of_lt_of_le xsz hsz1)).trans y1
  have z2 : w2.cell? ⟨w.heap.size, 2, none⟩ = some (.slice A1 r.body.length c1) := (bcell hb2 _ _ (Nat.lt_of_lt_of_le xsz hsz1)).trans y2
  have z3 : w2.cell? ⟨w.heap.size, 3, none⟩ = some (.slice A2 r.exprs.length c2) := (bcell hb2 _ _ (Nat.lt_of_lt_of_le xsz hsz1)).trans y3
  have z4 : w2.cell? ⟨w.heap.size, 4, none⟩ = some (.slice A3 r.scopes.length c3) := (bcell hb2 _ _ (Nat.lt_of_lt_of_le xsz hsz1)).trans y4
  have HB2 := Lib.hid (HB1.out.trans (hb2.mono HB1.out.size))
  clear y0 y1 y2 y3 y4 hb2
  by_cases t3 : mayRuleB r = true
  rotate_left
  · simp only [Bool.not_eq_true] at t3
    rw [t3]
    go_wp2_with fail
    refine (awake_any _).mono ?_
    rintro x w3 ⟨rfl, hb3⟩
    have HB3 := Lib.hid (HB2.out.trans (hb3.mono HB2.out.size))
    clear hb3
    go_wp2_with fail
    go_ret
    exact ⟨rfl, HB3.out⟩
  have T3 := Lib.hid t3
  rw [t3]
  have hbody : bodyB r = true := by
    unfold mayRuleB at t3
    simp only [Bool.and_eq_true] at t3
    exact t3.1.2
  have hpred : mayPredB r.head = true := by
    unfold mayRuleB at t3
    simp only [Bool.and_eq_true] at t3
    exact t3.1.1.1
  have hcount := bodyB_count hbody
  have hcount1 : (varsAll [r.head]).length ≤ 8 := by
    have := varsAll_len [r.head] (fun p hp => by simp at hp; rw [hp]; exact mayPredB_len hpred)
    simpa using this
  have hlen : (uniqL (varsAll r.body)).length ≤ 32 := Nat.le_trans (uniqL_length _) hcount
  have hlen1 : (uniqL (varsAll [r.head])).length ≤ 8 := Nat.le_trans (uniqL_length _) hcount1
  have HK := Lib.hid (show ∀ l ∈ uniqL (varsAll [r.head]), l ∈ uniqL (varsAll r.body) by
    unfold mayRuleB knownB at t3
    simp only [Bool.and_eq_true, List.all_eq_true, decide_eq_true_eq] at t3
    exact t3.2)
  have HHAS := Lib.hid (show ∀ L : List Bytes, (∀ x : Bytes, x ∈ L ↔ x ∈ varsAll r.body) → hasIn name L = mayRuleB (withHead r ⟨r.head.name, [varT name]⟩) from fun L h => by
    rw [hasIn_iff, namesS t3, decide_eq_decide]; exact h _)
  have HU := Lib.hid (fun x => mem_uniqL (varsAll r.body) x)
  have HS := Lib.hid (uniqL_rising (varsAll r.body))
  clear hbody hpred t3
  go_wp2_with fail
  refine (names_any d r.body A1 c1 B _ (HL1.out.keep HB2.out hB) (Nat.le_trans hB HB2.out.size) (by omega) (by omega)).mono ?_
  rintro x w3 ⟨v3, rfl, hown, hb3⟩
  obtain ⟨A4, c4, rfl, hc4, hrl⟩ := hown.reads HSM.out (by exact Nat.le_trans hlen (by omega))
  have hsz3 := hb3.size
  have p0 : w3.cell? ⟨w.heap.size, 0, none⟩ = some (.string r.head.name) := (bcell hb3 _ _ (Nat.lt_of_lt_of_le (Nat.lt_of_lt_of_le xsz hsz1) hsz2)).trans z0
  have p1 : w3.cell? ⟨w.heap.size, 1, none⟩ = some (.slice A0 r.head.terms.length c0) := (bcell hb3 _ _ (Nat.lt_of_lt_of_le (Nat.lt_of_lt_of_le xsz hsz1) hsz2)).trans z1
  have p2 : w3.cell? ⟨w.heap.size, 2, none⟩ = some (.slice A1 r.body.length c1) := (bcell hb3 _ _ (Nat.lt_of_lt_of_le (Nat.lt_of_lt_of_le xsz hsz1) hsz2)).trans z2
  have p3 : w3.cell? ⟨w.heap.size, 3, none⟩ = some (.slice A2 r.exprs.length c2) := (bcell hb3 _ _ (Nat.lt_of_lt_of_le (Nat.lt_of_lt_of_le xsz hsz1) hsz2)).trans z3
  have p4 : w3.cell? ⟨w.heap.size, 4, none⟩ = some (.slice A3 r.scopes.length c3) := (bcell hb3 _ _ (Nat.lt_of_lt_of_le (Nat.lt_of_lt_of_le xsz hsz1) hsz2)).trans z4
  have HB3 := Lib.hid (HB2.out.trans (hb3.mono HB2.out.size))
  have HRL := Lib.hid hrl
  clear z0 z1 z2 z3 z4 hown hb3 hrl
  generalize hL : uniqL (varsAll r.body) = L at *
  go_wp2_with fail
  go_loopw [6, 30] (fun v i wr => ∃ k : Nat, k ≤ L.length ∧ i = .int .i64 k ∧ v = .bool (hasIn name (L.take k)) ∧ Below w3.heap.size w3 wr) (fun _ i _ => L.length - (intOf i).toNat)
  case atStart => exact ⟨0, Nat.zero_le _, rfl, rfl, Below.refl _ _⟩
  case round =>
    obtain ⟨k, hk, rfl, rfl, hbw⟩ := hrel
    have hszr := hbw.size
    by_cases hlt : k < L.length
    · obtain ⟨b, off, rfl, hb, hcell⟩ := strs_at HRL.out hbw (Nat.le_refl _) (by omega)
      have c0 := hcell k hlt
      have HXX := Lib.hid (hasIn_succ name hlt)
      have HBW := Lib.hid hbw
      rcases k with _ | k
      · clear hcell
        rw [Nat.add_zero] at c0
        have q : hasIn name (L.take 0) = false := rfl
        go_wp2_with fail
        go_roundw
        case rel => exact ⟨1, by omega, by go_num, by rw [HXX.out, q, Bool.false_or], HBW.out⟩
        case measure => simp [intOf]; omega
      · have c1 := hcell k (by omega)
        have hord : Op.bytesLess (mkS L[k]).toList (mkS L[k + 1]).toList = true := by
          rw [less_iff, bs_mkS, bs_mkS]
          exact List.pairwise_iff_getElem.1 HS.out k (k + 1) (by omega) hlt (by omega)
        clear hcell
        by_cases q : hasIn name (L.take (k + 1)) = true
        · go_wp2_with fail
          go_roundw
          case rel => exact ⟨k + 1 + 1, by omega, by go_num, by rw [HXX.out, q, Bool.true_or], HBW.out⟩
          case measure => simp [intOf]; omega
        · simp only [Bool.not_eq_true] at q
          go_wp2_with fail
          go_roundw
          case rel => exact ⟨k + 1 + 1, by omega, by go_num, by rw [HXX.out, q, Bool.false_or], HBW.out⟩
          case measure => simp [intOf]; omega
    · have hh : hasIn name (L.take k) = mayRuleB (withHead r ⟨r.head.name, [varT name]⟩) := by
        rw [List.take_of_length_le (by omega)]
        exact HHAS.out L HU.out
      rw [hh]
      obtain ⟨bb, hbb⟩ : ∃ bb, bb = mayRuleB (withHead r ⟨r.head.name, [varT name]⟩) := ⟨_, rfl⟩
      rw [← hbb]
      have HBB := Lib.hid hbb
      clear hbb
      have f0 : wr.cell? ⟨w.heap.size, 0, none⟩ = some (.string r.head.name) := (bcell hbw _ _ (by omega)).trans p0
      have f1 : wr.cell? ⟨w.heap.size, 1, none⟩ = some (.slice A0 r.head.terms.length c0) := (bcell hbw _ _ (by omega)).trans p1
      have f2 : wr.cell? ⟨w.heap.size, 2, none⟩ = some (.slice A1 r.body.length c1) := (bcell hbw _ _ (by omega)).trans p2
      have f3 : wr.cell? ⟨w.heap.size, 3, none⟩ = some (.slice A2 r.exprs.length c2) := (bcell hbw _ _ (by omega)).trans p3
      have f4 : wr.cell? ⟨w.heap.size, 4, none⟩ = some (.slice A3 r.scopes.length c3) := (bcell hbw _ _ (by omega)).trans p4
      have HBW := Lib.hid (HB3.out.trans (hbw.mono HB3.out.size))
      have HRW := Lib.hid ((HRL.out.keep hbw (Nat.le_refl _)).wide hszr)
      clear hh hbw p0 p1 p2 p3 p4
      go_wp2_with fail
      have hg4 : Below wr.heap.size wr (wr.alloc (.cells #[.string r.head.name, .slice A0 r.head.terms.length c0] 24)) := (Below.refl _ wr).alloc (Nat.le_refl _) _
      have hsw : w.heap.size < wr.heap.size := by omega
      have g0 : (wr.alloc (.cells #[.string r.head.name, .slice A0 r.head.terms.length c0] 24)).cell? ⟨w.heap.size, 0, none⟩ = some (.string r.head.name) := (bcell hg4 _ _ (hsw)).trans f0
      have g1 : (wr.alloc (.cells #[.string r.head.name, .slice A0 r.head.terms.length c0] 24)).cell? ⟨w.heap.size, 1, none⟩ = some (.slice A0 r.head.terms.length c0) := (bcell hg4 _ _ (hsw)).trans f1
      have g2 : (wr.alloc (.cells #[.string r.head.name, .slice A0 r.head.terms.length c0] 24)).cell? ⟨w.heap.size, 2, none⟩ = some (.slice A1 r.body.length c1) := (bcell hg4 _ _ (hsw)).trans f2
      have g3 : (wr.alloc (.cells #[.string r.head.name, .slice A0 r.head.terms.length c0] 24)).cell? ⟨w.heap.size, 3, none⟩ = some (.slice A2 r.exprs.length c2) := (bcell hg4 _ _ (hsw)).trans f3
      have g4 : (wr.alloc (.cells #[.string r.head.name, .slice A0 r.head.terms.length c0] 24)).cell? ⟨w.heap.size, 4, none⟩ = some (.slice A3 r.scopes.length c3) := (bcell hg4 _ _ (hsw)).trans f4
      have y0 : (wr.alloc (.cells #[.string r.head.name, .slice A0 r.head.terms.length c0] 24)).cell? ⟨wr.heap.size, 0, none⟩ = some (.string r.head.name) := by go_simp
      have y1 : (wr.alloc (.cells #[.string r.head.name, .slice A0 r.head.terms.length c0] 24)).cell? ⟨wr.heap.size, 1, none⟩ = some (.slice A0 r.head.terms.length c0) := by go_simp
      have ysz : wr.heap.size < (wr.alloc (.cells #[.string r.head.name, .slice A0 r.head.terms.length c0] 24)).heap.size := by go_simp
      generalize (wr.alloc (.cells #[.string r.head.name, .slice A0 r.head.terms.length c0] 24)) = w4 at *
      have HB4 := Lib.hid (HBW.out.trans (hg4.mono HBW.out.size))
      have HO := Lib.hid (RL.one (x := r.head) (b := wr.heap.size) ysz ((PrR d).wide (Nat.le_trans hB HB4.out.size) ((PrR d).keep HB4.out hB HP.out)) (cells2 y0 y1))
      have HSM1 := Lib.hid (namesP_small (RL.smallP HO.out))
      have HRW4 := Lib.hid ((HRW.out.keep hg4 (Nat.le_refl _)).wide hg4.size)
      clear y0 y1 f0 f1 f2 f3 f4 hg4
      refine (names_any d [r.head] (some ⟨wr.heap.size, 0, none⟩) 1 _ _ HO.out (Nat.le_refl _) (by simp) (by omega)).mono ?_
      rintro x w5 ⟨v5, rfl, hown, hb5⟩
      obtain ⟨A5, c5, rfl, hc5, hrl5⟩ := hown.reads HSM1.out (by omega)
      have hsz5 := hb5.size
      have f0 : w5.cell? ⟨w.heap.size, 0, none⟩ = some (.string r.head.name) := (bcell hb5 _ _ (by omega)).trans g0
      have f1 : w5.cell? ⟨w.heap.size, 1, none⟩ = some (.slice A0 r.head.terms.length c0) := (bcell hb5 _ _ (by omega)).trans g1
      have f2 : w5.cell? ⟨w.heap.size, 2, none⟩ = some (.slice A1 r.body.length c1) := (bcell hb5 _ _ (by omega)).trans g2
      have f3 : w5.cell? ⟨w.heap.size, 3, none⟩ = some (.slice A2 r.exprs.length c2) := (bcell hb5 _ _ (by omega)).trans g3
      have f4 : w5.cell? ⟨w.heap.size, 4, none⟩ = some (.slice A3 r.scopes.length c3) := (bcell hb5 _ _ (by omega)).trans g4
      have HB5 := Lib.hid (HB4.out.trans (hb5.mono HB4.out.size))
      have HRW5 := Lib.hid ((HRW4.out.keep hb5 (Nat.le_refl _)).wide hsz5)
      have HR5 := Lib.hid hrl5
      clear g0 g1 g2 g3 g4 hown hb5 hrl5
      obtain ⟨M, hM⟩ : ∃ M, M = uniqL (varsAll [r.head]) := ⟨_, rfl⟩
      rw [← hM] at HK HR5 hc5 hlen1 ⊢
      clear hM
      go_wp2_with fail
      go_loopw [58] (fun i wr => ∃ k : Nat, k ≤ M.length ∧ i = .int .i64 k ∧ Below w5.heap.size w5 wr) (fun i _ => M.length - (intOf i).toNat)
      case atStart => exact ⟨0, Nat.zero_le _, rfl, Below.refl _ _⟩
      case round =>
        obtain ⟨k, hk, rfl, hbw⟩ := hrel
        have hszr := hbw.size
        by_cases hlt : k < M.length
        · obtain ⟨b, off, rfl, hb, hcell⟩ := strs_at HR5.out hbw (Nat.le_refl _) (by omega)
          have c0 := hcell k hlt
          have HIN := Lib.hid (show hasIn (mkS M[k]) L = true by rw [hasIn_iff, bs_mkS]; exact decide_eq_true (HK.out _ (List.getElem_mem hlt)))
          clear hcell f0 f1 f2 f3 f4
          generalize M[k] = nn at *
          go_wp2_with fail
          go_loopw [11, 64] (fun v i wr2 => ∃ j : Nat, j ≤ L.length ∧ i = .int .i64 j ∧ v = .bool (hasIn (mkS nn) (L.take j)) ∧ Below w5.heap.size w5 wr2) (fun _ i _ => L.length - (intOf i).toNat)
          case atStart => exact ⟨0, Nat.zero_le _, rfl, rfl, hbw⟩
          case round =>
            clear c0 hbw hszr hb
            obtain ⟨j, hj, rfl, rfl, hbw⟩ := hrel
            by_cases hlt2 : j < L.length
            · obtain ⟨b', off', rfl, hb', hcell⟩ := strs_at HRW5.out hbw (Nat.le_refl _) (by omega)
              have c0 := hcell j hlt2
              have HXX := Lib.hid (hasIn_succ (mkS nn) hlt2)
              have HBW := Lib.hid hbw
              clear hcell
              by_cases q : hasIn (mkS nn) (L.take j) = true
              · go_wp2_with fail
                go_roundw
                case rel => exact ⟨j + 1, by omega, by go_num, by rw [HXX.out, q, Bool.true_or], HBW.out⟩
                case measure => simp [intOf]; omega
              · simp only [Bool.not_eq_true] at q
                go_wp2_with fail
                go_roundw
                case rel => exact ⟨j + 1, by omega, by go_num, by rw [HXX.out, q, Bool.false_or], HBW.out⟩
                case measure => simp [intOf]; omega
            · have hin : hasIn (mkS nn) (L.take j) = true := by rw [List.take_of_length_le (by omega)]; exact HIN.out
              go_wp2_with fail
              go_roundw
              case rel => exact ⟨k + 1, by omega, by go_num, hbw⟩
              case measure => simp [intOf]; omega
        · have hsw5 : w.heap.size < w5.heap.size := by omega
          have g0 : wr.cell? ⟨w.heap.size, 0, none⟩ = some (.string r.head.name) := (bcell hbw _ _ (hsw5)).trans f0
          have g1 : wr.cell? ⟨w.heap.size, 1, none⟩ = some (.slice A0 r.head.terms.length c0) := (bcell hbw _ _ (hsw5)).trans f1
          have g2 : wr.cell? ⟨w.heap.size, 2, none⟩ = some (.slice A1 r.body.length c1) := (bcell hbw _ _ (hsw5)).trans f2
          have g3 : wr.cell? ⟨w.heap.size, 3, none⟩ = some (.slice A2 r.exprs.length c2) := (bcell hbw _ _ (hsw5)).trans f3
          have g4 : wr.cell? ⟨w.heap.size, 4, none⟩ = some (.slice A3 r.scopes.length c3) := (bcell hbw _ _ (hsw5)).trans f4
          have HB6 := Lib.hid (HB5.out.trans (hbw.mono HB5.out.size))
          have hlt6 : w.heap.size < wr.heap.size := by omega
          have hne6 : w.heap.size ≠ wr.heap.size := by omega
          clear f0 f1 f2 f3 f4 hbw
          go_wp2_with fail
          have hg7 : Below wr.heap.size wr (((wr.alloc (.cells #[.string r.head.name, .slice (some ⟨wr.heap.size + 1, 0, none⟩) 1 1, .slice A1 r.body.length c1, .slice A2 r.exprs.length c2, .slice A3 r.scopes.length c3] 30)).alloc (.cells #[.int .i64 1, .int .i64 0, .string name, .slice none 0 0] 34)).alloc (.cells #[.string ⟨#[]⟩, .slice none 0 0, .slice A1 r.body.length c1, .slice A2 r.exprs.length c2, .slice A3 r.scopes.length c3] 30)) := (((Below.refl _ wr).alloc (Nat.le_refl _) _).alloc (by simp) _).alloc (by simp; omega) _
          have h0 : (((wr.alloc (.cells #[.string r.head.name, .slice (some ⟨wr.heap.size + 1, 0, none⟩) 1 1, .slice A1 r.body.length c1, .slice A2 r.exprs.length c2, .slice A3 r.scopes.length c3] 30)).alloc (.cells #[.int .i64 1, .int .i64 0, .string name, .slice none 0 0] 34)).alloc (.cells #[.string ⟨#[]⟩, .slice none 0 0, .slice A1 r.body.length c1, .slice A2 r.exprs.length c2, .slice A3 r.scopes.length c3] 30)).cell? ⟨w.heap.size, 0, none⟩ = some (.string r.head.name) := (bcell hg7 _ _ hlt6).trans g0
          have h1 : (((wr.alloc (.cells #[.string r.head.name, .slice (some ⟨wr.heap.size + 1, 0, none⟩) 1 1, .slice A1 r.body.length c1, .slice A2 r.exprs.length c2, .slice A3 r.scopes.length c3] 30)).alloc (.cells #[.int .i64 1, .int .i64 0, .string name, .slice none 0 0] 34)).alloc (.cells #[.string ⟨#[]⟩, .slice none 0 0, .slice A1 r.body.length c1, .slice A2 r.exprs.length c2, .slice A3 r.scopes.length c3] 30)).cell? ⟨w.heap.size, 1, none⟩ = some (.slice A0 r.head.terms.length c0) := (bcell hg7 _ _ hlt6).trans g1
          have h2 : (((wr.alloc (.cells #[.string r.head.name, .slice (some ⟨wr.heap.size + 1, 0, none⟩) 1 1, .slice A1 r.body.length c1, .slice A2 r.exprs.length c2, .slice A3 r.scopes.length c3] 30)).alloc (.cells #[.int .i64 1, .int .i64 0, .string name, .slice none 0 0] 34)).alloc (.cells #[.string ⟨#[]⟩, .slice none 0 0, .slice A1 r.body.length c1, .slice A2 r.exprs.length c2, .slice A3 r.scopes.length c3] 30)).cell? ⟨w.heap.size, 2, none⟩ = some (.slice A1 r.body.length c1) := (bcell hg7 _ _ hlt6).trans g2
          have h3 : (((wr.alloc (.cells #[.string r.head.name, .slice (some ⟨wr.heap.size + 1, 0, none⟩) 1 1, .slice A1 r.body.length c1, .slice A2 r.exprs.length c2, .slice A3 r.scopes.length c3] 30)).alloc (.cells #[.int .i64 1, .int .i64 0, .string name, .slice none 0 0] 34)).alloc (.cells #[.string ⟨#[]⟩, .slice none 0 0, .slice A1 r.body.length c1, .slice A2 r.exprs.length c2, .slice A3 r.scopes.length c3] 30)).cell? ⟨w.heap.size, 3, none⟩ = some (.slice A2 r.exprs.length c2) := (bcell hg7 _ _ hlt6).trans g3
          have h4 : (((wr.alloc (.cells #[.string r.head.name, .slice (some ⟨wr.heap.size + 1, 0, none⟩) 1 1, .slice A1 r.body.length c1, .slice A2 r.exprs.length c2, .slice A3 r.scopes.length c3] 30)).alloc (.cells #[.int .i64 1, .int .i64 0, .string name, .slice none 0 0] 34)).alloc (.cells #[.string ⟨#[]⟩, .slice none 0 0, .slice A1 r.body.length c1, .slice A2 r.exprs.length c2, .slice A3 r.scopes.length c3] 30)).cell? ⟨w.heap.size, 4, none⟩ = some (.slice A3 r.scopes.length c3) := (bcell hg7 _ _ hlt6).trans g4
          have n0 : (((wr.alloc (.cells #[.string r.head.name, .slice (some ⟨wr.heap.size + 1, 0, none⟩) 1 1, .slice A1 r.body.length c1, .slice A2 r.exprs.length c2, .slice A3 r.scopes.length c3] 30)).alloc (.cells #[.int .i64 1, .int .i64 0, .string name, .slice none 0 0] 34)).alloc (.cells #[.string ⟨#[]⟩, .slice none 0 0, .slice A1 r.body.length c1, .slice A2 r.exprs.length c2, .slice A3 r.scopes.length c3] 30)).cell? ⟨wr.heap.size + 1, 0, none⟩ = some (.int .i64 1) := by go_simp
          have n1 : (((wr.alloc (.cells #[.string r.head.name, .slice (some ⟨wr.heap.size + 1, 0, none⟩) 1 1, .slice A1 r.body.length c1, .slice A2 r.exprs.length c2, .slice A3 r.scopes.length c3] 30)).alloc (.cells #[.int .i64 1, .int .i64 0, .string name, .slice none 0 0] 34)).alloc (.cells #[.string ⟨#[]⟩, .slice none 0 0, .slice A1 r.body.length c1, .slice A2 r.exprs.length c2, .slice A3 r.scopes.length c3] 30)).cell? ⟨wr.heap.size + 1, 1, none⟩ = some (.int .i64 0) := by go_simp
          have n2 : (((wr.alloc (.cells #[.string r.head.name, .slice (some ⟨wr.heap.size + 1, 0, none⟩) 1 1, .slice A1 r.body.length c1, .slice A2 r.exprs.length c2, .slice A3 r.scopes.length c3] 30)).alloc (.cells #[.int .i64 1, .int .i64 0, .string name, .slice none 0 0] 34)).alloc (.cells #[.string ⟨#[]⟩, .slice none 0 0, .slice A1 r.body.length c1, .slice A2 r.exprs.length c2, .slice A3 r.scopes.length c3] 30)).cell? ⟨wr.heap.size + 1, 2, none⟩ = some (.string name) := by go_simp
          have n3 : (((wr.alloc (.cells #[.string r.head.name, .slice (some ⟨wr.heap.size + 1, 0, none⟩) 1 1, .slice A1 r.body.length c1, .slice A2 r.exprs.length c2, .slice A3 r.scopes.length c3] 30)).alloc (.cells #[.int .i64 1, .int .i64 0, .string name, .slice none 0 0] 34)).alloc (.cells #[.string ⟨#[]⟩, .slice none 0 0, .slice A1 r.body.length c1, .slice A2 r.exprs.length c2, .slice A3 r.scopes.length c3] 30)).cell? ⟨wr.heap.size + 1, 3, none⟩ = some (.slice none 0 0) := by go_simp
          have q0 : (((wr.alloc (.cells #[.string r.head.name, .slice (some ⟨wr.heap.size + 1, 0, none⟩) 1 1, .slice A1 r.body.length c1, .slice A2 r.exprs.length c2, .slice A3 r.scopes.length c3] 30)).alloc (.cells #[.int .i64 1, .int .i64 0, .string name, .slice none 0 0] 34)).alloc (.cells #[.string ⟨#[]⟩, .slice none 0 0, .slice A1 r.body.length c1, .slice A2 r.exprs.length c2, .slice A3 r.scopes.length c3] 30)).cell? ⟨wr.heap.size + 1 + 1, 0, none⟩ = some (.string ⟨#[]⟩) := by go_simp
          have q1 : (((wr.alloc (.cells #[.string r.head.name, .slice (some ⟨wr.heap.size + 1, 0, none⟩) 1 1, .slice A1 r.body.length c1, .slice A2 r.exprs.length c2, .slice A3 r.scopes.length c3] 30)).alloc (.cells #[.int .i64 1, .int .i64 0, .string name, .slice none 0 0] 34)).alloc (.cells #[.string ⟨#[]⟩, .slice none 0 0, .slice A1 r.body.length c1, .slice A2 r.exprs.length c2, .slice A3 r.scopes.length c3] 30)).cell? ⟨wr.heap.size + 1 + 1, 1, none⟩ = some (.slice none 0 0) := by go_simp
          have q2 : (((wr.alloc (.cells #[.string r.head.name, .slice (some ⟨wr.heap.size + 1, 0, none⟩) 1 1, .slice A1 r.body.length c1, .slice A2 r.exprs.length c2, .slice A3 r.scopes.length c3] 30)).alloc (.cells #[.int .i64 1, .int .i64 0, .string name, .slice none 0 0] 34)).alloc (.cells #[.string ⟨#[]⟩, .slice none 0 0, .slice A1 r.body.length c1, .slice A2 r.exprs.length c2, .slice A3 r.scopes.length c3] 30)).cell? ⟨wr.heap.size + 1 + 1, 2, none⟩ = some (.slice A1 r.body.length c1) := by go_simp
          have q3 : (((wr.alloc (.cells #[.string r.head.name, .slice (some ⟨wr.heap.size + 1, 0, none⟩) 1 1, .slice A1 r.body.length c1, .slice A2 r.exprs.length c2, .slice A3 r.scopes.length c3] 30)).alloc (.cells #[.int .i64 1, .int .i64 0, .string name, .slice none 0 0] 34)).alloc (.cells #[.string ⟨#[]⟩, .slice none 0 0, .slice A1 r.body.length c1, .slice A2 r.exprs.length c2, .slice A3 r.scopes.length c3] 30)).cell? ⟨wr.heap.size + 1 + 1, 3, none⟩ = some (.slice A2 r.exprs.length c2) := by go_simp
          have q4 : (((wr.alloc (.cells #[.string r.head.name, .slice (some ⟨wr.heap.size + 1, 0, none⟩) 1 1, .slice A1 r.body.length c1, .slice A2 r.exprs.length c2, .slice A3 r.scopes.length c3] 30)).alloc (.cells #[.int .i64 1, .int .i64 0, .string name, .slice none 0 0] 34)).alloc (.cells #[.string ⟨#[]⟩, .slice none 0 0, .slice A1 r.body.length c1, .slice A2 r.exprs.length c2, .slice A3 r.scopes.length c3] 30)).cell? ⟨wr.heap.size + 1 + 1, 4, none⟩ = some (.slice A3 r.scopes.length c3) := by go_simp
          have hsz7 : wr.heap.size + 1 + 1 < (((wr.alloc (.cells #[.string r.head.name, .slice (some ⟨wr.heap.size + 1, 0, none⟩) 1 1, .slice A1 r.body.length c1, .slice A2 r.exprs.length c2, .slice A3 r.scopes.length c3] 30)).alloc (.cells #[.int .i64 1, .int .i64 0, .string name, .slice none 0 0] 34)).alloc (.cells #[.string ⟨#[]⟩, .slice none 0 0, .slice A1 r.body.length c1, .slice A2 r.exprs.length c2, .slice A3 r.scopes.length c3] 30)).heap.size := by go_simp
          generalize (((wr.alloc (.cells #[.string r.head.name, .slice (some ⟨wr.heap.size + 1, 0, none⟩) 1 1, .slice A1 r.body.length c1, .slice A2 r.exprs.length c2, .slice A3 r.scopes.length c3] 30)).alloc (.cells #[.int .i64 1, .int .i64 0, .string name, .slice none 0 0] 34)).alloc (.cells #[.string ⟨#[]⟩, .slice none 0 0, .slice A1 r.body.length c1, .slice A2 r.exprs.length c2, .slice A3 r.scopes.length c3] 30)) = W7 at *
          have HB7 := Lib.hid (HB6.out.trans (hg7.mono HB6.out.size))
          have HT := Lib.hid (rsl_one (R := TmR d) (x := varT name) (w := W7) (B := W7.heap.size) (b := wr.heap.size + 1) (by omega) (RTm.deeper hd (awT W7 _ name hnm)) (by simp [TmR]) (cells4 n0 n1 n2 n3))
          have HBW7 := Nat.le_trans hB HB7.out.size
          have HS7 := Lib.hid (show (RuR d).rd W7 W7.heap.size (withHead r ⟨r.head.name, [varT name]⟩) [_, _, _, _, _] from ⟨_, _, _, _, rfl, hs, HT.out, (HRl.out.2.1.keep HB7.out hB).wide HBW7, (HRl.out.2.2.1.keep HB7.out hB).wide HBW7, (HRl.out.2.2.2.keep HB7.out hB).wide HBW7⟩)
          have HQ7 := Lib.hid (show (RuR d).rd W7 W7.heap.size (withHead r ⟨⟨#[]⟩, []⟩) [_, _, _, _, _] from ⟨_, _, _, _, rfl, (Nat.zero_le _ : (0 : Nat) ≤ 140737488351232), rsl_nil _ _ _, (HRl.out.2.1.keep HB7.out hB).wide HBW7, (HRl.out.2.2.1.keep HB7.out hB).wide HBW7, (HRl.out.2.2.2.keep HB7.out hB).wide HBW7⟩)
          clear g0 g1 g2 g3 g4 n0 n1 n2 n3 hg7
          refine (mayRule_any (d := d) (r := withHead r ⟨r.head.name, [varT name]⟩) (vs := [_, _, _, _, _]) HS7.out (Nat.le_refl _)).mono ?_
          rintro x w8 ⟨rfl, hb8⟩
          rw [← HBB.out]
          have hsz8 := hb8.size
          have g0 : w8.cell? ⟨w.heap.size, 0, none⟩ = some (.string r.head.name) := (bcell hb8 _ _ (by omega)).trans h0
          have g1 : w8.cell? ⟨w.heap.size, 1, none⟩ = some (.slice A0 r.head.terms.length c0) := (bcell hb8 _ _ (by omega)).trans h1
          have g2 : w8.cell? ⟨w.heap.size, 2, none⟩ = some (.slice A1 r.body.length c1) := (bcell hb8 _ _ (by omega)).trans h2
          have g3 : w8.cell? ⟨w.heap.size, 3, none⟩ = some (.slice A2 r.exprs.length c2) := (bcell hb8 _ _ (by omega)).trans h3
          have g4 : w8.cell? ⟨w.heap.size, 4, none⟩ = some (.slice A3 r.scopes.length c3) := (bcell hb8 _ _ (by omega)).trans h4
          have p0 : w8.cell? ⟨wr.heap.size + 1 + 1, 0, none⟩ = some (.string ⟨#[]⟩) := (bcell hb8 _ _ (hsz7)).trans q0
          have p1 : w8.cell? ⟨wr.heap.size + 1 + 1, 1, none⟩ = some (.slice none 0 0) := (bcell hb8 _ _ (hsz7)).trans q1
          have p2 : w8.cell? ⟨wr.heap.size + 1 + 1, 2, none⟩ = some (.slice A1 r.body.length c1) := (bcell hb8 _ _ (hsz7)).trans q2
          have p3 : w8.cell? ⟨wr.heap.size + 1 + 1, 3, none⟩ = some (.slice A2 r.exprs.length c2) := (bcell hb8 _ _ (hsz7)).trans q3
          have p4 : w8.cell? ⟨wr.heap.size + 1 + 1, 4, none⟩ = some (.slice A3 r.scopes.length c3) := (bcell hb8 _ _ (hsz7)).trans q4
          have HB8 := Lib.hid hb8
          clear h0 h1 h2 h3 h4 q0 q1 q2 q3 q4 hb8
          go_wp2_with fail
          refine (mayQuery_any (d := d) (B := W7.heap.size) (r := withHead r ⟨⟨#[]⟩, []⟩) (vs := [_, _, _, _, _]) ((RuR d).keep HB8.out (Nat.le_refl _) HQ7.out) hsz8).mono ?_
          rintro x w9 ⟨rfl, hb9⟩
          rw [namesQ T3.out]
          have hsz9 := hb9.size
          have h0 : w9.cell? ⟨w.heap.size, 0, none⟩ = some (.string r.head.name) := (bcell hb9 _ _ (by omega)).trans g0
          have h1 : w9.cell? ⟨w.heap.size, 1, none⟩ = some (.slice A0 r.head.terms.length c0) := (bcell hb9 _ _ (by omega)).trans g1
          have h2 : w9.cell? ⟨w.heap.size, 2, none⟩ = some (.slice A1 r.body.length c1) := (bcell hb9 _ _ (by omega)).trans g2
          have h3 : w9.cell? ⟨w.heap.size, 3, none⟩ = some (.slice A2 r.exprs.length c2) := (bcell hb9 _ _ (by omega)).trans g3
          have h4 : w9.cell? ⟨w.heap.size, 4, none⟩ = some (.slice A3 r.scopes.length c3) := (bcell hb9 _ _ (by omega)).trans g4
          have HB9 := Lib.hid (HB7.out.trans ((HB8.out.trans (hb9.mono hsz8)).mono HB7.out.size))
          clear g0 g1 g2 g3 g4 p0 p1 p2 p3 p4 hb9
          go_wp2_with fail
          refine (mayQuery_any (d := d) (B := B) (r := r) (vs := [_, _, _, _, _]) ((RuR d).keep HB9.out hB HR.out) (Nat.le_trans hB HB9.out.size)).mono ?_
          rintro x w10 ⟨rfl, hb10⟩
          rw [namesR T3.out]
          have HB10 := Lib.hid (HB9.out.trans (hb10.mono HB9.out.size))
          clear h0 h1 h2 h3 h4 hb10
          go_wp2_with fail
          refine (awake_any _).mono ?_
          rintro x w11 ⟨rfl, hb11⟩
          have HB11 := Lib.hid (HB10.out.trans (hb11.mono HB10.out.size))
          clear hb11
          go_wp2_with fail
          go_ret
          exact ⟨rfl, HB11.out⟩
end Go.Proofs.Ytfknlghegchbkaa
