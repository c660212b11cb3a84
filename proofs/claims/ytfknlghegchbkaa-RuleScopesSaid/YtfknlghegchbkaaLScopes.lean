/- viaticumlaw14.RuleScopes: a rule trusts as many scopes as there is room for, each of which may be. -/
import Derived.Test.YtfknlghegchbkaaAwake
set_option linter.unusedVariables false
set_option linter.unusedSimpArgs false
namespace Go.Proofs.Ytfknlghegchbkaa
open Go.ChangeShapes Go.WideShapes Go.ChangeAt Go.RowKit

theorem scopesB {r : Ru} {l : List Sc} (h : mayRuleB r = true) : mayRuleB ⟨r.head, r.body, r.exprs, l⟩ = (decide ((l.length : Int) ≤ 4) && l.all mayScopeB) := by
  unfold mayRuleB bodyB namesP at *
  simp only [Bool.and_eq_true] at h
  obtain ⟨⟨⟨h1, h2⟩, ⟨⟨⟨h3, h3'⟩, h4, h4'⟩, h5⟩, h6⟩, h7⟩ := h
  simp only [h1, h2, h3, h3', h4, h4', h6, h7, Bool.true_and, Bool.and_true, int_le_4]

set_option maxRecDepth 100000 in
set_option maxHeartbeats 4000000 in
theorem ruleScopes_any {d B : Nat} {r : Ru} {l : List Sc} {vs : List Value} {v : Value} {w : World} (hr : (RuR d).rd w B r vs) (hl : RSl ScR w B l v) (hB : B ≤ w.heap.size) :
    Calls Try.prog 4 #[.agg vs.toArray, v] w fun x w' => x = .returned (.bool true) ∧ Below w.heap.size w w' := by
  have HR := Lib.hid hr
  obtain ⟨A, c, rfl, g1, g2, hl⟩ := hl
  obtain ⟨_, _, _, _, rfl, hs, ⟨A0, c0, rfl, h01, h02, hl0⟩, ⟨A1, c1, rfl, h11, h12, hl1⟩, ⟨A2, c2, rfl, h21, h22, hl2⟩, ⟨A3, c3, rfl, h31, h32, hl3⟩⟩ := hr
  simp only [PrR, ExR, ScR, TmR] at h02 h12 h22 h32 g2
  have HB := Lib.hid (fun o : Obj => (Below.refl w.heap.size w).alloc (Nat.le_refl _) o)
  have HSL := Lib.hid (show RSl ScR w B l (.slice A l.length c) from ⟨A, c, rfl, g1, by simp only [ScR]; omega, hl⟩)
  have HL := Lib.hid hl
  have HRl := Lib.hid (show RSl (TmR d) w B r.head.terms (.slice A0 r.head.terms.length c0) ∧ RSl (PrR d) w B r.body (.slice A1 r.body.length c1) ∧ RSl (ExR d) w B r.exprs (.slice A2 r.exprs.length c2) from ⟨⟨A0, c0, rfl, h01, by simp only [TmR]; omega, hl0⟩, ⟨A1, c1, rfl, h11, by simp only [PrR]; omega, hl1⟩, ⟨A2, c2, rfl, h21, by simp only [ExR]; omega, hl2⟩⟩)
  clear hl hl0 hl1 hl2 hl3
  go_enter Try.func4, Try.ntmps4
  go_wp2_with fail
  have HW := Lib.hid (HB.out (.cells #[.string r.head.name, .slice A0 r.head.terms.length c0, .slice A1 r.body.length c1, .slice A2 r.exprs.length c2, .slice A3 r.scopes.length c3] 30))
  have x0 : (w.alloc (.cells #[.string r.head.name, .slice A0 r.head.terms.length c0, .slice A1 r.body.length c1, .slice A2 r.exprs.length c2, .slice A3 r.scopes.length c3] 30)).cell? ⟨w.heap.size, 0, none⟩ = some (.string r.head.name) := by go_simp
  have x1 : (w.alloc (.cells #[.string r.head.name, .slice A0 r.head.terms.length c0, .slice A1 r.body.length c1, .slice A2 r.exprs.length c2, .slice A3 r.scopes.length c3] 30)).cell? ⟨w.heap.size, 1, none⟩ = some (.slice A0 r.head.terms.length c0) := by go_simp
  have x2 : (w.alloc (.cells #[.string r.head.name, .slice A0 r.head.terms.length c0, .slice A1 r.body.length c1, .slice A2 r.exprs.length c2, .slice A3 r.scopes.length c3] 30)).cell? ⟨w.heap.size, 2, none⟩ = some (.slice A1 r.body.length c1) := by go_simp
  have x3 : (w.alloc (.cells #[.string r.head.name, .slice A0 r.head.terms.length c0, .slice A1 r.body.length c1, .slice A2 r.exprs.length c2, .slice A3 r.scopes.length c3] 30)).cell? ⟨w.heap.size, 3, none⟩ = some (.slice A2 r.exprs.length c2) := by go_simp
  have x4 : (w.alloc (.cells #[.string r.head.name, .slice A0 r.head.terms.length c0, .slice A1 r.body.length c1, .slice A2 r.exprs.length c2, .slice A3 r.scopes.length c3] 30)).cell? ⟨w.heap.size, 4, none⟩ = some (.slice A3 r.scopes.length c3) := by go_simp
  have xsz : w.heap.size < (w.alloc (.cells #[.string r.head.name, .slice A0 r.head.terms.length c0, .slice A1 r.body.length c1, .slice A2 r.exprs.length c2, .slice A3 r.scopes.length c3] 30)).heap.size := by go_simp
  generalize (w.alloc (.cells #[.string r.head.name, .slice A0 r.head.terms.length c0, .slice A1 r.body.length c1, .slice A2 r.exprs.length c2, .slice A3 r.scopes.length c3] 30)) = W at *
  refine (weight_any (d := d) (B := B) (vs := [_, _, _, _, _]) ((RuR d).keep HW.out hB HR.out) (Nat.le_trans hB HW.out.size)).mono ?_
  rintro x w1 ⟨⟨m, rfl⟩, hb1⟩
  have hsz1 := hb1.size
  have y0 := (bcell hb1 _ _ xsz).trans x0
  have y1 := (bcell hb1 _ _ xsz).trans x1
  have y2 := (bcell hb1 _ _ xsz).trans x2
  have y3 := (bcell hb1 _ _ xsz).trans x3
  have y4 := (bcell hb1 _ _ xsz).trans x4
  have HB1 := Lib.hid (HW.out.trans (hb1.mono HW.out.size))
  clear x0 x1 x2 x3 x4 hb1
  by_cases t1 : m ≥ 400
  · go_wp2_with fail
    refine (awake_any _).mono ?_
    rintro x w2 ⟨rfl, hb2⟩
    have HB2 := Lib.hid (HB1.out.trans (hb2.mono HB1.out.size))
    clear hb2
    go_wp2_with fail
    go_ret
    exact ⟨rfl, HB2.out⟩
  by_cases t2 : (l.length : Int) > 20
  · go_wp2_with fail
    refine (awake_any _).mono ?_
    rintro x w2 ⟨rfl, hb2⟩
    have HB2 := Lib.hid (HB1.out.trans (hb2.mono HB1.out.size))
    clear hb2
    go_wp2_with fail
    go_ret
    exact ⟨rfl, HB2.out⟩
  go_wp2_with fail
  refine (mayRule_any (d := d) (B := B) (r := r) (vs := [_, _, _, _, _]) ((RuR d).keep HB1.out hB HR.out) (Nat.le_trans hB HB1.out.size)).mono ?_
  rintro x w2 ⟨rfl, hb2⟩
  have hsz2 := hb2.size
  have z0 := (bcell hb2 _ _ (Nat.lt_of_lt_of_le xsz hsz1)).trans y0
  have z1 := (bcell hb2 _ _ (Nat.lt_of_lt_of_le xsz hsz1)).trans y1
  have z2 := (bcell hb2 _ _ (Nat.lt_of_lt_of_le xsz hsz1)).trans y2
  have z3 := (bcell hb2 _ _ (Nat.lt_of_lt_of_le xsz hsz1)).trans y3
  have z4 := (bcell hb2 _ _ (Nat.lt_of_lt_of_le xsz hsz1)).trans y4
  have HB2 := Lib.hid (HB1.out.trans (hb2.mono HB1.out.size))
  clear y0 y1 y2 y3 y4 hb2
  by_cases t3 : mayRuleB r = true
  · have T3 := Lib.hid t3
    rw [t3]
    clear t3
    go_wp2_with fail
    have hg3 : Below w2.heap.size w2 (w2.alloc (.cells #[.string r.head.name, .slice A0 r.head.terms.length c0, .slice A1 r.body.length c1, .slice A2 r.exprs.length c2, .slice A l.length c] 30)) := (Below.refl _ w2).alloc (Nat.le_refl _) _
    have s0 : (w2.alloc (.cells #[.string r.head.name, .slice A0 r.head.terms.length c0, .slice A1 r.body.length c1, .slice A2 r.exprs.length c2, .slice A l.length c] 30)).cell? ⟨w2.heap.size, 0, none⟩ = some (.string r.head.name) := by go_simp
    have s1 : (w2.alloc (.cells #[.string r.head.name, .slice A0 r.head.terms.length c0, .slice A1 r.body.length c1, .slice A2 r.exprs.length c2, .slice A l.length c] 30)).cell? ⟨w2.heap.size, 1, none⟩ = some (.slice A0 r.head.terms.length c0) := by go_simp
    have s2 : (w2.alloc (.cells #[.string r.head.name, .slice A0 r.head.terms.length c0, .slice A1 r.body.length c1, .slice A2 r.exprs.length c2, .slice A l.length c] 30)).cell? ⟨w2.heap.size, 2, none⟩ = some (.slice A1 r.body.length c1) := by go_simp
    have s3 : (w2.alloc (.cells #[.string r.head.name, .slice A0 r.head.terms.length c0, .slice A1 r.body.length c1, .slice A2 r.exprs.length c2, .slice A l.length c] 30)).cell? ⟨w2.heap.size, 3, none⟩ = some (.slice A2 r.exprs.length c2) := by go_simp
    have s4 : (w2.alloc (.cells #[.string r.head.name, .slice A0 r.head.terms.length c0, .slice A1 r.body.length c1, .slice A2 r.exprs.length c2, .slice A l.length c] 30)).cell? ⟨w2.heap.size, 4, none⟩ = some (.slice A l.length c) := by go_simp
    have s5 : (w2.alloc (.cells #[.string r.head.name, .slice A0 r.head.terms.length c0, .slice A1 r.body.length c1, .slice A2 r.exprs.length c2, .slice A l.length c] 30)).frozen? ⟨w2.heap.size, 0, none⟩ = false := by go_simp
    have s6 : (w2.alloc (.cells #[.string r.head.name, .slice A0 r.head.terms.length c0, .slice A1 r.body.length c1, .slice A2 r.exprs.length c2, .slice A l.length c] 30)).frozen? ⟨w2.heap.size, 1, none⟩ = false := by go_simp
    have hsz3 : w2.heap.size < (w2.alloc (.cells #[.string r.head.name, .slice A0 r.head.terms.length c0, .slice A1 r.body.length c1, .slice A2 r.exprs.length c2, .slice A l.length c] 30)).heap.size := by go_simp
    have p0 := (bcell hg3 _ _ (Nat.lt_of_lt_of_le (Nat.lt_of_lt_of_le xsz hsz1) hsz2)).trans z0
    have p1 := (bcell hg3 _ _ (Nat.lt_of_lt_of_le (Nat.lt_of_lt_of_le xsz hsz1) hsz2)).trans z1
    generalize (w2.alloc (.cells #[.string r.head.name, .slice A0 r.head.terms.length c0, .slice A1 r.body.length c1, .slice A2 r.exprs.length c2, .slice A l.length c] 30)) = W3 at *
    have HB3 := Lib.hid (HB2.out.trans (hg3.mono HB2.out.size))
    have hxs : w.heap.size < w2.heap.size := by omega
    clear z0 z1 z2 z3 z4 hg3
    go_loopw [6, 31] (fun v i wr => ∃ k : Nat, k ≤ l.length ∧ i = .int .i64 k ∧ v = .bool (decide ((l.length : Int) ≤ 4) && (l.take k).all mayScopeB) ∧ Below W3.heap.size W3 wr) (fun _ i _ => l.length - (intOf i).toNat)
    case atStart => exact ⟨0, Nat.zero_le _, rfl, by simp, Below.refl _ _⟩
    case round =>
      obtain ⟨k, hk, rfl, rfl, hbw⟩ := hrel
      have hszr := hbw.size
      by_cases hlt : k < l.length
      · have hl3 := HL.out.keep HB3.out hB
        have hB3 := Nat.le_trans hB HB3.out.size
        obtain ⟨b, off, rfl, hb⟩ := hl3.base hbw hB3 (by omega)
        obtain ⟨x, vs, hx, hlen, hcell, hr⟩ := hl3.at_ hbw hB3 hlt
        obtain ⟨rfl, i1, i2⟩ := id hr
        have c0 : wr.cell? ⟨b, off + k * 2, none⟩ = some (.int .i64 x.kind) := hcell 0 _ rfl
        have c1 : wr.cell? ⟨b, off + k * 2 + 1, none⟩ = some (.string x.key) := hcell 1 _ rfl
        have HR2 := Lib.hid hr
        have HBr := Lib.hid (fun o : Obj => hbw.alloc hszr o)
        have HX : (l.take (k + 1)).all mayScopeB = ((l.take k).all mayScopeB && mayScopeB x) := by
          rw [List.take_add_one, hx]; simp [List.all_append]
        replace HX := Lib.hid HX
        have HLT := Lib.hid hlt
        clear hcell hlen hx hr hl3 s0 s1 s2 s3 s4 s5 s6 p0 p1
        by_cases q : (decide ((l.length : Int) ≤ 4) && (l.take k).all mayScopeB) = true
        · go_wp2_with fail
          refine (mayScope_any (s := x) (B := B) (vs := [_, _]) (w := wr.alloc _) (show ScR.rd (wr.alloc _) B x _ from HR2.out)).mono ?_
          rintro e w4 ⟨rfl, hb4⟩
          have HB4 := Lib.hid ((HBr.out _).trans (hb4.mono (HBr.out _).size))
          clear hb4
          go_wp2_with fail
          go_roundw
          case rel => exact ⟨k + 1, by omega, by go_num, by rw [HX.out, ← Bool.and_assoc, q, Bool.true_and], HB4.out⟩
          case measure => simp [intOf]; omega
        · simp only [Bool.not_eq_true] at q
          go_wp2_with fail
          go_roundw
          case rel => exact ⟨k + 1, by omega, by go_num, by rw [HX.out, ← Bool.and_assoc, q, Bool.false_and], HBr.out _⟩
          case measure => simp [intOf]; omega
      · have f0 := (bcell hbw _ _ (Nat.lt_trans hxs hsz3)).trans p0
        have f1 := (bcell hbw _ _ (Nat.lt_trans hxs hsz3)).trans p1
        have f2 := (bcell hbw _ _ hsz3).trans s2
        have f3 := (bcell hbw _ _ hsz3).trans s3
        have f4 := (bcell hbw _ _ hsz3).trans s4
        have f5 := (bcell hbw _ _ hsz3).trans s0
        have f6 := (bcell hbw _ _ hsz3).trans s1
        have f7 := (hbw.frozen (p := ⟨w2.heap.size, 0, none⟩) hsz3).trans s5
        have f8 := (hbw.frozen (p := ⟨w2.heap.size, 1, none⟩) hsz3).trans s6
        have hne : w.heap.size ≠ w2.heap.size := by omega
        have hlt4 : w2.heap.size < wr.heap.size := by omega
        have HBW := Lib.hid hbw
        clear p0 p1 s0 s1 s2 s3 s4 s5 s6 hbw
        go_wp2_with fail
        have HE : (decide ((l.length : Int) ≤ 4) && (l.take k).all mayScopeB) = mayRuleB ⟨r.head, r.body, r.exprs, l⟩ := by
          rw [List.take_of_length_le (by omega), scopesB T3.out]
        rw [HE]
        have HBW2 := Lib.hid (HB3.out.trans (HBW.out.mono HB3.out.size))
        have HB5 := Lib.hid ((HBW2.out.setCell (p := ⟨w2.heap.size, 0, none⟩) (by show _ ≤ w2.heap.size; omega) (.string r.head.name)).setCell (p := ⟨w2.heap.size, 1, none⟩) (by show _ ≤ w2.heap.size; omega) (.slice A0 r.head.terms.length c0))
        generalize ((wr.setCell { block := w2.heap.size, off := 0 } (.string r.head.name)).setCell { block := w2.heap.size, off := 1 } (.slice A0 r.head.terms.length c0)) = W5 at *
        have HS5 := Lib.hid (show (RuR d).rd W5 B ⟨r.head, r.body, r.exprs, l⟩ [_, _, _, _, _] from ⟨_, _, _, _, rfl, hs, HRl.out.1.keep HB5.out hB, HRl.out.2.1.keep HB5.out hB, HRl.out.2.2.keep HB5.out hB, HSL.out.keep HB5.out hB⟩)
        refine (mayRule_any (d := d) (B := B) (r := ⟨r.head, r.body, r.exprs, l⟩) (vs := [_, _, _, _, _]) HS5.out (Nat.le_trans hB HB5.out.size)).mono ?_
        rintro x w6 ⟨rfl, hb6⟩
        have HB6 := Lib.hid (HB5.out.trans (hb6.mono HB5.out.size))
        clear hb6 f0 f1 f2 f3 f4 f5 f6 f7 f8 HE
        generalize mayRuleB ⟨r.head, r.body, r.exprs, l⟩ = bb at *
        go_wp2_with fail
        refine (awake_any _).mono ?_
        rintro x w7 ⟨rfl, hb7⟩
        have HB7 := Lib.hid (HB6.out.trans (hb7.mono HB6.out.size))
        clear hb7
        go_wp2_with fail
        go_ret
        exact ⟨rfl, HB7.out⟩
  · simp only [Bool.not_eq_true] at t3
    rw [t3]
    go_wp2_with fail
    refine (awake_any _).mono ?_
    rintro x w3 ⟨rfl, hb3⟩
    have HB3 := Lib.hid (HB2.out.trans (hb3.mono HB2.out.size))
    clear hb3
    go_wp2_with fail
    go_ret
    exact ⟨rfl, HB3.out⟩
end Go.Proofs.Ytfknlghegchbkaa
