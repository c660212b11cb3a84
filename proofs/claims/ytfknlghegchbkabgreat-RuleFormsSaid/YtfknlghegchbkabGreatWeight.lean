/- viaticumlaw14.Weight: a rule lighter than 400 has no more names in its body than its weight. Printed by wip/gen/mk_weight.py. -/
import Derived.Test.YtfknlghegchbkabGreatSize
import Derived.Test.YtfknlghegchbkabGreatNames
set_option linter.unusedVariables false
set_option linter.unusedSimpArgs false
namespace Go.Proofs.YtfknlghegchbkabGreat
open Go.ChangeShapes Go.WideShapes Go.ChangeAt Go.RowKit

theorem varsOf_len (ts : List Tm) : (varsOf ts).length ≤ ts.length := by
  unfold varsOf
  rw [List.length_map]
  exact List.length_filter_le _ _

set_option maxRecDepth 100000 in
set_option maxHeartbeats 4000000 in
theorem weight_names {d B : Nat} {r : Ru} {vs : List Value} {w : World} (hr : (RuR d).rd w B r vs) (hB : B ≤ w.heap.size) :
    Calls Tryz.prog 5 #[.agg vs.toArray] w fun x w' => (∃ m : Int, x = .returned (.int .i64 m) ∧ (m < 400 → ((varsAll r.body).length : Int) ≤ m)) ∧ Below w.heap.size w w' := by
  obtain ⟨_, _, _, _, rfl, hs, ⟨A0, c0, rfl, h01, h02, hl0⟩, ⟨A1, c1, rfl, h11, h12, hl1⟩, ⟨A2, c2, rfl, h21, h22, hl2⟩, ⟨A3, c3, rfl, h31, h32, hl3⟩⟩ := hr
  simp only [PrR, ExR, ScR, TmR] at h02 h12 h22 h32
  have HB := Lib.hid (fun o : Obj => (Below.refl w.heap.size w).alloc (Nat.le_refl _) o)
  have HL1 := Lib.hid hl1
  have HL2 := Lib.hid hl2
  clear hl1 hl2 hl3
  go_enter Tryz.func5, Tryz.ntmps5
  go_wp2_with fail
  have HW := Lib.hid (HB.out (.cells #[.string r.head.name, .slice A0 r.head.terms.length c0, .slice A1 r.body.length c1, .slice A2 r.exprs.length c2, .slice A3 r.scopes.length c3] 33))
  have x2 : (w.alloc (.cells #[.string r.head.name, .slice A0 r.head.terms.length c0, .slice A1 r.body.length c1, .slice A2 r.exprs.length c2, .slice A3 r.scopes.length c3] 33)).cell? ⟨w.heap.size, 2, none⟩ = some (.slice A1 r.body.length c1) := by go_simp
  have x3 : (w.alloc (.cells #[.string r.head.name, .slice A0 r.head.terms.length c0, .slice A1 r.body.length c1, .slice A2 r.exprs.length c2, .slice A3 r.scopes.length c3] 33)).cell? ⟨w.heap.size, 3, none⟩ = some (.slice A2 r.exprs.length c2) := by go_simp
  have xsz : w.heap.size < (w.alloc (.cells #[.string r.head.name, .slice A0 r.head.terms.length c0, .slice A1 r.body.length c1, .slice A2 r.exprs.length c2, .slice A3 r.scopes.length c3] 33)).heap.size := by go_simp
  generalize (w.alloc (.cells #[.string r.head.name, .slice A0 r.head.terms.length c0, .slice A1 r.body.length c1, .slice A2 r.exprs.length c2, .slice A3 r.scopes.length c3] 33)) = W at *
  have hl0' := hl0.keep HW.out hB
  have hBW := Nat.le_trans hB HW.out.size
  have HLW1 := Lib.hid (HL1.out.keep HW.out hB)
  have HLW2 := Lib.hid (HL2.out.keep HW.out hB)
  clear hl0 HL1 HL2 HB
  go_loopw [3, 26] (fun v i wr => ∃ (k : Nat) (n : Int), k ≤ r.head.terms.length ∧ i = .int .i64 k ∧ v = .int .i64 n ∧ 0 ≤ n ∧ n ≤ 140737488351232 + 101 * k ∧ Below W.heap.size W wr) (fun _ i _ => r.head.terms.length - (intOf i).toNat)
  case atStart => exact ⟨0, _, Nat.zero_le _, rfl, rfl, by omega, by omega, Below.refl _ _⟩
  case round =>
    obtain ⟨k, n, hk, rfl, rfl, hn0, hn1, hbw⟩ := hrel
    by_cases hlt : k < r.head.terms.length
    · obtain ⟨b, off, rfl, hb⟩ := hl0'.base hbw hBW (by omega)
      obtain ⟨t, vs, hx, hlen, hcell, hr⟩ := hl0'.at_ hbw hBW hlt
      obtain ⟨Ax, cx, rfl, g1, g2, g3, g4, g5, hrl⟩ := RTm.cells hr
      have c0 : wr.cell? ⟨b, off + k * 4, none⟩ = some (.int .i64 t.kind) := hcell 0 _ rfl
      have c1 : wr.cell? ⟨b, off + k * 4 + 1, none⟩ = some (.int .i64 t.n) := hcell 1 _ rfl
      have c2 : wr.cell? ⟨b, off + k * 4 + 2, none⟩ = some (.string t.s) := hcell 2 _ rfl
      have c3 : wr.cell? ⟨b, off + k * 4 + 3, none⟩ = some (.slice Ax t.l.length cx) := hcell 3 _ rfl
      have hszr := hbw.size
      have HB := Lib.hid (fun o : Obj => hbw.alloc hszr o)
      have HB0 := Lib.hid (fun o : Obj => (Below.refl wr.heap.size wr).alloc (Nat.le_refl _) o)
      have HR := Lib.hid hr
      clear hcell hlen hx hr
      go_wp2_with fail
      refine (bigSize_any (d := d) (B := B) (t := t) (vs := [_, _, _, _]) ((TmR d).keep (HB0.out _) (Nat.le_trans hBW hszr) HR.out) (Nat.le_trans hBW (HB.out _).size)).mono ?_
      rintro e w1 ⟨⟨m, rfl, hm0, hm1⟩, hb1⟩
      have HB1 := Lib.hid ((HB.out _).trans (hb1.mono (HB.out _).size))
      clear hb1
      go_wp2_with fail
      go_roundw
      case rel => exact ⟨k + 1, _, by omega, by go_num, rfl, by omega, by omega, HB1.out⟩
      case measure => simp [intOf]; omega
    · clear hl0'
      have hn2 : n ≤ 140737488351232 + 101 * (r.head.terms.length : Int) := by omega
      have z2 : wr.cell? ⟨w.heap.size, 2, none⟩ = some (.slice A1 r.body.length c1) := (bcell hbw _ _ xsz).trans x2
      clear hn1
      go_wp2_with fail
      clear z2 hk hlt
      go_loopw [3, 38] (fun v i wr => ∃ (k : Nat) (n : Int), k ≤ r.body.length ∧ i = .int .i64 k ∧ v = .int .i64 n ∧ 0 ≤ n ∧ n ≤ 150737488351232 + 101 * (r.head.terms.length : Int) + k ∧ Hid (((varsAll (r.body.take k)).length : Int) ≤ n) ∧ Below W.heap.size W wr) (fun _ i _ => r.body.length - (intOf i).toNat)
      case atStart => exact ⟨0, _, Nat.zero_le _, rfl, rfl, hn0, by omega, Lib.hid (by simpa [varsAll] using hn0), hbw⟩
      case round =>
        clear hbw hn0 hn2
        obtain ⟨k, n, hk, rfl, rfl, hn0, hn1, HV, hbw⟩ := hrel
        by_cases hlt : k < r.body.length
        · obtain ⟨b, off, rfl, hb⟩ := HLW1.out.base hbw hBW (by omega)
          obtain ⟨p, vs, hx, hlen, hcell, hr⟩ := HLW1.out.at0 hbw hBW hlt
          obtain ⟨_, rfl, hs, A', c', rfl, hc1, hc2, hl'⟩ := hr
          simp only [TmR] at hc2
          have HV1 : Hid ((varsAll (r.body.take (k + 1))).length ≤ (varsAll (r.body.take k)).length + p.terms.length) := by
            obtain ⟨h1, h2⟩ := List.getElem?_eq_some_iff.1 hx
            apply Lib.hid
            rw [List.take_add_one, List.getElem?_eq_getElem h1, h2, varsAll_append, List.length_append]
            have := varsOf_len p.terms
            simp [varsAll] at *
            omega
          have c0 : wr.cell? ⟨b, off + k * 2, none⟩ = some (.string p.name) := hcell 0 _ rfl
          have c1 : wr.cell? ⟨b, off + k * 2 + 1, none⟩ = some (.slice A' p.terms.length c') := hcell 1 _ rfl
          have hszr := hbw.size
          have HB := Lib.hid (fun o : Obj => hbw.alloc hszr o)
          clear hcell hlen hx
          go_wp2_with fail
          have hn3 : n + (1 + (p.terms.length : Int)) ≤ 150737488351232 + 101 * (r.head.terms.length : Int) + k + (1 + (p.terms.length : Int)) := by omega
          have hbw2 : Below W.heap.size W (wr.alloc (.cells #[.string p.name, .slice A' p.terms.length c'] 30)) := HB.out _
          generalize (wr.alloc (.cells #[.string p.name, .slice A' p.terms.length c'] 30)) = W2 at *
          go_loopw [3, 51] (fun v i wr2 => ∃ (j : Nat) (n2 : Int), j ≤ p.terms.length ∧ i = .int .i64 j ∧ v = .int .i64 n2 ∧ 0 ≤ n2 ∧ ((j = 0 ∧ n2 = n + (1 + (p.terms.length : Int))) ∨ n2 ≤ 400) ∧ n + (1 + (p.terms.length : Int)) ≤ n2 ∧ Below W.heap.size W wr2) (fun _ i _ => p.terms.length - (intOf i).toNat)
          case atStart => exact ⟨0, _, Nat.zero_le _, rfl, rfl, by omega, .inl ⟨rfl, rfl⟩, by omega, hbw2⟩
          case round =>
            clear hbw2 hbw hszr c0 c1 HB
            obtain ⟨j, n2, hj, rfl, rfl, hn20, hn21, hn22, hbw⟩ := hrel
            by_cases hlt2 : j < p.terms.length
            · obtain ⟨b', off', rfl, hb'⟩ := hl'.base hbw hBW (by omega)
              obtain ⟨t, vs, hx, hlen, hcell, hr⟩ := hl'.at_ hbw hBW hlt2
              obtain ⟨Ax, cx, rfl, g1, g2, g3, g4, g5, hrl⟩ := RTm.cells hr
              have c0 : wr.cell? ⟨b', off' + j * 4, none⟩ = some (.int .i64 t.kind) := hcell 0 _ rfl
              have c1 : wr.cell? ⟨b', off' + j * 4 + 1, none⟩ = some (.int .i64 t.n) := hcell 1 _ rfl
              have c2 : wr.cell? ⟨b', off' + j * 4 + 2, none⟩ = some (.string t.s) := hcell 2 _ rfl
              have c3 : wr.cell? ⟨b', off' + j * 4 + 3, none⟩ = some (.slice Ax t.l.length cx) := hcell 3 _ rfl
              have hszr := hbw.size
              have HB := Lib.hid (fun o : Obj => hbw.alloc hszr o)
              have HB0 := Lib.hid (fun o : Obj => (Below.refl wr.heap.size wr).alloc (Nat.le_refl _) o)
              have HR := Lib.hid hr
              clear hcell hlen hx hr
              go_wp2_with fail
              refine (bigSize_any (d := d) (B := B) (t := t) (vs := [_, _, _, _]) ((TmR d).keep (HB0.out _) (Nat.le_trans hBW hszr) HR.out) (Nat.le_trans hBW (HB.out _).size)).mono ?_
              rintro e w1 ⟨⟨m, rfl, hm0, hm1⟩, hb1⟩
              have HB1 := Lib.hid ((HB.out _).trans (hb1.mono (HB.out _).size))
              clear hb1
              go_wp2_with fail
              · go_ret
                exact ⟨⟨_, rfl, fun h => absurd h (by omega)⟩, HW.out.trans (HB1.out.mono HW.out.size)⟩
              · go_roundw
                case rel => exact ⟨j + 1, _, by omega, by go_num, rfl, by omega, .inr (by omega), by omega, HB1.out⟩
                case measure => simp [intOf]; omega
            · go_wp2_with fail
              go_roundw
              case rel => exact ⟨k + 1, n2, by omega, by go_num, rfl, by omega, by omega, Lib.hid (by have h1 := HV1.out; have h2 := HV.out; omega), hbw⟩
              case measure => simp [intOf]; omega
        · have HV2 : Hid (((varsAll r.body).length : Int) ≤ n) := by
            have := HV.out
            rw [List.take_of_length_le (by omega)] at this
            exact this
          have z3 : wr.cell? ⟨w.heap.size, 3, none⟩ = some (.slice A2 r.exprs.length c2) := (bcell hbw _ _ xsz).trans x3
          have hn2 : n ≤ 160737488351232 + 101 * (r.head.terms.length : Int) := by omega
          clear hn1
          go_wp2_with fail
          clear z3 hk hlt
          go_loopw [3, 66] (fun v i wr => ∃ (k : Nat) (n : Int), k ≤ r.exprs.length ∧ i = .int .i64 k ∧ v = .int .i64 n ∧ 0 ≤ n ∧ n ≤ 160737488351232 + 101 * (r.head.terms.length : Int) + k ∧ Hid (((varsAll r.body).length : Int) ≤ n) ∧ Below W.heap.size W wr) (fun _ i _ => r.exprs.length - (intOf i).toNat)
          case atStart => exact ⟨0, _, Nat.zero_le _, rfl, rfl, hn0, by omega, HV2, hbw⟩
          case round =>
            clear hbw hn0 hn2 HV HV2
            obtain ⟨k, n, hk, rfl, rfl, hn0, hn1, HV, hbw⟩ := hrel
            by_cases hlt : k < r.exprs.length
            · obtain ⟨b, off, rfl, hb⟩ := HLW2.out.base hbw hBW (by omega)
              obtain ⟨p, vs, hx, hlen, hcell, hr⟩ := HLW2.out.at0 hbw hBW hlt
              obtain ⟨_, rfl, A', c', rfl, hc1, hc2, hl'⟩ := hr
              simp only [OpR] at hc2
              have c0 : wr.cell? ⟨b, off + k * 1, none⟩ = some (.slice A' p.length c') := hcell 0 _ rfl
              rw [Nat.mul_one] at c0
              have hszr := hbw.size
              have HB := Lib.hid (fun o : Obj => hbw.alloc hszr o)
              clear hcell hlen hx
              go_wp2_with fail
              have hn3 : n + (1 + (p.length : Int)) ≤ 160737488351232 + 101 * (r.head.terms.length : Int) + k + (1 + (p.length : Int)) := by omega
              have hbw2 : Below W.heap.size W (wr.alloc (.cells #[.slice A' p.length c'] 61)) := HB.out _
              generalize (wr.alloc (.cells #[.slice A' p.length c'] 61)) = W2 at *
              go_loopw [3, 79] (fun v i wr2 => ∃ (j : Nat) (n2 : Int), j ≤ p.length ∧ i = .int .i64 j ∧ v = .int .i64 n2 ∧ 0 ≤ n2 ∧ ((j = 0 ∧ n2 = n + (1 + (p.length : Int))) ∨ n2 ≤ 400) ∧ n + (1 + (p.length : Int)) ≤ n2 ∧ Below W.heap.size W wr2) (fun _ i _ => p.length - (intOf i).toNat)
              case atStart => exact ⟨0, _, Nat.zero_le _, rfl, rfl, by omega, .inl ⟨rfl, rfl⟩, by omega, hbw2⟩
              case round =>
                clear hbw2 hbw hszr c0 HB
                obtain ⟨j, n2, hj, rfl, rfl, hn20, hn21, hn22, hbw⟩ := hrel
                by_cases hlt2 : j < p.length
                · obtain ⟨b', off', rfl, hb'⟩ := hl'.base hbw hBW (by omega)
                  obtain ⟨o, vs, hx, hlen, hcell, hr⟩ := hl'.at_ hbw hBW hlt2
                  obtain ⟨ts, rfl, i1, i2, i3, ht⟩ := hr
                  have hr := ht
                  obtain ⟨Ax, cx, rfl, g1, g2, g3, g4, g5, hrl⟩ := RTm.cells ht
                  have c0 : wr.cell? ⟨b', off' + j * 7, none⟩ = some (.int .i64 o.kind) := hcell 0 _ rfl
                  have c1 : wr.cell? ⟨b', off' + j * 7 + 1, none⟩ = some (.int .i64 o.term.kind) := hcell 1 _ rfl
                  have c2 : wr.cell? ⟨b', off' + j * 7 + 2, none⟩ = some (.int .i64 o.term.n) := hcell 2 _ rfl
                  have c3 : wr.cell? ⟨b', off' + j * 7 + 3, none⟩ = some (.string o.term.s) := hcell 3 _ rfl
                  have c4 : wr.cell? ⟨b', off' + j * 7 + 4, none⟩ = some (.slice Ax o.term.l.length cx) := hcell 4 _ rfl
                  have c5 : wr.cell? ⟨b', off' + j * 7 + 5, none⟩ = some (.int .i64 o.code) := hcell 5 _ rfl
                  have c6 : wr.cell? ⟨b', off' + j * 7 + 6, none⟩ = some (.int .i64 o.skip) := hcell 6 _ rfl
                  have hszr := hbw.size
                  have HB := Lib.hid (fun o : Obj => hbw.alloc hszr o)
                  have HB0 := Lib.hid (fun o : Obj => (Below.refl wr.heap.size wr).alloc (Nat.le_refl _) o)
                  have HR := Lib.hid hr
                  clear hcell hlen hx hr
                  go_wp2_with fail
                  refine (bigSize_any (d := d) (B := B) (t := o.term) (vs := [_, _, _, _]) ((TmR d).keep (HB0.out _) (Nat.le_trans hBW hszr) HR.out) (Nat.le_trans hBW (HB.out _).size)).mono ?_
                  rintro e w1 ⟨⟨m, rfl, hm0, hm1⟩, hb1⟩
                  have HB1 := Lib.hid ((HB.out _).trans (hb1.mono (HB.out _).size))
                  clear hb1
                  go_wp2_with fail
                  · go_ret
                    exact ⟨⟨_, rfl, fun h => absurd h (by omega)⟩, HW.out.trans (HB1.out.mono HW.out.size)⟩
                  · go_roundw
                    case rel => exact ⟨j + 1, _, by omega, by go_num, rfl, by omega, .inr (by omega), by omega, HB1.out⟩
                    case measure => simp [intOf]; omega
                · go_wp2_with fail
                  go_roundw
                  case rel => exact ⟨k + 1, n2, by omega, by go_num, rfl, by omega, by omega, Lib.hid (by have h2 := HV.out; omega), hbw⟩
                  case measure => simp [intOf]; omega
            · go_wp2_with fail
              go_ret
              refine ⟨⟨_, rfl, ?_⟩, HW.out.trans (hbw.mono HW.out.size)⟩
              intro h
              have h2 := HV.out
              omega
end Go.Proofs.YtfknlghegchbkabGreat
