/- viaticumlaw14.Block, Queries: they return some number. Printed by wip/gen/mk_block.py. -/
import Derived.Test.YtfknlghegchbkabGreatMay
import Derived.Test.YtfknlghegchbkabGreatAwake
set_option linter.unusedVariables false
set_option linter.unusedSimpArgs false
namespace Go.Proofs.YtfknlghegchbkabGreat
open Go.ChangeShapes Go.WideShapes Go.ChangeAt Go.RowKit

set_option maxRecDepth 100000 in
set_option maxHeartbeats 4000000 in
theorem block_any {d B : Nat} {b : Bk} {vs : List Value} {w : World} (hx : (BkR d).rd w B b vs) (hB : B ≤ w.heap.size) :
    Calls Tryz.prog 6 #[.agg vs.toArray] w fun e w' => (∃ m : Int, e = .returned (.int .i64 m)) ∧ Below w.heap.size w w' := by
  obtain ⟨_, _, _, _, rfl, ⟨A0, c0, rfl, g0, h0, hl0⟩, ⟨A1, c1, rfl, g1, h1, hl1⟩, ⟨A2, c2, rfl, g2, h2, hl2⟩, ⟨A3, c3, rfl, g3, h3, hl3⟩⟩ := hx
  simp only [PrR, RuR, CkR, ScR] at h0 h1 h2 h3
  have HL0 := Lib.hid hl0
  have HL1 := Lib.hid hl1
  have HL2 := Lib.hid hl2
  clear hl0 hl1 hl2 hl3
  go_enter Tryz.func6, Tryz.ntmps6
  go_wp2_with fail
  generalize hW : World.alloc _ _ = W
  obtain ⟨hb, hz⟩ := al1 hW
  have ba := n11 hW
  have HB1 := Lib.hid hb
  have hB1 : B ≤ W.heap.size := by omega
  clear hW hb hz
  go_loopw [3, 18] (fun v i wr => ∃ k : Nat, k ≤ b.facts.length ∧ i = .int .i64 k ∧ (∃ n : Int, v = .int .i64 n) ∧ Below W.heap.size W wr) (fun _ i _ => b.facts.length - (intOf i).toNat)
  case atStart => exact ⟨0, Nat.zero_le _, rfl, ⟨_, rfl⟩, Below.refl _ _⟩
  case round =>
    obtain ⟨k, hk, rfl, ⟨n, rfl⟩, hbw⟩ := hrel
    by_cases hlt : k < b.facts.length
    · have hl := HL0.out.keep HB1.out hB
      obtain ⟨bk, off, rfl, hbk⟩ := hl.base hbw hB1 (by omega)
      obtain ⟨x, vs, hx, hlen, hcell, hr⟩ := hl.at_ hbw hB1 hlt
      obtain ⟨_, rfl, hs, Ax, cx, rfl, gx, hxx, hlx⟩ := id hr
      have p0 : wr.cell? ⟨bk, off + k * 2, none⟩ = some (.string x.name) := hcell 0 _ rfl
      have p1 : wr.cell? ⟨bk, off + k * 2 + 1, none⟩ = some (.slice Ax x.terms.length cx) := hcell 1 _ rfl
      have HBw := Lib.hid hbw
      have HR := Lib.hid (And.intro hs (show RSl (TmR d) wr B x.terms (.slice Ax x.terms.length cx) from ⟨Ax, cx, rfl, gx, hxx, hlx⟩))
      have hszr := hbw.size
      clear hl hcell hlen hx hr hlx hs gx hxx hbw
      go_wp2_with fail
      generalize hW2 : World.alloc _ _ = W2
      obtain ⟨hb2, hz2⟩ := al1 hW2
      clear hW2 p0 p1
      refine (weight_any (d := d) (B := B) (r := ⟨x, [], [], []⟩) (vs := [_, _, _, _, _]) (show (RuR d).rd W2 B ⟨x, [], [], []⟩ _ from ⟨_, _, _, _, rfl, HR.out.1, HR.out.2.keep hb2 (by omega), rsl_nil _ _ _, rsl_nil _ _ _, rsl_nil _ _ _⟩) (by omega)).mono ?_
      rintro e w3 ⟨⟨m, rfl⟩, hb3⟩
      have HB3 := Lib.hid (bthen HBw.out (bthen hb2 hb3))
      have hfin := Lib.hid (bthen HB1.out HB3.out)
      clear hb2 hb3 hz2
      go_wp2_with fail
      all_goals first
        | (go_ret
           exact ⟨⟨_, rfl⟩, hfin.out⟩)
        | (go_roundw
           case rel => exact ⟨k + 1, by omega, by go_num, ⟨_, rfl⟩, HB3.out⟩
           case measure => simp [intOf]; omega)
    · have HB2 := Lib.hid (bthen HB1.out hbw)
      have ba2 := ba.later hbw
      have kba := ba2.cell
      have lba := ba2.lt
      have hB2 : B ≤ wr.heap.size := by have := hbw.size; omega
      clear HB1 hB1 hbw ba
      go_wp2_with fail
      clear kba lba
      go_loopw [3, 34] (fun v i ws => ∃ k2 : Nat, k2 ≤ b.rules.length ∧ i = .int .i64 k2 ∧ (∃ n : Int, v = .int .i64 n) ∧ Below wr.heap.size wr ws) (fun _ i _ => b.rules.length - (intOf i).toNat)
      case atStart => exact ⟨0, Nat.zero_le _, rfl, ⟨_, rfl⟩, Below.refl _ _⟩
      case round =>
        obtain ⟨k2, hk2, rfl, ⟨n2, rfl⟩, hbw⟩ := hrel
        by_cases hlt2 : k2 < b.rules.length
        · have hl := HL1.out.keep HB2.out hB
          obtain ⟨bk, off, rfl, hbk⟩ := hl.base hbw hB2 (by omega)
          obtain ⟨x, vs, hx, hlen, hcell, hr⟩ := hl.at_ hbw hB2 hlt2
          obtain ⟨_, _, _, _, rfl, _, ⟨X0, y0, rfl, _⟩, ⟨X1, y1, rfl, _⟩, ⟨X2, y2, rfl, _⟩, ⟨X3, y3, rfl, _⟩⟩ := id hr
          have p0 : wr.cell? ⟨bk, off + k2 * 5, none⟩ = some (.string x.head.name) := hcell 0 _ rfl
          have p1 : wr.cell? ⟨bk, off + k2 * 5 + 1, none⟩ = some (.slice X0 x.head.terms.length y0) := hcell 1 _ rfl
          have p2 : wr.cell? ⟨bk, off + k2 * 5 + 2, none⟩ = some (.slice X1 x.body.length y1) := hcell 2 _ rfl
          have p3 : wr.cell? ⟨bk, off + k2 * 5 + 3, none⟩ = some (.slice X2 x.exprs.length y2) := hcell 3 _ rfl
          have p4 : wr.cell? ⟨bk, off + k2 * 5 + 4, none⟩ = some (.slice X3 x.scopes.length y3) := hcell 4 _ rfl
          have HBw := Lib.hid hbw
          have HR := Lib.hid hr
          have hszr := hbw.size
          clear hl hcell hlen hx hr hbw
          go_wp2_with fail
          generalize hW2 : World.alloc _ _ = W2
          obtain ⟨hb2, hz2⟩ := al1 hW2
          clear hW2 p0 p1 p2 p3 p4
          refine (weight_any (d := d) (B := B) (r := x) (vs := [_, _, _, _, _]) ((RuR d).keep hb2 (by omega) HR.out) (by omega)).mono ?_
          rintro e w3 ⟨⟨m, rfl⟩, hb3⟩
          have HB3 := Lib.hid (bthen HBw.out (bthen hb2 hb3))
          have hfin := Lib.hid (bthen HB2.out HB3.out)
          clear hb2 hb3 hz2
          go_wp2_with fail
          all_goals first
            | (go_ret
               exact ⟨⟨_, rfl⟩, hfin.out⟩)
            | (go_roundw
               case rel => exact ⟨k2 + 1, by omega, by go_num, ⟨_, rfl⟩, HB3.out⟩
               case measure => simp [intOf]; omega)
        · have HB4 := Lib.hid (bthen HB2.out hbw)
          have ba4 := ba2.later hbw
          have kba := ba4.cell
          have lba := ba4.lt
          have hB4 : B ≤ wr.heap.size := by have := hbw.size; omega
          clear HB2 hB2 hbw ba2
          go_wp2_with fail
          clear kba lba
          go_loopw [3, 49] (fun v i wt => ∃ k3 : Nat, k3 ≤ b.checks.length ∧ i = .int .i64 k3 ∧ (∃ n : Int, v = .int .i64 n) ∧ Below wr.heap.size wr wt) (fun _ i _ => b.checks.length - (intOf i).toNat)
          case atStart => exact ⟨0, Nat.zero_le _, rfl, ⟨_, rfl⟩, Below.refl _ _⟩
          case round =>
            obtain ⟨k3, hk3, rfl, ⟨n3, rfl⟩, hbw⟩ := hrel
            by_cases hlt3 : k3 < b.checks.length
            · have hl := HL2.out.keep HB4.out hB
              obtain ⟨bk, off, rfl, hbk⟩ := hl.base hbw hB4 (by omega)
              obtain ⟨x, vs, hx, hlen, hcell, hr⟩ := hl.at_ hbw hB4 hlt3
              obtain ⟨_, rfl, Aq, cq, rfl, gq, hq, hlq⟩ := id hr
              simp only [RuR] at hq
              have p0 : wr.cell? ⟨bk, off + k3 * 2, none⟩ = some (.bool x.all) := hcell 0 _ rfl
              have p1 : wr.cell? ⟨bk, off + k3 * 2 + 1, none⟩ = some (.slice Aq x.queries.length cq) := hcell 1 _ rfl
              have HBw := Lib.hid hbw
              have HLq := Lib.hid hlq
              have hszr := hbw.size
              clear hl hcell hlen hx hr hbw hlq
              go_wp2_with fail
              generalize hW2 : World.alloc _ _ = W2
              obtain ⟨hb2, hz2⟩ := al1 hW2
              have HB5 := Lib.hid (bthen HB4.out (bthen HBw.out hb2))
              have HB6 := Lib.hid (bthen HBw.out hb2)
              have HLq2 := Lib.hid (HLq.out.keep hb2 (by omega))
              have hB5 : B ≤ W2.heap.size := by omega
              clear hW2 p0 p1 hb2 hz2 HLq
              go_loopw [3, 58] (fun v i wu => ∃ j : Nat, j ≤ x.queries.length ∧ i = .int .i64 j ∧ (∃ n : Int, v = .int .i64 n) ∧ Below W2.heap.size W2 wu) (fun _ i _ => x.queries.length - (intOf i).toNat)
              case atStart => exact ⟨0, Nat.zero_le _, rfl, ⟨_, rfl⟩, Below.refl _ _⟩
              case round =>
                obtain ⟨j, hj, rfl, ⟨n4, rfl⟩, hbw⟩ := hrel
                by_cases hlt4 : j < x.queries.length
                · obtain ⟨bk, off, rfl, hbk⟩ := HLq2.out.base hbw hB5 (by omega)
                  obtain ⟨x, vs, hx, hlen, hcell, hr⟩ := HLq2.out.at_ hbw hB5 hlt4
                  obtain ⟨_, _, _, _, rfl, _, ⟨X0, y0, rfl, _⟩, ⟨X1, y1, rfl, _⟩, ⟨X2, y2, rfl, _⟩, ⟨X3, y3, rfl, _⟩⟩ := id hr
                  have p0 : wr.cell? ⟨bk, off + j * 5, none⟩ = some (.string x.head.name) := hcell 0 _ rfl
                  have p1 : wr.cell? ⟨bk, off + j * 5 + 1, none⟩ = some (.slice X0 x.head.terms.length y0) := hcell 1 _ rfl
                  have p2 : wr.cell? ⟨bk, off + j * 5 + 2, none⟩ = some (.slice X1 x.body.length y1) := hcell 2 _ rfl
                  have p3 : wr.cell? ⟨bk, off + j * 5 + 3, none⟩ = some (.slice X2 x.exprs.length y2) := hcell 3 _ rfl
                  have p4 : wr.cell? ⟨bk, off + j * 5 + 4, none⟩ = some (.slice X3 x.scopes.length y3) := hcell 4 _ rfl
                  have HBw := Lib.hid hbw
                  have HR := Lib.hid hr
                  have hszr := hbw.size
                  clear hcell hlen hx hr hbw
                  go_wp2_with fail
                  generalize hW2 : World.alloc _ _ = W3
                  obtain ⟨hb2, hz2⟩ := al1 hW2
                  clear hW2 p0 p1 p2 p3 p4
                  refine (weight_any (d := d) (B := B) (r := x) (vs := [_, _, _, _, _]) ((RuR d).keep hb2 (by omega) HR.out) (by omega)).mono ?_
                  rintro e w3 ⟨⟨m, rfl⟩, hb3⟩
                  have HB7 := Lib.hid (bthen HBw.out (bthen hb2 hb3))
                  have hfin := Lib.hid (bthen HB5.out HB7.out)
                  clear hb2 hb3 hz2
                  go_wp2_with fail
                  all_goals first
                    | (go_ret
                       exact ⟨⟨_, rfl⟩, hfin.out⟩)
                    | (go_roundw
                       case rel => exact ⟨j + 1, by omega, by go_num, ⟨_, rfl⟩, HB7.out⟩
                       case measure => simp [intOf]; omega)
                · have HB8 := Lib.hid (bthen HB6.out hbw)
                  clear hbw
                  go_wp2_with fail
                  go_roundw
                  case rel => exact ⟨k3 + 1, by omega, by go_num, ⟨_, rfl⟩, HB8.out⟩
                  case measure => simp [intOf]; omega
            · have hfin := Lib.hid (bthen HB4.out hbw)
              clear hbw
              go_wp2_with fail
              go_ret
              exact ⟨⟨_, rfl⟩, hfin.out⟩

set_option maxRecDepth 100000 in
set_option maxHeartbeats 2000000 in
theorem queriesN_any {d B : Nat} {l : List Ru} {v : Value} {w : World} (hl : RSl (RuR d) w B l v) (hB : B ≤ w.heap.size) :
    Calls Tryz.prog 7 #[v] w fun e w' => (∃ m : Int, e = .returned (.int .i64 m)) ∧ Below w.heap.size w w' := by
  have HL := Lib.hid hl
  obtain ⟨A, c, rfl, g, h, _⟩ := hl
  go_enter Tryz.func7, Tryz.ntmps7
  go_wp2_with fail
  refine (block_any (d := d) (B := B) (b := ⟨[], l, [], []⟩) (vs := [_, _, _, _]) (show (BkR d).rd w B ⟨[], l, [], []⟩ _ from ⟨_, _, _, _, rfl, rsl_nil _ _ _, HL.out, rsl_nil _ _ _, rsl_nil _ _ _⟩) hB).mono ?_
  rintro e w1 ⟨⟨m, rfl⟩, hb1⟩
  have HB := Lib.hid hb1
  clear hb1
  go_wp2_with fail
  go_ret
  exact ⟨⟨_, rfl⟩, HB.out⟩
end Go.Proofs.YtfknlghegchbkabGreat
