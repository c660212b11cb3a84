/- viaticumlaw12.light, lightBind: they tell some Bool. -/
import Derived.Test.YtiplipdigabidaaGreatSizeT
import Derived.Test.YtiplipdigabidaaGreatFound
import Derived.Test.YtiplipdigabidaaGreatExpr3
set_option linter.unusedVariables false
set_option linter.unusedSimpArgs false
namespace Go.Proofs.YtiplipdigabidaaGreat
open Go.ChangeShapes Go.WideShapes Go.ChangeAt Go.RowKit

set_option maxRecDepth 100000 in
set_option maxHeartbeats 2000000 in
theorem light12_any {d B : Nat} {e : List OpD} {vs : List Value} {w : World} (he : (ExR d).rd w B e vs) (hB : B ≤ w.heap.size) :
    Calls Tryz.prog 9 #[.agg vs.toArray] w fun z w' => (∃ q : Bool, z = .returned (.bool q)) ∧ Below w.heap.size w w' := by
  obtain ⟨_, rfl, A, c, rfl, hc1, hc2, hl⟩ := he
  have HL := Lib.hid hl
  simp only [OpR] at hc2
  clear hl
  by_cases hn : e.length ≤ 100
  · have hn' : decide ((e.length : Int) > 100) = false := by simp; omega
    go_enter Tryz.func9, Tryz.ntmps9
    go_wp2_with fail
    go_loopw [12] (fun i wr => ∃ k : Nat, k ≤ e.length ∧ i = .int .i64 k ∧ Below w.heap.size w wr) (fun i _ => e.length - (intOf i).toNat)
    case atStart => exact ⟨0, Nat.zero_le _, rfl, below_new rfl⟩
    case round =>
      obtain ⟨k, hk, rfl, hbw⟩ := hrel
      by_cases hlt : k < e.length
      · obtain ⟨bo, oo, rfl, hob⟩ := HL.out.base hbw hB (by omega)
        obtain ⟨o, vs, ho, hlen, hcell, hr⟩ := HL.out.at_ hbw hB hlt
        obtain ⟨Aq, cq, rfl, _, _, _, ht⟩ := OpR.cells (show (OpR d).rd wr B o vs from hr)
        have d0 : wr.cell? ⟨bo, oo + k * 7, none⟩ = some (.int .i64 o.kind) := hcell 0 _ rfl
        have d1 : wr.cell? ⟨bo, oo + k * 7 + 1, none⟩ = some (.int .i64 o.term.kind) := hcell 1 _ rfl
        have d2 : wr.cell? ⟨bo, oo + k * 7 + 2, none⟩ = some (.int .i64 o.term.n) := hcell 2 _ rfl
        have d3 : wr.cell? ⟨bo, oo + k * 7 + 3, none⟩ = some (.string o.term.s) := hcell 3 _ rfl
        have d4 : wr.cell? ⟨bo, oo + k * 7 + 4, none⟩ = some (.slice Aq o.term.l.length cq) := hcell 4 _ rfl
        have d5 : wr.cell? ⟨bo, oo + k * 7 + 5, none⟩ = some (.int .i64 o.code) := hcell 5 _ rfl
        have d6 : wr.cell? ⟨bo, oo + k * 7 + 6, none⟩ = some (.int .i64 o.skip) := hcell 6 _ rfl
        have hszr := hbw.size
        have HR := Lib.hid ht
        have HBW := Lib.hid hbw
        have hBr : B ≤ wr.heap.size := Nat.le_trans hB hszr
        clear hcell hlen ho hr ht hbw
        go_wp2_with fail
        generalize hW : World.alloc _ _ = W
        obtain ⟨hb1, hz⟩ := al1 hW
        have HB1 := Lib.hid hb1
        clear hW hb1 d0 d1 d2 d3 d4 d5 d6
        refine (bigSize_any (d := d) (B := B) (t := o.term) (vs := [_, _, _, _]) ((TmR d).keep HB1.out hBr HR.out) (Nat.le_trans hBr HB1.out.size)).mono ?_
        rintro z w3 ⟨⟨m, rfl, hm0, hm1⟩, hb3⟩
        have HB3 := Lib.hid (bthen HBW.out (bthen HB1.out hb3))
        clear hb3
        go_wp2_with fail
        · go_ret
          exact ⟨⟨false, rfl⟩, HB3.out⟩
        · go_roundw
          case rel => exact ⟨k + 1, by omega, by go_num, HB3.out⟩
          case measure => simp [intOf]; omega
      · go_wp2_with fail
        go_ret
        exact ⟨⟨true, rfl⟩, hbw⟩
  · have hn' : decide ((e.length : Int) > 100) = true := by simp; omega
    go_enter Tryz.func9, Tryz.ntmps9
    go_wp2_with fail
    go_ret
    exact ⟨⟨false, rfl⟩, below_new rfl⟩

set_option maxRecDepth 100000 in
set_option maxHeartbeats 2000000 in
theorem lightBind_any {d B cn ct : Nat} {b : Bd} {An At : Option Addr} {w : World} (hn : b.names.length * 8 ≤ 140737488351232) (ht : RL (TmR d) w B b.terms At) (ht1 : b.terms.length * 32 ≤ 140737488351232) (hB : B ≤ w.heap.size) :
    Calls Tryz.prog 10 #[.agg (bdV An b.names.length cn At b.terms.length ct)] w fun z w' => (∃ q : Bool, z = .returned (.bool q)) ∧ Below w.heap.size w w' := by
  have HT := Lib.hid ht
  clear ht
  unfold bdV
  go_enter Tryz.func10, Tryz.ntmps10
  go_wp2_with fail
  go_loopw [3, 12] (fun v i wr => ∃ (k : Nat) (n : Int), k ≤ b.terms.length ∧ i = .int .i64 k ∧ v = .int .i64 n ∧ 0 ≤ n ∧ n ≤ 140737488351232 ∧ Below w.heap.size w wr) (fun _ i _ => b.terms.length - (intOf i).toNat)
  case atStart => exact ⟨0, _, Nat.zero_le _, rfl, rfl, by omega, by omega, below_new rfl⟩
  case round =>
    obtain ⟨k, n, hk, rfl, rfl, hn0, hn1, hbw⟩ := hrel
    by_cases hlt : k < b.terms.length
    · obtain ⟨bt, ot, rfl, hob⟩ := HT.out.base hbw hB (by omega)
      obtain ⟨t, vs, hx, hlen, hcell, hr⟩ := HT.out.at_ hbw hB hlt
      have hr' := hr
      obtain ⟨Ax, cx, rfl, g1, g2, g3, g4, g5, _⟩ := RTm.cells hr'
      have c0 : wr.cell? ⟨bt, ot + k * 4, none⟩ = some (.int .i64 t.kind) := hcell 0 _ rfl
      have c1 : wr.cell? ⟨bt, ot + k * 4 + 1, none⟩ = some (.int .i64 t.n) := hcell 1 _ rfl
      have c2 : wr.cell? ⟨bt, ot + k * 4 + 2, none⟩ = some (.string t.s) := hcell 2 _ rfl
      have c3 : wr.cell? ⟨bt, ot + k * 4 + 3, none⟩ = some (.slice Ax t.l.length cx) := hcell 3 _ rfl
      have hszr := hbw.size
      have HR := Lib.hid hr
      have HBW := Lib.hid hbw
      have hBr : B ≤ wr.heap.size := Nat.le_trans hB hszr
      clear hcell hlen hx hr hr' hbw
      go_wp2_with fail
      generalize hW : World.alloc _ _ = W
      obtain ⟨hb1, hz⟩ := al1 hW
      have HB1 := Lib.hid hb1
      clear hW hb1 c0 c1 c2 c3
      refine (bigSize_any (d := d) (B := B) (t := t) (vs := [_, _, _, _]) ((TmR d).keep HB1.out hBr HR.out) (Nat.le_trans hBr HB1.out.size)).mono ?_
      rintro z w3 ⟨⟨m, rfl, hm0, hm1⟩, hb3⟩
      have HB3 := Lib.hid (bthen HBW.out (bthen HB1.out hb3))
      clear hb3
      go_wp2_with fail
      · go_ret
        exact ⟨⟨false, rfl⟩, HB3.out⟩
      · go_roundw
        case rel => exact ⟨k + 1, n + m, by omega, by go_num, by go_num, by omega, by omega, HB3.out⟩
        case measure => simp [intOf]; omega
    · go_wp2_with fail
      go_ret
      exact ⟨⟨_, rfl⟩, hbw⟩
end Go.Proofs.YtiplipdigabidaaGreat
