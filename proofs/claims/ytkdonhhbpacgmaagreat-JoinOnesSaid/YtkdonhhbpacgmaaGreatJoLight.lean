/- viaticumlaw19.lightBind: it tells some Bool. -/
import Derived.Test.YtkdonhhbpacgmaaGreatSize
import Derived.Test.YtkdonhhbpacgmaaGreatFound
set_option linter.unusedVariables false
set_option linter.unusedSimpArgs false
namespace Go.Proofs.YtkdonhhbpacgmaaGreat
open Go.ChangeShapes Go.WideShapes Go.ChangeAt Go.RowKit
set_option maxRecDepth 100000 in
set_option maxHeartbeats 2000000 in
theorem lightBind19_any {d B cn ct : Nat} {b : Bd} {An At : Option Addr} {w : World} (hn : b.names.length * 8 ≤ 140737488351232) (ht : RL (TmR d) w B b.terms At) (ht1 : b.terms.length * 32 ≤ 140737488351232) (hB : B ≤ w.heap.size) :
   Calls Tryz.prog 6 #[.agg (bdV An b.names.length cn At b.terms.length ct)] w fun z w' => (∃ q : Bool, z = .returned (.bool q)) ∧ Below w.heap.size w w' := by
 have HT := Lib.hid ht
 clear ht
 unfold bdV
 go_enter Tryz.func6, Tryz.ntmps6
 go_wp2_with fail
 go_loopw [3, 12] (fun v i wr => ∃ (k : Nat) (n : Int), k ≤ b.terms.length ∧ i = .int .i64 k ∧ v = .int .i64 n ∧ 0 ≤ n ∧ n ≤ 140737488351232 ∧ Below w.heap.size w wr) (fun _ i _ => b.terms.length - (intOf i).toNat)
 case atStart => exact ⟨0, _, Nat.zero_le _, rfl, rfl, by omega, by omega, below_new rfl⟩
 case round =>
   obtain ⟨k, n, hk, rfl, rfl, hn0, hn1, hbw⟩ := hrel
   by_cases hlt : k < b.terms.length
   · obtain ⟨bt, ot, rfl, hob⟩ := HT.out.base hbw hB (by omega)
     obtain ⟨t, vs, hx, hlen, hcell, hr⟩ := HT.out.at_ hbw hB hlt
     have hr' := hr
     obtain ⟨Ax, cx, rfl, g1, g2, g3, g4, g5, _⟩ := RTm.cells hr'
     have c0 : wr.cell? ⟨bt, ot + k * 4, none⟩ = some (.int .i64 t.kind) := hcell 0 _ rfl
     have c1 : wr.cell? ⟨bt, ot + k * 4 + 1, none⟩ = some (.int .i64 t.n) := hcell 1 _ rfl
     have c2 : wr.cell? ⟨bt, ot + k * 4 + 2, none⟩ = some (.string t.s) := hcell 2 _ rfl
     have c3 : wr.cell? ⟨bt, ot + k * 4 + 3, none⟩ = some (.slice Ax t.l.length cx) := hcell 3 _ rfl
     have hszr := hbw.size
     have HR := Lib.hid hr
     have HBW := Lib.hid hbw
     have hBr : B ≤ wr.heap.size := Nat.le_trans hB hszr
     clear hcell hlen hx hr hr' hbw
     go_wp2_with fail
     generalize hW : World.alloc _ _ = W
     obtain ⟨hb1, hz⟩ := al1 hW
     have HB1 := Lib.hid hb1
     clear hW hb1 c0 c1 c2 c3
     refine (bigSize_any (d := d) (B := B) (t := t) (vs := [_, _, _, _]) ((TmR d).keep HB1.out hBr HR.out) (Nat.le_trans hBr HB1.out.size)).mono ?_
     rintro z w3 ⟨⟨m, rfl, hm0, hm1⟩, hb3⟩
     have HB3 := Lib.hid (bthen HBW.out (bthen HB1.out hb3))
     clear hb3
     go_wp2_with fail
     · go_ret
       exact ⟨⟨false, rfl⟩, HB3.out⟩
     · go_roundw
       case rel => exact ⟨k + 1, n + m, by omega, by go_num, by go_num, by omega, by omega, HB3.out⟩
       case measure => simp [intOf]; omega
   · go_wp2_with fail
     go_ret
     exact ⟨⟨_, rfl⟩, hbw⟩
end Go.Proofs.YtkdonhhbpacgmaaGreat
