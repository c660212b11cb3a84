/- expr.True. -/
import Derived.Test.YtiplipdigabidaaGreatEval
import Derived.Test.YtiplipdigabidaaGreatEvLaw
set_option linter.unusedVariables false
set_option linter.unusedSimpArgs false
namespace Go.Proofs.YtiplipdigabidaaGreat
open Go.ChangeShapes Go.WideShapes Go.ChangeAt Go.RowKit

def evalE (b : Bd) (ops : List OpD) : Tm × Int := if (mayExprB ops && bindB b) = true then evalT b ops else (noT, 1)
theorem trueT_err {r : Tm × Int} (h : r.2 ≠ 0) : trueT r = (false, r.2) := by unfold trueT; rw [if_pos h]
theorem trueT_kind {r : Tm × Int} (h : r.2 = 0) (hk : r.1.kind ≠ 6) : trueT r = (false, 7) := by unfold trueT; rw [if_neg (by simp [h]), if_pos hk]
theorem trueT_is {r : Tm × Int} (h : r.2 = 0) (hk : r.1.kind = 6) : trueT r = (decide (r.1.n = 1), 0) := by unfold trueT; rw [if_neg (by simp [h]), if_neg (by simp [hk])]

set_option maxRecDepth 100000 in
set_option maxHeartbeats 4000000 in
theorem true_any {D B cn ct : Nat} {ops : List OpD} {evs : List Value} {b : Bd} {An At : Option Addr} {w : World} {m : Int} (he : (ExR (D + 1)).rd w B ops evs) (hn : RL StrR w B (b.names.map mkS) An) (ht : RL (TmR (D + 1)) w B b.terms At) (hB : B ≤ w.heap.size) (hm0 : w.cell? ⟨0, 0, none⟩ = some (.int .i64 m)) (h0 : 0 < w.heap.size) :
    Calls Tryz.prog 17 #[.agg evs.toArray, .agg (bdV An b.names.length cn At b.terms.length ct)] w fun e w' => e = .returned (.tuple #[.bool (trueT (evalE b ops)).1, .int .i64 (trueT (evalE b ops)).2]) ∧ Below w.heap.size w w' := by
  have HE := Lib.hid he
  have HN := Lib.hid hn
  have HT := Lib.hid ht
  have HM := Lib.hid hm0
  clear hn ht hm0
  obtain ⟨_, rfl, Ao, co, rfl, hc1, hc2, hl⟩ := he
  simp only [OpR] at hc2
  clear hl
  unfold bdV
  go_enter Tryz.func17, Tryz.ntmps17
  go_wp2_with fail
  generalize hW : World.alloc _ _ = w1
  obtain ⟨hb1, hz⟩ := al2 hW
  have HB1 := Lib.hid hb1
  clear hW
  refine (eval_any (evs := [_]) (D := D) (cn := cn) (ct := ct) ((ExR (D + 1)).keep hb1 hB HE.out) (HN.out.keep hb1 hB) (HT.out.keep hb1 hB) (Nat.le_trans hB hb1.size) ((hb1.cell (p := ⟨0, 0, none⟩) h0).trans HM.out) (Nat.lt_of_lt_of_le h0 hb1.size)).mono ?_
  rintro z w2 ⟨⟨A, c, rfl, hrd⟩, hb⟩
  have HB2 := Lib.hid (bthen HB1.out hb)
  clear hb hb1 hrd
  have hev : (if (mayExprB ops && bindB b) = true then evalT b ops else (noT, 1)) = evalE b ops := rfl
  rw [hev]
  clear hev
  generalize hr : evalE b ops = r
  have HRR := Lib.hid hr
  clear hr
  go_upto_region 2 with fail
  generalize hW : World.alloc _ _ = w3
  obtain ⟨hb, hz3⟩ := al1 hW
  have b_t := n11 hW
  have HB3 := Lib.hid (bthen HB2.out hb)
  clear hb hW
  have k_t := b_t.cell
  by_cases he : r.2 = 0
  · have p1 : (r.2 != 0) = false := by simp [he]
    by_cases hk : r.1.kind = 6
    · have p2 : (r.1.kind != 6) = false := by simp [hk]
      have HR := Lib.hid (trueT_is he hk)
      clear he hk
      go_wp2_with fail
      go_ret2
      rw [HRR.out, HR.out]
      exact ⟨rfl, HB3.out⟩
    · have p2 : (r.1.kind != 6) = true := by simpa using hk
      have HR := Lib.hid (trueT_kind he hk)
      clear he hk
      go_wp2_with fail
      go_ret2
      rw [HRR.out, HR.out]
      exact ⟨rfl, HB3.out⟩
  · have p1 : (r.2 != 0) = true := by simpa using he
    have HR := Lib.hid (trueT_err he)
    clear he
    go_wp2_with fail
    go_ret2
    rw [HRR.out, HR.out]
    exact ⟨rfl, HB3.out⟩
end Go.Proofs.YtiplipdigabidaaGreat
