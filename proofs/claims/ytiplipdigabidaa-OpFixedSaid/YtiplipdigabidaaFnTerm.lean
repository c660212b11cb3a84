/- slices.IndexFunc, slices.ContainsFunc, rule.few at terms. Printed by wip/gen. -/
import Derived.Test.YtiplipdigabidaaRead
set_option linter.unusedVariables false
set_option linter.unusedSimpArgs false
namespace Go.Proofs.Ytiplipdigabidaa
open Go.ChangeShapes Go.WideShapes Go.ChangeAt Go.RowKit

set_option maxRecDepth 100000 in
set_option maxHeartbeats 1000000 in
theorem indexFuncTerm_any (d : Nat) (F : FuncId) (cap : Array Value) (p : Tm → Bool) (xs : List Tm) (A : Option Addr) (c B : Nat) (w : World)
    (hF : ∀ args (w : World), (callFunc F args).run Try.prog w = .ok (.enter F args) w) (hl : RL (TmR d) w B xs A) (hB : B ≤ w.heap.size) (hn : xs.length ≤ 140737488351232)
    (ht : Tells Try.prog (TmR d) aggOf B w F cap p) :
    Calls Try.prog 71 #[.slice A xs.length c, .func (.func F) #[] cap] w fun e w' => e = .returned (.int .i64 (idxF p xs)) ∧ Below w.heap.size w w' := by
  have HT := Lib.hid ht
  clear ht
  have hRk : (TmR d).k = 4 := rfl
  go_enter Try.func71, Try.ntmps71
  go_wp2_with fail
  go_loopw [8] (fun i wr => ∃ k : Nat, k ≤ xs.length ∧ i = .int .i64 k ∧ Below w.heap.size w wr ∧ ∀ i (hi : i < xs.length), i < k → p xs[i] = false) (fun i _ => xs.length - (intOf i).toNat)
  case atStart => exact ⟨0, Nat.zero_le _, rfl, Below.refl _ _, fun i hi h => absurd h (by omega)⟩
  case round =>
    obtain ⟨k, hk, rfl, hbw, hall⟩ := hrel
    have HA := Lib.hid hall
    clear hall
    by_cases hlt : k < xs.length
    · obtain ⟨b, off, rfl, hb⟩ := hl.base hbw hB (by omega)
      obtain ⟨x, vs, hx, hlen, hcell, hr⟩ := hl.at_ hbw hB hlt
      rw [hRk] at hlen hcell
      obtain ⟨v0, v1, v2, v3, rfl⟩ : ∃ v0 v1 v2 v3, vs = [v0, v1, v2, v3] := by
        match vs, hlen with
        | [v0, v1, v2, v3], _ => exact ⟨_, _, _, _, rfl⟩
      have c0 : wr.cell? ⟨b, off + k * 4, none⟩ = some v0 := hcell 0 _ rfl
      have c1 : wr.cell? ⟨b, off + k * 4 + 1, none⟩ = some v1 := hcell 1 _ rfl
      have c2 : wr.cell? ⟨b, off + k * 4 + 2, none⟩ = some v2 := hcell 2 _ rfl
      have c3 : wr.cell? ⟨b, off + k * 4 + 3, none⟩ = some v3 := hcell 3 _ rfl
      have hsz := hbw.size
      have HX := Lib.hid hx
      clear hcell hlen hx
      go_wp2_with fail
      refine (HT.out x [v0, v1, v2, v3] _ hbw hr).mono ?_
      rintro e w1 ⟨rfl, hb1⟩
      have hbw1 := Lib.hid (hbw.trans (hb1.mono hsz))
      clear hb1
      have hxe : xs[k] = x := (List.getElem?_eq_some_iff.1 HX.out).2
      have HXE := Lib.hid hxe
      clear hxe
      by_cases hp : p x = true
      · go_wp2_with fail
        go_ret
        exact ⟨ret_int (idxF_some hlt (by rw [HXE.out]; exact hp) (fun i hi => HA.out i (by omega) hi)).symm, hbw1.out⟩
      · have hp : p x = false := by simpa using hp
        go_wp2_with fail
        go_roundw
        case rel => exact ⟨k + 1, by omega, by go_num, hbw1.out, fun i hi h => by
          rcases Nat.lt_or_ge i k with h1 | h1
          · exact HA.out i hi h1
          · obtain rfl : i = k := by omega
            rw [HXE.out]; exact hp⟩
        case measure => simp [intOf]; omega
    · go_wp2_with fail
      go_ret
      exact ⟨ret_int (idxF_none (fun i hi => HA.out i hi (by omega))).symm, hbw⟩

set_option maxRecDepth 100000 in
theorem containsFuncTerm_any (d : Nat) (F : FuncId) (cap : Array Value) (p : Tm → Bool) (xs : List Tm) (A : Option Addr) (c B : Nat) (w : World)
    (hF : ∀ args (w : World), (callFunc F args).run Try.prog w = .ok (.enter F args) w) (hl : RL (TmR d) w B xs A) (hB : B ≤ w.heap.size) (hn : xs.length ≤ 140737488351232)
    (ht : Tells Try.prog (TmR d) aggOf B w F cap p) :
    Calls Try.prog 50 #[.slice A xs.length c, .func (.func F) #[] cap] w fun e w' => e = .returned (.bool (xs.any p)) ∧ Below w.heap.size w w' := by
  have HT := Lib.hid ht
  clear ht
  go_enter Try.func50, Try.ntmps50
  go_wp2_with (go_at_call 71; refine (indexFuncTerm_any d F cap p xs A c B w hF hl hB hn HT.out).mono ?_; rintro e w1 ⟨rfl, hb1⟩)
  go_ret
  exact ⟨ret_bool (idxF_any p xs), hb1⟩



end Go.Proofs.Ytiplipdigabidaa
