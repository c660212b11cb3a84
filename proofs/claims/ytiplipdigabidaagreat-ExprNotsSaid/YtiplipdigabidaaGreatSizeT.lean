/- viaticumlaw7.size, Size: they tell some number. -/
import Derived.Test.YtiplipdigabidaaGreatOpenT
set_option linter.unusedVariables false
set_option linter.unusedSimpArgs false
namespace Go.Proofs.YtiplipdigabidaaGreat
open Go.ChangeShapes Go.WideShapes Go.ChangeAt Go.RowKit

set_option maxRecDepth 100000 in
set_option maxHeartbeats 2000000 in
theorem size_any : ∀ (dp : Nat), dp ≤ 6 → ∀ (d B : Nat) (ts : List Tm) (A : Option Addr) (c : Nat) (n0 : Int) (w : World), RL (TmR d) w B ts A → B ≤ w.heap.size → ts.length ≤ 140737488351232 → 0 ≤ n0 → n0 < 100 →
    Calls Tryz.prog 58 #[.slice A ts.length c, .int .i64 n0, .int .i64 (dp : Int)] w fun e w' => (∃ m : Int, e = .returned (.int .i64 m) ∧ 0 ≤ m ∧ m ≤ 100) ∧ Below w.heap.size w w' := by
  intro dp
  induction dp with
  | zero =>
    intro _ d B ts A c n0 w hl hB hn h0 h1
    have hdp0 : ¬ (((0 : Nat) : Int) > 0) := by omega
    go_enter Tryz.func58, Tryz.ntmps58
    go_wp2_with fail
    go_loopw [1, 11] (fun v i wr => ∃ (k : Nat) (n : Int), k ≤ ts.length ∧ i = .int .i64 k ∧ v = .int .i64 n ∧ 0 ≤ n ∧ n < 100 ∧ Below w.heap.size w wr) (fun _ i _ => ts.length - (intOf i).toNat)
    case atStart => exact ⟨0, n0, Nat.zero_le _, rfl, rfl, h0, h1, Below.refl _ _⟩
    case round =>
      obtain ⟨k, n, hk, rfl, rfl, hn0, hn1, hbw⟩ := hrel
      by_cases hlt : k < ts.length
      · obtain ⟨b, off, rfl, hb⟩ := hl.base hbw hB (by omega)
        obtain ⟨t, vs, hx, hlen, hcell, hr⟩ := hl.at0 hbw hB hlt
        obtain ⟨Ax, cx, rfl, g1, g2, g3, g4, g5, hrl⟩ := RTm.cells hr
        have c0 : wr.cell? ⟨b, off + k * 4, none⟩ = some (.int .i64 t.kind) := hcell 0 _ rfl
        have c1 : wr.cell? ⟨b, off + k * 4 + 1, none⟩ = some (.int .i64 t.n) := hcell 1 _ rfl
        have c2 : wr.cell? ⟨b, off + k * 4 + 2, none⟩ = some (.string t.s) := hcell 2 _ rfl
        have c3 : wr.cell? ⟨b, off + k * 4 + 3, none⟩ = some (.slice Ax t.l.length cx) := hcell 3 _ rfl
        have hszr := hbw.size
        have HB := Lib.hid (fun o : Obj => hbw.alloc hszr o)
        clear hcell hlen hx hr
        go_wp2_with fail
        · go_ret
          exact ⟨⟨100, rfl, by omega, by omega⟩, HB.out _⟩
        · go_roundw
          case rel => exact ⟨k + 1, _, by omega, by go_num, rfl, by omega, by omega, HB.out _⟩
          case measure => simp [intOf]; omega
        · go_ret
          exact ⟨⟨100, rfl, by omega, by omega⟩, HB.out _⟩
      · go_wp2_with fail
        go_ret
        exact ⟨⟨n, rfl, hn0, by omega⟩, hbw⟩
  | succ dp ih =>
    intro hdp d B ts A c n0 w hl hB hn h0 h1
    have IH := Lib.hid (ih (by omega))
    clear ih
    have hdp0 : ((dp + 1 : Nat) : Int) > 0 := by omega
    have hdp1 : (((dp + 1 : Nat) : Int) == 0) = false := by simp; omega
    have hdp2 : ((dp + 1 : Nat) : Int) - 1 = (dp : Int) := by omega
    have hdp3 : ((dp + 1 : Nat) : Int) ≤ 6 := by omega
    have HDP := Lib.hid hdp2
    generalize hD : ((dp + 1 : Nat) : Int) = D at *
    clear hD hdp2
    go_enter Tryz.func58, Tryz.ntmps58
    go_wp2_with fail
    go_loopw [1, 11] (fun v i wr => ∃ (k : Nat) (n : Int), k ≤ ts.length ∧ i = .int .i64 k ∧ v = .int .i64 n ∧ 0 ≤ n ∧ n < 100 ∧ Below w.heap.size w wr) (fun _ i _ => ts.length - (intOf i).toNat)
    case atStart => exact ⟨0, n0, Nat.zero_le _, rfl, rfl, h0, h1, Below.refl _ _⟩
    case round =>
      obtain ⟨k, n, hk, rfl, rfl, hn0, hn1, hbw⟩ := hrel
      by_cases hlt : k < ts.length
      · obtain ⟨b, off, rfl, hb⟩ := hl.base hbw hB (by omega)
        obtain ⟨t, vs, hx, hlen, hcell, hr⟩ := hl.at0 hbw hB hlt
        obtain ⟨Ax, cx, rfl, g1, g2, g3, g4, g5, hrl⟩ := RTm.cells hr
        have c0 : wr.cell? ⟨b, off + k * 4, none⟩ = some (.int .i64 t.kind) := hcell 0 _ rfl
        have c1 : wr.cell? ⟨b, off + k * 4 + 1, none⟩ = some (.int .i64 t.n) := hcell 1 _ rfl
        have c2 : wr.cell? ⟨b, off + k * 4 + 2, none⟩ = some (.string t.s) := hcell 2 _ rfl
        have c3 : wr.cell? ⟨b, off + k * 4 + 3, none⟩ = some (.slice Ax t.l.length cx) := hcell 3 _ rfl
        have hszr := hbw.size
        have HB := Lib.hid (fun o : Obj => hbw.alloc hszr o)
        clear hcell hlen hx hr
        go_wp2_with fail
        · rw [HDP.out]
          refine (IH.out (d - 1) B t.l Ax cx _ _ ((RTms.rl hrl).keep (HB.out _) hB) (Nat.le_trans hB (HB.out _).size) (by omega) (by omega) (by omega)).mono ?_
          rintro e w1 ⟨⟨m, rfl, hm0, hm1⟩, hb1⟩
          have HB1 := Lib.hid ((HB.out _).trans (hb1.mono (HB.out _).size))
          clear hb1
          go_wp2_with fail
          · go_roundw
            case rel => exact ⟨k + 1, m, by omega, by go_num, rfl, by omega, by omega, HB1.out⟩
            case measure => simp [intOf]; omega
          · go_ret
            exact ⟨⟨100, rfl, by omega, by omega⟩, HB1.out⟩
        · go_ret
          exact ⟨⟨100, rfl, by omega, by omega⟩, HB.out _⟩
      · go_wp2_with fail
        go_ret
        exact ⟨⟨n, rfl, hn0, by omega⟩, hbw⟩

set_option maxRecDepth 100000 in
set_option maxHeartbeats 2000000 in
theorem bigSize_any {d B : Nat} {t : Tm} {vs : List Value} {w : World} (hr : RTm w B d t vs) (hB : B ≤ w.heap.size) :
    Calls Tryz.prog 29 #[.agg vs.toArray] w fun e w' => (∃ m : Int, e = .returned (.int .i64 m) ∧ 0 ≤ m ∧ m ≤ 100) ∧ Below w.heap.size w w' := by
  have HR := Lib.hid hr
  obtain ⟨Ax, cx, rfl, g1, g2, g3, g4, g5, hrl⟩ := RTm.cells hr
  have HB := Lib.hid (fun o : Obj => (Below.refl w.heap.size w).alloc (Nat.le_refl _) o)
  clear hr hrl
  go_enter Tryz.func29, Tryz.ntmps29
  go_wp2_with fail
  have HW := Lib.hid ((HB.out (.cells #[.int .i64 t.kind, .int .i64 t.n, .string t.s, .slice Ax t.l.length cx] 33)).trans ((Below.refl (w.alloc (.cells #[.int .i64 t.kind, .int .i64 t.n, .string t.s, .slice Ax t.l.length cx] 33)).heap.size (w.alloc (.cells #[.int .i64 t.kind, .int .i64 t.n, .string t.s, .slice Ax t.l.length cx] 33))).alloc (Nat.le_refl _) (.cells #[.int .i64 t.kind, .int .i64 t.n, .string t.s, .slice Ax t.l.length cx] 33) |>.mono (HB.out (.cells #[.int .i64 t.kind, .int .i64 t.n, .string t.s, .slice Ax t.l.length cx] 33)).size))
  have y0 : ((w.alloc (.cells #[.int .i64 t.kind, .int .i64 t.n, .string t.s, .slice Ax t.l.length cx] 33)).alloc (.cells #[.int .i64 t.kind, .int .i64 t.n, .string t.s, .slice Ax t.l.length cx] 33)).cell? ⟨w.heap.size + 1, 0, none⟩ = some (.int .i64 t.kind) := by go_simp
  have y1 : ((w.alloc (.cells #[.int .i64 t.kind, .int .i64 t.n, .string t.s, .slice Ax t.l.length cx] 33)).alloc (.cells #[.int .i64 t.kind, .int .i64 t.n, .string t.s, .slice Ax t.l.length cx] 33)).cell? ⟨w.heap.size + 1, 1, none⟩ = some (.int .i64 t.n) := by go_simp
  have y2 : ((w.alloc (.cells #[.int .i64 t.kind, .int .i64 t.n, .string t.s, .slice Ax t.l.length cx] 33)).alloc (.cells #[.int .i64 t.kind, .int .i64 t.n, .string t.s, .slice Ax t.l.length cx] 33)).cell? ⟨w.heap.size + 1, 2, none⟩ = some (.string t.s) := by go_simp
  have y3 : ((w.alloc (.cells #[.int .i64 t.kind, .int .i64 t.n, .string t.s, .slice Ax t.l.length cx] 33)).alloc (.cells #[.int .i64 t.kind, .int .i64 t.n, .string t.s, .slice Ax t.l.length cx] 33)).cell? ⟨w.heap.size + 1, 3, none⟩ = some (.slice Ax t.l.length cx) := by go_simp
  have ysz : w.heap.size + 1 < ((w.alloc (.cells #[.int .i64 t.kind, .int .i64 t.n, .string t.s, .slice Ax t.l.length cx] 33)).alloc (.cells #[.int .i64 t.kind, .int .i64 t.n, .string t.s, .slice Ax t.l.length cx] 33)).heap.size := by go_simp
  generalize ((w.alloc (.cells #[.int .i64 t.kind, .int .i64 t.n, .string t.s, .slice Ax t.l.length cx] 33)).alloc (.cells #[.int .i64 t.kind, .int .i64 t.n, .string t.s, .slice Ax t.l.length cx] 33)) = W at *
  have hl : RL (TmR d) W W.heap.size [t] (some ⟨w.heap.size + 1, 0, none⟩) := RL.one (x := t) ysz ((TmR d).wide (Nat.le_trans hB HW.out.size) ((TmR d).keep HW.out hB HR.out)) (fun j v hv => by
    rcases j with _ | _ | _ | _ | j
    · simp only [List.getElem?_cons_zero, Option.some.injEq] at hv; rw [← hv]; exact y0
    · simp only [List.getElem?_cons_succ, List.getElem?_cons_zero, Option.some.injEq] at hv; rw [← hv]; exact y1
    · simp only [List.getElem?_cons_succ, List.getElem?_cons_zero, Option.some.injEq] at hv; rw [← hv]; exact y2
    · simp only [List.getElem?_cons_succ, List.getElem?_cons_zero, Option.some.injEq] at hv; rw [← hv]; exact y3
    · simp at hv)
  refine (size_any 6 (by omega) d _ [t] _ 1 0 W hl (Nat.le_refl _) (by simp) (by omega) (by omega)).mono ?_
  rintro e w1 ⟨⟨m, rfl, hm0, hm1⟩, hb1⟩
  have HB1 := Lib.hid (HW.out.trans (hb1.mono HW.out.size))
  clear hb1
  go_wp2_with fail
  go_ret
  exact ⟨⟨m, rfl, hm0, hm1⟩, HB1.out⟩

end Go.Proofs.YtiplipdigabidaaGreat
