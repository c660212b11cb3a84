/- slices.EqualFunc at each element type. Printed by wip/gen/mk_eq.py. -/
import Derived.Test.YtfknlghegchbkabGreatOwn
set_option linter.unusedVariables false
set_option linter.unusedSimpArgs false
namespace Go.Proofs.YtfknlghegchbkabGreat
open Go.ChangeShapes Go.WideShapes Go.ChangeAt Go.RowKit

def eqL {α : Type} (f : α → α → Bool) : List α → List α → Bool
  | [], [] => true
  | x :: xs, y :: ys => f x y && eqL f xs ys
  | _, _ => false
theorem eqL_len {α : Type} {f : α → α → Bool} : ∀ {xs ys : List α}, xs.length ≠ ys.length → eqL f xs ys = false
  | [], [], h => absurd rfl h
  | [], _ :: _, _ => rfl
  | _ :: _, [], _ => rfl
  | x :: xs, y :: ys, h => by rw [eqL, eqL_len (xs := xs) (ys := ys) (by simpa using h), Bool.and_false]
theorem eqL_refl {α : Type} {f : α → α → Bool} (hf : ∀ x, f x x = true) : ∀ (xs : List α), eqL f xs xs = true
  | [] => rfl
  | x :: xs => by rw [eqL, hf, eqL_refl hf xs]; rfl

set_option maxRecDepth 100000 in
set_option maxHeartbeats 2000000 in
theorem equalFuncTerm_any (d : Nat) (F : FuncId) (cap : Array Value) (f : Tm → Tm → Bool) (xs ys : List Tm) (A A' : Option Addr) (c c' B : Nat) (w : World)
    (hF : ∀ args (w : World), (callFunc F args).run Tryz.prog w = .ok (.enter F args) w) (hl : RL (TmR d) w B xs A) (hl' : RL (TmR d) w B ys A') (hB : B ≤ w.heap.size) (hn : xs.length ≤ 140737488351232) (hn' : ys.length ≤ 140737488351232)
    (hf : ∀ (x y : Tm) (vs us : List Value) (w1 : World), Below w.heap.size w w1 → (TmR d).rd w1 B x vs → (TmR d).rd w1 B y us →
      Calls Tryz.prog F (#[.agg vs.toArray, .agg us.toArray] ++ cap) w1 fun e w' => e = .returned (.bool (f x y)) ∧ Below w1.heap.size w1 w') :
    Calls Tryz.prog 79 #[.slice A xs.length c, .slice A' ys.length c', .func (.func F) #[] cap] w fun e w' => e = .returned (.bool (eqL f xs ys)) ∧ Below w.heap.size w w' := by
  have HF := Lib.hid hf
  clear hf
  have hRk : (TmR d).k = 4 := rfl
  by_cases hne : xs.length = ys.length
  rotate_left
  · have h1 : ((xs.length : Int) != (ys.length : Int)) = true := by simp; omega
    have HN := Lib.hid hne
    clear hne
    go_enter Tryz.func79, Tryz.ntmps79
    go_wp2_with fail
    go_ret
    exact ⟨ret_bool (eqL_len HN.out).symm, Below.refl _ _⟩
  have h1 : ((xs.length : Int) != (ys.length : Int)) = false := by simp; omega
  have HN := Lib.hid hne
  clear hne
  go_enter Tryz.func79, Tryz.ntmps79
  go_wp2_with fail
  go_loopw [17] (fun i wr => ∃ k : Nat, k ≤ xs.length ∧ i = .int .i64 k ∧ Below w.heap.size w wr ∧ Hid (eqL f xs ys = eqL f (xs.drop k) (ys.drop k))) (fun i _ => xs.length - (intOf i).toNat)
  case atStart => exact ⟨0, Nat.zero_le _, rfl, Below.refl _ _, rfl⟩
  case round =>
    obtain ⟨k, hk, rfl, hbw, HE⟩ := hrel
    by_cases hlt : k < xs.length
    · have hlt2 : k < ys.length := by have := HN.out; omega
      obtain ⟨b, off, rfl, hb⟩ := hl.base hbw hB (by omega)
      obtain ⟨b', off', rfl, hb'⟩ := hl'.base hbw hB (by omega)
      obtain ⟨x, vs, hx, hlen, hcell, hr⟩ := hl.at_ hbw hB hlt
      obtain ⟨A0x, c0x, rfl, _⟩ := RTm.cells hr
      have p0 : wr.cell? ⟨b, off + k * 4, none⟩ = some (.int .i64 x.kind) := by have := hcell 0 _ rfl; simpa [hRk] using this
      have p1 : wr.cell? ⟨b, off + k * 4 + 1, none⟩ = some (.int .i64 x.n) := by have := hcell 1 _ rfl; simpa [hRk] using this
      have p2 : wr.cell? ⟨b, off + k * 4 + 2, none⟩ = some (.string x.s) := by have := hcell 2 _ rfl; simpa [hRk] using this
      have p3 : wr.cell? ⟨b, off + k * 4 + 3, none⟩ = some (.slice A0x x.l.length c0x) := by have := hcell 3 _ rfl; simpa [hRk] using this
      clear hcell hlen
      obtain ⟨y, vs, hy, hlen, hcell, hr'⟩ := hl'.at_ hbw hB hlt2
      obtain ⟨A0y, c0y, rfl, _⟩ := RTm.cells hr'
      have e0 : wr.cell? ⟨b', off' + k * 4, none⟩ = some (.int .i64 y.kind) := by have := hcell 0 _ rfl; simpa [hRk] using this
      have e1 : wr.cell? ⟨b', off' + k * 4 + 1, none⟩ = some (.int .i64 y.n) := by have := hcell 1 _ rfl; simpa [hRk] using this
      have e2 : wr.cell? ⟨b', off' + k * 4 + 2, none⟩ = some (.string y.s) := by have := hcell 2 _ rfl; simpa [hRk] using this
      have e3 : wr.cell? ⟨b', off' + k * 4 + 3, none⟩ = some (.slice A0y y.l.length c0y) := by have := hcell 3 _ rfl; simpa [hRk] using this
      clear hcell hlen
      have HE2 : Hid (eqL f xs ys = (f x y && eqL f (xs.drop (k + 1)) (ys.drop (k + 1)))) := by
        obtain ⟨h1, h2⟩ := List.getElem?_eq_some_iff.1 hx
        obtain ⟨h3, h4⟩ := List.getElem?_eq_some_iff.1 hy
        have := HE.out
        rw [List.drop_eq_getElem_cons h1, List.drop_eq_getElem_cons h3, h2, h4] at this
        exact this
      have HRR := Lib.hid (And.intro hr hr')
      have HBw := Lib.hid hbw
      have hszr := hbw.size
      clear hx hy hr hr' HE hbw
      go_wp2_with fail
      generalize hW2 : World.alloc _ _ = W2
      obtain ⟨hb2, hz2⟩ := al2 hW2
      clear hW2 p0 e0 p1 e1 p2 e2 p3 e3
      refine (HF.out x y [_, _, _, _] [_, _, _, _] W2 (bthen HBw.out hb2) ((TmR d).keep hb2 (by omega) HRR.out.1) ((TmR d).keep hb2 (by omega) HRR.out.2)).mono ?_
      rintro e w3 ⟨rfl, hb3⟩
      have HB3 := Lib.hid (bthen HBw.out (bthen hb2 hb3))
      clear hb2 hb3 hz2
      by_cases hp : f x y = true
      · rw [hp] at HE2
        rw [hp]
        clear hp
        go_wp2_with fail
        go_roundw
        case rel => exact ⟨k + 1, by omega, by go_num, HB3.out, by have := HE2.out; rw [Bool.true_and] at this; exact this⟩
        case measure => simp [intOf]; omega
      · simp only [Bool.not_eq_true] at hp
        rw [hp] at HE2
        rw [hp]
        clear hp
        go_wp2_with fail
        go_ret
        exact ⟨ret_bool (by rw [HE2.out]; rfl), HB3.out⟩
    · have HE2 : Hid (eqL f xs ys = true) := by
        have := HE.out
        rw [List.drop_eq_nil_iff.2 (show xs.length ≤ k by omega), List.drop_eq_nil_iff.2 (show ys.length ≤ k by have := HN.out; omega)] at this
        exact this
      clear HE
      go_wp2_with fail
      go_ret
      exact ⟨ret_bool HE2.out.symm, hbw⟩

set_option maxRecDepth 100000 in
set_option maxHeartbeats 2000000 in
theorem equalFuncOp_any (d : Nat) (F : FuncId) (cap : Array Value) (f : OpD → OpD → Bool) (xs ys : List OpD) (A A' : Option Addr) (c c' B : Nat) (w : World)
    (hF : ∀ args (w : World), (callFunc F args).run Tryz.prog w = .ok (.enter F args) w) (hl : RL (OpR d) w B xs A) (hl' : RL (OpR d) w B ys A') (hB : B ≤ w.heap.size) (hn : xs.length ≤ 140737488351232) (hn' : ys.length ≤ 140737488351232)
    (hf : ∀ (x y : OpD) (vs us : List Value) (w1 : World), Below w.heap.size w w1 → (OpR d).rd w1 B x vs → (OpR d).rd w1 B y us →
      Calls Tryz.prog F (#[.agg vs.toArray, .agg us.toArray] ++ cap) w1 fun e w' => e = .returned (.bool (f x y)) ∧ Below w1.heap.size w1 w') :
    Calls Tryz.prog 108 #[.slice A xs.length c, .slice A' ys.length c', .func (.func F) #[] cap] w fun e w' => e = .returned (.bool (eqL f xs ys)) ∧ Below w.heap.size w w' := by
  have HF := Lib.hid hf
  clear hf
  have hRk : (OpR d).k = 7 := rfl
  by_cases hne : xs.length = ys.length
  rotate_left
  · have h1 : ((xs.length : Int) != (ys.length : Int)) = true := by simp; omega
    have HN := Lib.hid hne
    clear hne
    go_enter Tryz.func108, Tryz.ntmps108
    go_wp2_with fail
    go_ret
    exact ⟨ret_bool (eqL_len HN.out).symm, Below.refl _ _⟩
  have h1 : ((xs.length : Int) != (ys.length : Int)) = false := by simp; omega
  have HN := Lib.hid hne
  clear hne
  go_enter Tryz.func108, Tryz.ntmps108
  go_wp2_with fail
  go_loopw [17] (fun i wr => ∃ k : Nat, k ≤ xs.length ∧ i = .int .i64 k ∧ Below w.heap.size w wr ∧ Hid (eqL f xs ys = eqL f (xs.drop k) (ys.drop k))) (fun i _ => xs.length - (intOf i).toNat)
  case atStart => exact ⟨0, Nat.zero_le _, rfl, Below.refl _ _, rfl⟩
  case round =>
    obtain ⟨k, hk, rfl, hbw, HE⟩ := hrel
    by_cases hlt : k < xs.length
    · have hlt2 : k < ys.length := by have := HN.out; omega
      obtain ⟨b, off, rfl, hb⟩ := hl.base hbw hB (by omega)
      obtain ⟨b', off', rfl, hb'⟩ := hl'.base hbw hB (by omega)
      obtain ⟨x, vs, hx, hlen, hcell, hr⟩ := hl.at_ hbw hB hlt
      obtain ⟨_, rfl, _, _, _, htx⟩ := id hr
      obtain ⟨A0x, c0x, rfl, _⟩ := RTm.cells htx
      clear htx
      have p0 : wr.cell? ⟨b, off + k * 7, none⟩ = some (.int .i64 x.kind) := by have := hcell 0 _ rfl; simpa [hRk] using this
      have p1 : wr.cell? ⟨b, off + k * 7 + 1, none⟩ = some (.int .i64 x.term.kind) := by have := hcell 1 _ rfl; simpa [hRk] using this
      have p2 : wr.cell? ⟨b, off + k * 7 + 2, none⟩ = some (.int .i64 x.term.n) := by have := hcell 2 _ rfl; simpa [hRk] using this
      have p3 : wr.cell? ⟨b, off + k * 7 + 3, none⟩ = some (.string x.term.s) := by have := hcell 3 _ rfl; simpa [hRk] using this
      have p4 : wr.cell? ⟨b, off + k * 7 + 4, none⟩ = some (.slice A0x x.term.l.length c0x) := by have := hcell 4 _ rfl; simpa [hRk] using this
      have p5 : wr.cell? ⟨b, off + k * 7 + 5, none⟩ = some (.int .i64 x.code) := by have := hcell 5 _ rfl; simpa [hRk] using this
      have p6 : wr.cell? ⟨b, off + k * 7 + 6, none⟩ = some (.int .i64 x.skip) := by have := hcell 6 _ rfl; simpa [hRk] using this
      clear hcell hlen
      obtain ⟨y, vs, hy, hlen, hcell, hr'⟩ := hl'.at_ hbw hB hlt2
      obtain ⟨_, rfl, _, _, _, hty⟩ := id hr'
      obtain ⟨A0y, c0y, rfl, _⟩ := RTm.cells hty
      clear hty
      have e0 : wr.cell? ⟨b', off' + k * 7, none⟩ = some (.int .i64 y.kind) := by have := hcell 0 _ rfl; simpa [hRk] using this
      have e1 : wr.cell? ⟨b', off' + k * 7 + 1, none⟩ = some (.int .i64 y.term.kind) := by have := hcell 1 _ rfl; simpa [hRk] using this
      have e2 : wr.cell? ⟨b', off' + k * 7 + 2, none⟩ = some (.int .i64 y.term.n) := by have := hcell 2 _ rfl; simpa [hRk] using this
      have e3 : wr.cell? ⟨b', off' + k * 7 + 3, none⟩ = some (.string y.term.s) := by have := hcell 3 _ rfl; simpa [hRk] using this
      have e4 : wr.cell? ⟨b', off' + k * 7 + 4, none⟩ = some (.slice A0y y.term.l.length c0y) := by have := hcell 4 _ rfl; simpa [hRk] using this
      have e5 : wr.cell? ⟨b', off' + k * 7 + 5, none⟩ = some (.int .i64 y.code) := by have := hcell 5 _ rfl; simpa [hRk] using this
      have e6 : wr.cell? ⟨b', off' + k * 7 + 6, none⟩ = some (.int .i64 y.skip) := by have := hcell 6 _ rfl; simpa [hRk] using this
      clear hcell hlen
      have HE2 : Hid (eqL f xs ys = (f x y && eqL f (xs.drop (k + 1)) (ys.drop (k + 1)))) := by
        obtain ⟨h1, h2⟩ := List.getElem?_eq_some_iff.1 hx
        obtain ⟨h3, h4⟩ := List.getElem?_eq_some_iff.1 hy
        have := HE.out
        rw [List.drop_eq_getElem_cons h1, List.drop_eq_getElem_cons h3, h2, h4] at this
        exact this
      have HRR := Lib.hid (And.intro hr hr')
      have HBw := Lib.hid hbw
      have hszr := hbw.size
      clear hx hy hr hr' HE hbw
      go_wp2_with fail
      generalize hW2 : World.alloc _ _ = W2
      obtain ⟨hb2, hz2⟩ := al2 hW2
      clear hW2 p0 e0 p1 e1 p2 e2 p3 e3 p4 e4 p5 e5 p6 e6
      refine (HF.out x y [_, _, _, _, _, _, _] [_, _, _, _, _, _, _] W2 (bthen HBw.out hb2) ((OpR d).keep hb2 (by omega) HRR.out.1) ((OpR d).keep hb2 (by omega) HRR.out.2)).mono ?_
      rintro e w3 ⟨rfl, hb3⟩
      have HB3 := Lib.hid (bthen HBw.out (bthen hb2 hb3))
      clear hb2 hb3 hz2
      by_cases hp : f x y = true
      · rw [hp] at HE2
        rw [hp]
        clear hp
        go_wp2_with fail
        go_roundw
        case rel => exact ⟨k + 1, by omega, by go_num, HB3.out, by have := HE2.out; rw [Bool.true_and] at this; exact this⟩
        case measure => simp [intOf]; omega
      · simp only [Bool.not_eq_true] at hp
        rw [hp] at HE2
        rw [hp]
        clear hp
        go_wp2_with fail
        go_ret
        exact ⟨ret_bool (by rw [HE2.out]; rfl), HB3.out⟩
    · have HE2 : Hid (eqL f xs ys = true) := by
        have := HE.out
        rw [List.drop_eq_nil_iff.2 (show xs.length ≤ k by omega), List.drop_eq_nil_iff.2 (show ys.length ≤ k by have := HN.out; omega)] at this
        exact this
      clear HE
      go_wp2_with fail
      go_ret
      exact ⟨ret_bool HE2.out.symm, hbw⟩

set_option maxRecDepth 100000 in
set_option maxHeartbeats 2000000 in
theorem equalFuncExpr_any (d : Nat) (F : FuncId) (cap : Array Value) (f : (List OpD) → (List OpD) → Bool) (xs ys : List (List OpD)) (A A' : Option Addr) (c c' B : Nat) (w : World)
    (hF : ∀ args (w : World), (callFunc F args).run Tryz.prog w = .ok (.enter F args) w) (hl : RL (ExR d) w B xs A) (hl' : RL (ExR d) w B ys A') (hB : B ≤ w.heap.size) (hn : xs.length ≤ 140737488351232) (hn' : ys.length ≤ 140737488351232)
    (hf : ∀ (x y : (List OpD)) (vs us : List Value) (w1 : World), Below w.heap.size w w1 → (ExR d).rd w1 B x vs → (ExR d).rd w1 B y us →
      Calls Tryz.prog F (#[.agg vs.toArray, .agg us.toArray] ++ cap) w1 fun e w' => e = .returned (.bool (f x y)) ∧ Below w1.heap.size w1 w') :
    Calls Tryz.prog 81 #[.slice A xs.length c, .slice A' ys.length c', .func (.func F) #[] cap] w fun e w' => e = .returned (.bool (eqL f xs ys)) ∧ Below w.heap.size w w' := by
  have HF := Lib.hid hf
  clear hf
  have hRk : (ExR d).k = 1 := rfl
  by_cases hne : xs.length = ys.length
  rotate_left
  · have h1 : ((xs.length : Int) != (ys.length : Int)) = true := by simp; omega
    have HN := Lib.hid hne
    clear hne
    go_enter Tryz.func81, Tryz.ntmps81
    go_wp2_with fail
    go_ret
    exact ⟨ret_bool (eqL_len HN.out).symm, Below.refl _ _⟩
  have h1 : ((xs.length : Int) != (ys.length : Int)) = false := by simp; omega
  have HN := Lib.hid hne
  clear hne
  go_enter Tryz.func81, Tryz.ntmps81
  go_wp2_with fail
  go_loopw [17] (fun i wr => ∃ k : Nat, k ≤ xs.length ∧ i = .int .i64 k ∧ Below w.heap.size w wr ∧ Hid (eqL f xs ys = eqL f (xs.drop k) (ys.drop k))) (fun i _ => xs.length - (intOf i).toNat)
  case atStart => exact ⟨0, Nat.zero_le _, rfl, Below.refl _ _, rfl⟩
  case round =>
    obtain ⟨k, hk, rfl, hbw, HE⟩ := hrel
    by_cases hlt : k < xs.length
    · have hlt2 : k < ys.length := by have := HN.out; omega
      obtain ⟨b, off, rfl, hb⟩ := hl.base hbw hB (by omega)
      obtain ⟨b', off', rfl, hb'⟩ := hl'.base hbw hB (by omega)
      obtain ⟨x, vs, hx, hlen, hcell, hr⟩ := hl.at_ hbw hB hlt
      obtain ⟨_, rfl, A0x, c0x, rfl, _⟩ := id hr
      have p0 : wr.cell? ⟨b, off + k, none⟩ = some (.slice A0x x.length c0x) := by have := hcell 0 _ rfl; simpa [hRk] using this
      clear hcell hlen
      obtain ⟨y, vs, hy, hlen, hcell, hr'⟩ := hl'.at_ hbw hB hlt2
      obtain ⟨_, rfl, A0y, c0y, rfl, _⟩ := id hr'
      have e0 : wr.cell? ⟨b', off' + k, none⟩ = some (.slice A0y y.length c0y) := by have := hcell 0 _ rfl; simpa [hRk] using this
      clear hcell hlen
      have HE2 : Hid (eqL f xs ys = (f x y && eqL f (xs.drop (k + 1)) (ys.drop (k + 1)))) := by
        obtain ⟨h1, h2⟩ := List.getElem?_eq_some_iff.1 hx
        obtain ⟨h3, h4⟩ := List.getElem?_eq_some_iff.1 hy
        have := HE.out
        rw [List.drop_eq_getElem_cons h1, List.drop_eq_getElem_cons h3, h2, h4] at this
        exact this
      have HRR := Lib.hid (And.intro hr hr')
      have HBw := Lib.hid hbw
      have hszr := hbw.size
      clear hx hy hr hr' HE hbw
      go_wp2_with fail
      generalize hW2 : World.alloc _ _ = W2
      obtain ⟨hb2, hz2⟩ := al2 hW2
      clear hW2 p0 e0
      refine (HF.out x y [_] [_] W2 (bthen HBw.out hb2) ((ExR d).keep hb2 (by omega) HRR.out.1) ((ExR d).keep hb2 (by omega) HRR.out.2)).mono ?_
      rintro e w3 ⟨rfl, hb3⟩
      have HB3 := Lib.hid (bthen HBw.out (bthen hb2 hb3))
      clear hb2 hb3 hz2
      by_cases hp : f x y = true
      · rw [hp] at HE2
        rw [hp]
        clear hp
        go_wp2_with fail
        go_roundw
        case rel => exact ⟨k + 1, by omega, by go_num, HB3.out, by have := HE2.out; rw [Bool.true_and] at this; exact this⟩
        case measure => simp [intOf]; omega
      · simp only [Bool.not_eq_true] at hp
        rw [hp] at HE2
        rw [hp]
        clear hp
        go_wp2_with fail
        go_ret
        exact ⟨ret_bool (by rw [HE2.out]; rfl), HB3.out⟩
    · have HE2 : Hid (eqL f xs ys = true) := by
        have := HE.out
        rw [List.drop_eq_nil_iff.2 (show xs.length ≤ k by omega), List.drop_eq_nil_iff.2 (show ys.length ≤ k by have := HN.out; omega)] at this
        exact this
      clear HE
      go_wp2_with fail
      go_ret
      exact ⟨ret_bool HE2.out.symm, hbw⟩

set_option maxRecDepth 100000 in
set_option maxHeartbeats 2000000 in
theorem equalFuncPred_any (d : Nat) (F : FuncId) (cap : Array Value) (f : Pr → Pr → Bool) (xs ys : List Pr) (A A' : Option Addr) (c c' B : Nat) (w : World)
    (hF : ∀ args (w : World), (callFunc F args).run Tryz.prog w = .ok (.enter F args) w) (hl : RL (PrR d) w B xs A) (hl' : RL (PrR d) w B ys A') (hB : B ≤ w.heap.size) (hn : xs.length ≤ 140737488351232) (hn' : ys.length ≤ 140737488351232)
    (hf : ∀ (x y : Pr) (vs us : List Value) (w1 : World), Below w.heap.size w w1 → (PrR d).rd w1 B x vs → (PrR d).rd w1 B y us →
      Calls Tryz.prog F (#[.agg vs.toArray, .agg us.toArray] ++ cap) w1 fun e w' => e = .returned (.bool (f x y)) ∧ Below w1.heap.size w1 w') :
    Calls Tryz.prog 39 #[.slice A xs.length c, .slice A' ys.length c', .func (.func F) #[] cap] w fun e w' => e = .returned (.bool (eqL f xs ys)) ∧ Below w.heap.size w w' := by
  have HF := Lib.hid hf
  clear hf
  have hRk : (PrR d).k = 2 := rfl
  by_cases hne : xs.length = ys.length
  rotate_left
  · have h1 : ((xs.length : Int) != (ys.length : Int)) = true := by simp; omega
    have HN := Lib.hid hne
    clear hne
    go_enter Tryz.func39, Tryz.ntmps39
    go_wp2_with fail
    go_ret
    exact ⟨ret_bool (eqL_len HN.out).symm, Below.refl _ _⟩
  have h1 : ((xs.length : Int) != (ys.length : Int)) = false := by simp; omega
  have HN := Lib.hid hne
  clear hne
  go_enter Tryz.func39, Tryz.ntmps39
  go_wp2_with fail
  go_loopw [17] (fun i wr => ∃ k : Nat, k ≤ xs.length ∧ i = .int .i64 k ∧ Below w.heap.size w wr ∧ Hid (eqL f xs ys = eqL f (xs.drop k) (ys.drop k))) (fun i _ => xs.length - (intOf i).toNat)
  case atStart => exact ⟨0, Nat.zero_le _, rfl, Below.refl _ _, rfl⟩
  case round =>
    obtain ⟨k, hk, rfl, hbw, HE⟩ := hrel
    by_cases hlt : k < xs.length
    · have hlt2 : k < ys.length := by have := HN.out; omega
      obtain ⟨b, off, rfl, hb⟩ := hl.base hbw hB (by omega)
      obtain ⟨b', off', rfl, hb'⟩ := hl'.base hbw hB (by omega)
      obtain ⟨x, vs, hx, hlen, hcell, hr⟩ := hl.at_ hbw hB hlt
      obtain ⟨_, rfl, _, A0x, c0x, rfl, _⟩ := id hr
      have p0 : wr.cell? ⟨b, off + k * 2, none⟩ = some (.string x.name) := by have := hcell 0 _ rfl; simpa [hRk] using this
      have p1 : wr.cell? ⟨b, off + k * 2 + 1, none⟩ = some (.slice A0x x.terms.length c0x) := by have := hcell 1 _ rfl; simpa [hRk] using this
      clear hcell hlen
      obtain ⟨y, vs, hy, hlen, hcell, hr'⟩ := hl'.at_ hbw hB hlt2
      obtain ⟨_, rfl, _, A0y, c0y, rfl, _⟩ := id hr'
      have e0 : wr.cell? ⟨b', off' + k * 2, none⟩ = some (.string y.name) := by have := hcell 0 _ rfl; simpa [hRk] using this
      have e1 : wr.cell? ⟨b', off' + k * 2 + 1, none⟩ = some (.slice A0y y.terms.length c0y) := by have := hcell 1 _ rfl; simpa [hRk] using this
      clear hcell hlen
      have HE2 : Hid (eqL f xs ys = (f x y && eqL f (xs.drop (k + 1)) (ys.drop (k + 1)))) := by
        obtain ⟨h1, h2⟩ := List.getElem?_eq_some_iff.1 hx
        obtain ⟨h3, h4⟩ := List.getElem?_eq_some_iff.1 hy
        have := HE.out
        rw [List.drop_eq_getElem_cons h1, List.drop_eq_getElem_cons h3, h2, h4] at this
        exact this
      have HRR := Lib.hid (And.intro hr hr')
      have HBw := Lib.hid hbw
      have hszr := hbw.size
      clear hx hy hr hr' HE hbw
      go_wp2_with fail
      generalize hW2 : World.alloc _ _ = W2
      obtain ⟨hb2, hz2⟩ := al2 hW2
      clear hW2 p0 e0 p1 e1
      refine (HF.out x y [_, _] [_, _] W2 (bthen HBw.out hb2) ((PrR d).keep hb2 (by omega) HRR.out.1) ((PrR d).keep hb2 (by omega) HRR.out.2)).mono ?_
      rintro e w3 ⟨rfl, hb3⟩
      have HB3 := Lib.hid (bthen HBw.out (bthen hb2 hb3))
      clear hb2 hb3 hz2
      by_cases hp : f x y = true
      · rw [hp] at HE2
        rw [hp]
        clear hp
        go_wp2_with fail
        go_roundw
        case rel => exact ⟨k + 1, by omega, by go_num, HB3.out, by have := HE2.out; rw [Bool.true_and] at this; exact this⟩
        case measure => simp [intOf]; omega
      · simp only [Bool.not_eq_true] at hp
        rw [hp] at HE2
        rw [hp]
        clear hp
        go_wp2_with fail
        go_ret
        exact ⟨ret_bool (by rw [HE2.out]; rfl), HB3.out⟩
    · have HE2 : Hid (eqL f xs ys = true) := by
        have := HE.out
        rw [List.drop_eq_nil_iff.2 (show xs.length ≤ k by omega), List.drop_eq_nil_iff.2 (show ys.length ≤ k by have := HN.out; omega)] at this
        exact this
      clear HE
      go_wp2_with fail
      go_ret
      exact ⟨ret_bool HE2.out.symm, hbw⟩

set_option maxRecDepth 100000 in
set_option maxHeartbeats 2000000 in
theorem equalFuncRule_any (d : Nat) (F : FuncId) (cap : Array Value) (f : Ru → Ru → Bool) (xs ys : List Ru) (A A' : Option Addr) (c c' B : Nat) (w : World)
    (hF : ∀ args (w : World), (callFunc F args).run Tryz.prog w = .ok (.enter F args) w) (hl : RL (RuR d) w B xs A) (hl' : RL (RuR d) w B ys A') (hB : B ≤ w.heap.size) (hn : xs.length ≤ 140737488351232) (hn' : ys.length ≤ 140737488351232)
    (hf : ∀ (x y : Ru) (vs us : List Value) (w1 : World), Below w.heap.size w w1 → (RuR d).rd w1 B x vs → (RuR d).rd w1 B y us →
      Calls Tryz.prog F (#[.agg vs.toArray, .agg us.toArray] ++ cap) w1 fun e w' => e = .returned (.bool (f x y)) ∧ Below w1.heap.size w1 w') :
    Calls Tryz.prog 41 #[.slice A xs.length c, .slice A' ys.length c', .func (.func F) #[] cap] w fun e w' => e = .returned (.bool (eqL f xs ys)) ∧ Below w.heap.size w w' := by
  have HF := Lib.hid hf
  clear hf
  have hRk : (RuR d).k = 5 := rfl
  by_cases hne : xs.length = ys.length
  rotate_left
  · have h1 : ((xs.length : Int) != (ys.length : Int)) = true := by simp; omega
    have HN := Lib.hid hne
    clear hne
    go_enter Tryz.func41, Tryz.ntmps41
    go_wp2_with fail
    go_ret
    exact ⟨ret_bool (eqL_len HN.out).symm, Below.refl _ _⟩
  have h1 : ((xs.length : Int) != (ys.length : Int)) = false := by simp; omega
  have HN := Lib.hid hne
  clear hne
  go_enter Tryz.func41, Tryz.ntmps41
  go_wp2_with fail
  go_loopw [17] (fun i wr => ∃ k : Nat, k ≤ xs.length ∧ i = .int .i64 k ∧ Below w.heap.size w wr ∧ Hid (eqL f xs ys = eqL f (xs.drop k) (ys.drop k))) (fun i _ => xs.length - (intOf i).toNat)
  case atStart => exact ⟨0, Nat.zero_le _, rfl, Below.refl _ _, rfl⟩
  case round =>
    obtain ⟨k, hk, rfl, hbw, HE⟩ := hrel
    by_cases hlt : k < xs.length
    · have hlt2 : k < ys.length := by have := HN.out; omega
      obtain ⟨b, off, rfl, hb⟩ := hl.base hbw hB (by omega)
      obtain ⟨b', off', rfl, hb'⟩ := hl'.base hbw hB (by omega)
      obtain ⟨x, vs, hx, hlen, hcell, hr⟩ := hl.at_ hbw hB hlt
      obtain ⟨_, _, _, _, rfl, _, ⟨A0x, c0x, rfl, _⟩, ⟨A1x, c1x, rfl, _⟩, ⟨A2x, c2x, rfl, _⟩, ⟨A3x, c3x, rfl, _⟩⟩ := id hr
      have p0 : wr.cell? ⟨b, off + k * 5, none⟩ = some (.string x.head.name) := by have := hcell 0 _ rfl; simpa [hRk] using this
      have p1 : wr.cell? ⟨b, off + k * 5 + 1, none⟩ = some (.slice A0x x.head.terms.length c0x) := by have := hcell 1 _ rfl; simpa [hRk] using this
      have p2 : wr.cell? ⟨b, off + k * 5 + 2, none⟩ = some (.slice A1x x.body.length c1x) := by have := hcell 2 _ rfl; simpa [hRk] using this
      have p3 : wr.cell? ⟨b, off + k * 5 + 3, none⟩ = some (.slice A2x x.exprs.length c2x) := by have := hcell 3 _ rfl; simpa [hRk] using this
      have p4 : wr.cell? ⟨b, off + k * 5 + 4, none⟩ = some (.slice A3x x.scopes.length c3x) := by have := hcell 4 _ rfl; simpa [hRk] using this
      clear hcell hlen
      obtain ⟨y, vs, hy, hlen, hcell, hr'⟩ := hl'.at_ hbw hB hlt2
      obtain ⟨_, _, _, _, rfl, _, ⟨A0y, c0y, rfl, _⟩, ⟨A1y, c1y, rfl, _⟩, ⟨A2y, c2y, rfl, _⟩, ⟨A3y, c3y, rfl, _⟩⟩ := id hr'
      have e0 : wr.cell? ⟨b', off' + k * 5, none⟩ = some (.string y.head.name) := by have := hcell 0 _ rfl; simpa [hRk] using this
      have e1 : wr.cell? ⟨b', off' + k * 5 + 1, none⟩ = some (.slice A0y y.head.terms.length c0y) := by have := hcell 1 _ rfl; simpa [hRk] using this
      have e2 : wr.cell? ⟨b', off' + k * 5 + 2, none⟩ = some (.slice A1y y.body.length c1y) := by have := hcell 2 _ rfl; simpa [hRk] using this
      have e3 : wr.cell? ⟨b', off' + k * 5 + 3, none⟩ = some (.slice A2y y.exprs.length c2y) := by have := hcell 3 _ rfl; simpa [hRk] using this
      have e4 : wr.cell? ⟨b', off' + k * 5 + 4, none⟩ = some (.slice A3y y.scopes.length c3y) := by have := hcell 4 _ rfl; simpa [hRk] using this
      clear hcell hlen
      have HE2 : Hid (eqL f xs ys = (f x y && eqL f (xs.drop (k + 1)) (ys.drop (k + 1)))) := by
        obtain ⟨h1, h2⟩ := List.getElem?_eq_some_iff.1 hx
        obtain ⟨h3, h4⟩ := List.getElem?_eq_some_iff.1 hy
        have := HE.out
        rw [List.drop_eq_getElem_cons h1, List.drop_eq_getElem_cons h3, h2, h4] at this
        exact this
      have HRR := Lib.hid (And.intro hr hr')
      have HBw := Lib.hid hbw
      have hszr := hbw.size
      clear hx hy hr hr' HE hbw
      go_wp2_with fail
      generalize hW2 : World.alloc _ _ = W2
      obtain ⟨hb2, hz2⟩ := al2 hW2
      clear hW2 p0 e0 p1 e1 p2 e2 p3 e3 p4 e4
      refine (HF.out x y [_, _, _, _, _] [_, _, _, _, _] W2 (bthen HBw.out hb2) ((RuR d).keep hb2 (by omega) HRR.out.1) ((RuR d).keep hb2 (by omega) HRR.out.2)).mono ?_
      rintro e w3 ⟨rfl, hb3⟩
      have HB3 := Lib.hid (bthen HBw.out (bthen hb2 hb3))
      clear hb2 hb3 hz2
      by_cases hp : f x y = true
      · rw [hp] at HE2
        rw [hp]
        clear hp
        go_wp2_with fail
        go_roundw
        case rel => exact ⟨k + 1, by omega, by go_num, HB3.out, by have := HE2.out; rw [Bool.true_and] at this; exact this⟩
        case measure => simp [intOf]; omega
      · simp only [Bool.not_eq_true] at hp
        rw [hp] at HE2
        rw [hp]
        clear hp
        go_wp2_with fail
        go_ret
        exact ⟨ret_bool (by rw [HE2.out]; rfl), HB3.out⟩
    · have HE2 : Hid (eqL f xs ys = true) := by
        have := HE.out
        rw [List.drop_eq_nil_iff.2 (show xs.length ≤ k by omega), List.drop_eq_nil_iff.2 (show ys.length ≤ k by have := HN.out; omega)] at this
        exact this
      clear HE
      go_wp2_with fail
      go_ret
      exact ⟨ret_bool HE2.out.symm, hbw⟩

set_option maxRecDepth 100000 in
set_option maxHeartbeats 2000000 in
theorem equalFuncCheck_any (d : Nat) (F : FuncId) (cap : Array Value) (f : Ck → Ck → Bool) (xs ys : List Ck) (A A' : Option Addr) (c c' B : Nat) (w : World)
    (hF : ∀ args (w : World), (callFunc F args).run Tryz.prog w = .ok (.enter F args) w) (hl : RL (CkR d) w B xs A) (hl' : RL (CkR d) w B ys A') (hB : B ≤ w.heap.size) (hn : xs.length ≤ 140737488351232) (hn' : ys.length ≤ 140737488351232)
    (hf : ∀ (x y : Ck) (vs us : List Value) (w1 : World), Below w.heap.size w w1 → (CkR d).rd w1 B x vs → (CkR d).rd w1 B y us →
      Calls Tryz.prog F (#[.agg vs.toArray, .agg us.toArray] ++ cap) w1 fun e w' => e = .returned (.bool (f x y)) ∧ Below w1.heap.size w1 w') :
    Calls Tryz.prog 43 #[.slice A xs.length c, .slice A' ys.length c', .func (.func F) #[] cap] w fun e w' => e = .returned (.bool (eqL f xs ys)) ∧ Below w.heap.size w w' := by
  have HF := Lib.hid hf
  clear hf
  have hRk : (CkR d).k = 2 := rfl
  by_cases hne : xs.length = ys.length
  rotate_left
  · have h1 : ((xs.length : Int) != (ys.length : Int)) = true := by simp; omega
    have HN := Lib.hid hne
    clear hne
    go_enter Tryz.func43, Tryz.ntmps43
    go_wp2_with fail
    go_ret
    exact ⟨ret_bool (eqL_len HN.out).symm, Below.refl _ _⟩
  have h1 : ((xs.length : Int) != (ys.length : Int)) = false := by simp; omega
  have HN := Lib.hid hne
  clear hne
  go_enter Tryz.func43, Tryz.ntmps43
  go_wp2_with fail
  go_loopw [17] (fun i wr => ∃ k : Nat, k ≤ xs.length ∧ i = .int .i64 k ∧ Below w.heap.size w wr ∧ Hid (eqL f xs ys = eqL f (xs.drop k) (ys.drop k))) (fun i _ => xs.length - (intOf i).toNat)
  case atStart => exact ⟨0, Nat.zero_le _, rfl, Below.refl _ _, rfl⟩
  case round =>
    obtain ⟨k, hk, rfl, hbw, HE⟩ := hrel
    by_cases hlt : k < xs.length
    · have hlt2 : k < ys.length := by have := HN.out; omega
      obtain ⟨b, off, rfl, hb⟩ := hl.base hbw hB (by omega)
      obtain ⟨b', off', rfl, hb'⟩ := hl'.base hbw hB (by omega)
      obtain ⟨x, vs, hx, hlen, hcell, hr⟩ := hl.at_ hbw hB hlt
      obtain ⟨_, rfl, A0x, c0x, rfl, _⟩ := id hr
      have p0 : wr.cell? ⟨b, off + k * 2, none⟩ = some (.bool x.all) := by have := hcell 0 _ rfl; simpa [hRk] using this
      have p1 : wr.cell? ⟨b, off + k * 2 + 1, none⟩ = some (.slice A0x x.queries.length c0x) := by have := hcell 1 _ rfl; simpa [hRk] using this
      clear hcell hlen
      obtain ⟨y, vs, hy, hlen, hcell, hr'⟩ := hl'.at_ hbw hB hlt2
      obtain ⟨_, rfl, A0y, c0y, rfl, _⟩ := id hr'
      have e0 : wr.cell? ⟨b', off' + k * 2, none⟩ = some (.bool y.all) := by have := hcell 0 _ rfl; simpa [hRk] using this
      have e1 : wr.cell? ⟨b', off' + k * 2 + 1, none⟩ = some (.slice A0y y.queries.length c0y) := by have := hcell 1 _ rfl; simpa [hRk] using this
      clear hcell hlen
      have HE2 : Hid (eqL f xs ys = (f x y && eqL f (xs.drop (k + 1)) (ys.drop (k + 1)))) := by
        obtain ⟨h1, h2⟩ := List.getElem?_eq_some_iff.1 hx
        obtain ⟨h3, h4⟩ := List.getElem?_eq_some_iff.1 hy
        have := HE.out
        rw [List.drop_eq_getElem_cons h1, List.drop_eq_getElem_cons h3, h2, h4] at this
        exact this
      have HRR := Lib.hid (And.intro hr hr')
      have HBw := Lib.hid hbw
      have hszr := hbw.size
      clear hx hy hr hr' HE hbw
      go_wp2_with fail
      generalize hW2 : World.alloc _ _ = W2
      obtain ⟨hb2, hz2⟩ := al2 hW2
      clear hW2 p0 e0 p1 e1
      refine (HF.out x y [_, _] [_, _] W2 (bthen HBw.out hb2) ((CkR d).keep hb2 (by omega) HRR.out.1) ((CkR d).keep hb2 (by omega) HRR.out.2)).mono ?_
      rintro e w3 ⟨rfl, hb3⟩
      have HB3 := Lib.hid (bthen HBw.out (bthen hb2 hb3))
      clear hb2 hb3 hz2
      by_cases hp : f x y = true
      · rw [hp] at HE2
        rw [hp]
        clear hp
        go_wp2_with fail
        go_roundw
        case rel => exact ⟨k + 1, by omega, by go_num, HB3.out, by have := HE2.out; rw [Bool.true_and] at this; exact this⟩
        case measure => simp [intOf]; omega
      · simp only [Bool.not_eq_true] at hp
        rw [hp] at HE2
        rw [hp]
        clear hp
        go_wp2_with fail
        go_ret
        exact ⟨ret_bool (by rw [HE2.out]; rfl), HB3.out⟩
    · have HE2 : Hid (eqL f xs ys = true) := by
        have := HE.out
        rw [List.drop_eq_nil_iff.2 (show xs.length ≤ k by omega), List.drop_eq_nil_iff.2 (show ys.length ≤ k by have := HN.out; omega)] at this
        exact this
      clear HE
      go_wp2_with fail
      go_ret
      exact ⟨ret_bool HE2.out.symm, hbw⟩

end Go.Proofs.YtfknlghegchbkabGreat
