/- viaticumlaw15.awake. -/
import Derived.Test.YtijajfelmekmiaaDoorLex11
set_option linter.unusedVariables false
set_option linter.unusedSimpArgs false
namespace Go.Proofs.YtijajfelmekmiaaDoor
open Go.ChangeShapes Go.WideShapes Go.ChangeAt Go.RowKit

theorem NextR.of {s : ByteArray} {a c : Nat} {k : Int} {S : ByteArray} {n : Int} {to : Nat} {bad : Bool} (h : NextR s a k S n to bad) (hc : cls ((bs s).drop a) = c) : NextR s a k S n to bad ∧ cls ((bs s).drop a) = c := ⟨h, hc⟩
theorem next1 {s : ByteArray} {a : Nat} {k : Int} {S : ByteArray} {n : Int} {to : Nat} {bad : Bool} (h : NextR s a k S n to bad) (hc : cls ((bs s).drop a) = 1) : k = 1 ∧ S = s.extract a (a + runN namedB s a) ∧ n = 0 ∧ to = a + runN namedB s a ∧ bad = decide (32 < (runN namedB s a : Int)) := by
  unfold NextR at h; rw [hc] at h; exact h
theorem next2 {s : ByteArray} {a : Nat} {k : Int} {S : ByteArray} {n : Int} {to : Nat} {bad : Bool} (h : NextR s a k S n to bad) (hc : cls ((bs s).drop a) = 2) (hn : nameHere s (a + 1) = true) : k = 2 ∧ S = s.extract (a + 1) (a + 1 + runN namedB s (a + 1)) ∧ n = 0 ∧ to = a + 1 + runN namedB s (a + 1) ∧ bad = decide (32 < (runN namedB s (a + 1) : Int)) := by
  unfold NextR at h; rw [hc] at h; exact h.1 hn
theorem next2n {s : ByteArray} {a : Nat} {k : Int} {S : ByteArray} {n : Int} {to : Nat} {bad : Bool} (h : NextR s a k S n to bad) (hc : cls ((bs s).drop a) = 2) (hn : nameHere s (a + 1) = false) : bad = true := by
  unfold NextR at h; rw [hc] at h; exact h.2 hn
theorem next7 {s : ByteArray} {a : Nat} {k : Int} {S : ByteArray} {n : Int} {to : Nat} {bad : Bool} (h : NextR s a k S n to bad) (hc : cls ((bs s).drop a) = 7) (hm : markF ((bs s).drop a) = none) (ha : a < s.size) {q : Bool} (hq : decide (Lib.indexByte marks1 s[a] < 0) = q) : k = 7 ∧ S = s.extract a (a + 1) ∧ n = 0 ∧ to = a + 1 ∧ bad = q := by
  unfold NextR at h; rw [hc] at h
  obtain ⟨h1, h2, h3⟩ := h
  unfold markR at h3
  rw [hm] at h3
  exact ⟨h1, h3.1, h2, h3.2.1, (h3.2.2 ha).trans hq⟩

def wakeS : ByteArray := ⟨#[114, 105, 103, 104, 116, 40, 36, 120, 41]⟩
def wakeW : List Wd := [⟨1, wakeS.extract 0 5, 0, (0 : Nat)⟩, ⟨7, wakeS.extract 5 6, 0, (5 : Nat)⟩, ⟨2, wakeS.extract 7 8, 0, (6 : Nat)⟩, ⟨7, wakeS.extract 8 9, 0, (8 : Nat)⟩]
def wakeQ : Nat → Nat
  | 0 => 0 | 1 => 5 | 2 => 6 | 3 => 8 | _ => 9
theorem wake_sz : wakeS.size = 9 := rfl
theorem wake_blank : ∀ j : Fin 5, runN blankB wakeS (wakeQ j.val) = 0 := of_decide_eq_true (by kernel_rfl)
theorem wake_c0 : cls ((bs wakeS).drop 0) = 1 := by kernel_rfl
theorem wake_c1 : cls ((bs wakeS).drop 5) = 7 := by kernel_rfl
theorem wake_c2 : cls ((bs wakeS).drop 6) = 2 := by kernel_rfl
theorem wake_c3 : cls ((bs wakeS).drop 8) = 7 := by kernel_rfl
theorem wake_m1 : markF ((bs wakeS).drop 5) = none := by kernel_rfl
theorem wake_m3 : markF ((bs wakeS).drop 8) = none := by kernel_rfl
theorem wake_r0 : runN namedB wakeS 0 = 5 := by kernel_rfl
theorem wake_r2 : runN namedB wakeS 7 = 1 := by kernel_rfl
theorem wake_n2 : nameHere wakeS 7 = true := by kernel_rfl
theorem wake_q1 : decide (Lib.indexByte marks1 (wakeS[5]'(by decide)) < 0) = false := by kernel_rfl
theorem wake_q3 : decide (Lib.indexByte marks1 (wakeS[8]'(by decide)) < 0) = false := by kernel_rfl
/-- One step from state j. -/
theorem wake_next {j : Nat} (hj : j ≤ 4) {a : Nat} {k : Int} {S : ByteArray} {n : Int} {to : Nat} {bad : Bool} (ha : a = wakeQ j + runN blankB wakeS (wakeQ j)) (hlt : a < wakeS.size) (h : NextR wakeS a k S n to bad) :
    j < 4 ∧ bad = false ∧ wakeW[j]? = some ⟨k, S, n, a⟩ ∧ to = wakeQ (j + 1) := by
  have hb := wake_blank ⟨j, by omega⟩
  simp only at hb
  rw [hb, Nat.add_zero] at ha
  rw [wake_sz] at hlt
  rcases (show j = 0 ∨ j = 1 ∨ j = 2 ∨ j = 3 ∨ j = 4 by omega) with rfl | rfl | rfl | rfl | rfl
  · subst ha
    obtain ⟨rfl, rfl, rfl, rfl, rfl⟩ := next1 h wake_c0
    rw [show wakeQ 0 = 0 from rfl, wake_r0]
    exact ⟨by omega, rfl, rfl, rfl⟩
  · subst ha
    obtain ⟨rfl, rfl, rfl, rfl, rfl⟩ := next7 h wake_c1 wake_m1 (by decide) wake_q1
    exact ⟨by omega, rfl, rfl, rfl⟩
  · subst ha
    obtain ⟨rfl, rfl, rfl, rfl, rfl⟩ := next2 h wake_c2 wake_n2
    rw [show wakeQ 2 + 1 = 7 from rfl, wake_r2]
    exact ⟨by omega, rfl, rfl, rfl⟩
  · subst ha
    obtain ⟨rfl, rfl, rfl, rfl, rfl⟩ := next7 h wake_c3 wake_m3 (by decide) wake_q3
    exact ⟨by omega, rfl, rfl, rfl⟩
  · subst ha; exact absurd hlt (by decide)
theorem wake_steps {ws : List Wd} {q : Nat} (h : Steps wakeS ws q) : ws.length ≤ 4 ∧ ws = wakeW.take ws.length ∧ q = wakeQ ws.length := by
  induction h with
  | nil => exact ⟨by simp, rfl, rfl⟩
  | snoc h ha hlt hto hk hn ih =>
    obtain ⟨h1, h2, h3⟩ := ih
    subst h3
    obtain ⟨g1, g2, g3, g4⟩ := wake_next h1 ha hlt hn
    refine ⟨by simp; omega, ?_, by rw [g4]; simp⟩
    rw [List.length_append, List.length_singleton, List.take_add_one, g3, ← h2]
    rfl
theorem wake_post {w w' : World} {e : Ending} (h : WordsPost wakeS w e w') : Below w.heap.size w w' ∧ ∃ v, e = .returned (.tuple #[v, .int .i64 0, .int .i64 0]) ∧ RSl WdR w' w'.heap.size wakeW v := by
  obtain ⟨hb, ⟨ws, q, v, hst, hq, he, hr, _⟩ | ⟨ws, q, a, hst, ha, hlt, hl, _⟩ | ⟨ws, q, a, k, S, n, to, hst, ha, hlt, hn, _⟩⟩ := h
  · obtain ⟨h1, h2, h3⟩ := wake_steps hst
    refine ⟨hb, v, he, ?_⟩
    have hbl := wake_blank ⟨ws.length, by omega⟩
    simp only at hbl
    rw [h3, hbl, wake_sz] at hq
    have h4 : ws.length = 4 := by
      rcases (show ws.length = 0 ∨ ws.length = 1 ∨ ws.length = 2 ∨ ws.length = 3 ∨ ws.length = 4 by omega) with h | h | h | h | h <;> rw [h] at hq <;> first | exact h | (simp [wakeQ] at hq)
    rw [h4] at h2
    have e : wakeW.take 4 = wakeW := rfl
    rw [e] at h2
    rw [← h2]; exact hr
  · obtain ⟨h1, _, _⟩ := wake_steps hst
    omega
  · obtain ⟨h1, _, h3⟩ := wake_steps hst
    subst h3
    obtain ⟨_, g2, _⟩ := wake_next h1 ha hlt hn
    cases g2

set_option maxRecDepth 100000 in
set_option maxHeartbeats 4000000 in
theorem awake_any {w : World} (hv : ErrOk w) (h2 : 2 < w.heap.size) :
    Calls Tryd.prog 8 #[] w fun e w' => e = .returned (.bool true) ∧ Below w.heap.size w w' := by
  go_enter Tryd.func8, Tryd.ntmps8
  go_wp2_with fail
  refine (words_any (s := wakeS) (by decide) hv h2).mono ?_
  rintro e w1 hp
  obtain ⟨hb, v, rfl, A, c, rfl, hc, _, hl⟩ := wake_post hp
  obtain ⟨b, off, rfl, hbl, hcell⟩ := hl (by decide)
  have HB := Lib.hid hb
  obtain ⟨vs0, _, ⟨x0, hx0, hr0⟩, hc0⟩ := hcell 0 (by decide)
  obtain ⟨vs2, _, ⟨x2, hx2, hr2⟩, hc2⟩ := hcell 2 (by decide)
  obtain ⟨vs3, _, ⟨x3, hx3, hr3⟩, hc3⟩ := hcell 3 (by decide)
  have e0 : x0 = ⟨1, wakeS.extract 0 5, 0, (0 : Nat)⟩ := (Option.some.inj hx0).symm
  have e2 : x2 = ⟨2, wakeS.extract 7 8, 0, (6 : Nat)⟩ := (Option.some.inj hx2).symm
  have e3 : x3 = ⟨7, wakeS.extract 8 9, 0, (8 : Nat)⟩ := (Option.some.inj hx3).symm
  simp only [WdR] at hr0 hr2 hr3
  subst e0 e2 e3
  subst hr0 hr2 hr3
  have k0 : w1.cell? ⟨b, off, none⟩ = some (.int .i64 1) := hc0 0 _ rfl
  have k2 : w1.cell? ⟨b, off + 8, none⟩ = some (.int .i64 2) := hc2 0 _ rfl
  have k2s : w1.cell? ⟨b, off + 8 + 1, none⟩ = some (.string (wakeS.extract 7 8)) := hc2 1 _ rfl
  have k3 : w1.cell? ⟨b, off + 12 + 3, none⟩ = some (.int .i64 8) := hc3 3 _ rfl
  have hwx : ((wakeS.extract 7 8).toList == [120]) = true := by rw [ByteArray.toList_eq]; rfl
  clear hb hl hp hc0 hc2 hc3 hcell hx0 hx2 hx3
  go_wp2_with fail
  go_ret
  exact ⟨rfl, HB.out⟩
end Go.Proofs.YtijajfelmekmiaaDoor
