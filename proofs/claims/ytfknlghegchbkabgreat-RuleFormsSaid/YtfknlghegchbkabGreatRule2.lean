/- rule: body, MayQuery, May. -/
import Derived.Test.YtfknlghegchbkabGreatExpr3
set_option linter.unusedVariables false
set_option linter.unusedSimpArgs false
namespace Go.Proofs.YtfknlghegchbkabGreat
open Go.ChangeShapes Go.WideShapes Go.ChangeAt Go.RowKit

theorem namesE_len (e : List OpD) : (namesE e).length ≤ 32 := by
  unfold namesE
  split
  · rename_i h
    unfold mayExprB at h
    simp only [Bool.and_eq_true, decide_eq_true_eq] at h
    exact Nat.le_trans (uniqL_length _) (Nat.le_trans (exprVars_le e) h.1)
  · simp

/-- All texts of an expression's terms are of some size. -/
def smallE (e : List OpD) : Prop := ∀ o ∈ e, o.term.s.size ≤ 140737488351232

theorem namesE_small {e : List OpD} (h : smallE e) : ∀ l ∈ namesE e, l.length ≤ 140737488351232 := by
  intro l hl
  unfold namesE at hl
  split at hl
  · rw [mem_uniqL] at hl
    unfold exprVars at hl
    simp only [List.mem_map, List.mem_filter] at hl
    obtain ⟨o, ⟨ho, _⟩, rfl⟩ := hl
    rw [bs_length]
    exact h o ho
  · simp at hl

theorem ExR.small {d B : Nat} {e : List OpD} {vs : List Value} {w : World} (he : (ExR d).rd w B e vs) : smallE e := by
  obtain ⟨_, _, A, c, _, _, _, hl⟩ := he
  intro o ho
  obtain ⟨i, hi, rfl⟩ := List.getElem_of_mem ho
  obtain ⟨b, off, rfl, hb, hc⟩ := hl (by omega)
  obtain ⟨vs, _, ⟨x, hx, hr⟩, _⟩ := hc i hi
  obtain ⟨ts, _, _, _, _, ht⟩ := hr
  obtain ⟨_, _, _, _, _, hs, _⟩ := RTm.cells ht
  rw [List.getElem?_eq_getElem hi] at hx
  simp only [Option.some.injEq] at hx
  rw [hx]; exact hs

set_option maxRecDepth 100000 in
set_option maxHeartbeats 1000000 in
theorem bodyLit_any (d : Nat) (L : List Bytes) (A : Option Addr) (c B G : Nat) (w : World) (hl : RL StrR w B (L.map mkS) A) (hB : B ≤ w.heap.size) (hn : L.length ≤ 1000000) (hs : L.Pairwise (· < ·))
    (hG : w.cell? ⟨G, 0, none⟩ = some (.slice A L.length c)) :
    Tells Tryz.prog (ExR d) aggOf B w 74 #[.pointer (some ⟨G, 0, none⟩)] (fun e => !knownB (namesE e) L) := by
  intro e vs w1 hb hr
  have hr0 := hr
  have hsm := ExR.small hr
  obtain ⟨v, rfl, h3⟩ := hr
  obtain ⟨A1, c1, rfl, _⟩ := h3
  have hGl : G < w.heap.size := block_lt_of_cell hG
  have hG1 : w1.cell? ⟨G, 0, none⟩ = some (.slice A L.length c) := (hb.cell (p := ⟨G, 0, none⟩) hGl).trans hG
  have hGl1 : G < w1.heap.size := by have := hb.size; omega
  have HL := Lib.hid (hl.keep hb hB)
  have HR := Lib.hid hr0
  have HSM := Lib.hid (namesE_small hsm)
  have hNL := namesE_len e
  have HS := Lib.hid hs
  have HB := Lib.hid (fun o : Obj => (Below.refl w1.heap.size w1).alloc (Nat.le_refl _) o)
  have hB1 : B ≤ w1.heap.size := by have := hb.size; omega
  clear hl hG hb hs hr0
  show Calls Tryz.prog 74 #[.agg #[.slice A1 e.length c1], .pointer (some ⟨G, 0, none⟩)] w1 _
  go_enter Tryz.func74, Tryz.ntmps74
  go_wp2_with fail
  have HW := Lib.hid (HB.out (.cells #[.slice A1 e.length c1] 61))
  have x0 : (w1.alloc (.cells #[.slice A1 e.length c1] 61)).cell? ⟨w1.heap.size, 0, none⟩ = some (.slice A1 e.length c1) := by go_simp
  have x1 : (w1.alloc (.cells #[.slice A1 e.length c1] 61)).cell? ⟨G, 0, none⟩ = some (.slice A L.length c) := by go_simp
  generalize (w1.alloc (.cells #[.slice A1 e.length c1] 61)) = W at *
  have q0 := cell_regrown x0
  have q1 := cell_regrown x1
  refine wp_region_mix (Grew W) (by kernel_rfl) (by kernel_rfl) (Grew.drew W) ?_
  repeat (refine mix_quiet rfl rfl (fun K hK => ?_); unfold Grew; go_big_quiet_op; refine hK _ ?_; clear hK K)
  refine mix_loud rfl rfl (fun K hK => ?_)
  go_wp2_with fail
  refine (exprNames_any (d := d) (B := B) (e := e) (vs := [_]) ((ExR d).keep HW.out.drew hB1 HR.out) (Nat.le_trans hB1 HW.out.size)).mono ?_
  rintro x w2 ⟨v2, rfl, hown, hb2⟩
  obtain ⟨A2, c2, rfl, hc2, hrl⟩ := hown.reads HSM.out (by omega)
  have HB2 := Lib.hid (HW.out.trans ((Below.refl _ W).drew.trans (hb2.mono (Nat.le_refl _)) |>.mono HW.out.size))
  have HC := Lib.hid (Grew.of ((Below.refl W.heap.size W).drew.trans (hb2.mono (Nat.le_refl _))))
  have HRL := Lib.hid hrl
  clear hown hb2 hrl
  go_wp2_with fail
  refine ⟨HC.out, ?_⟩
  repeat (refine mix_quiet rfl rfl (fun K hK => ?_); unfold Grew; go_big_quiet_op; refine hK _ ?_; clear hK K)
  refine mix_loud rfl rfl (fun K hK => ?_)
  go_wp2_with fail
  refine (known_any (namesE e) L A2 A c2 c w2.heap.size w2 HRL.out ((HL.out.keep HB2.out hB1).wide (Nat.le_trans hB1 HB2.out.size)) (Nat.le_refl _) (by omega) hn HS.out).mono ?_
  rintro x w3 ⟨rfl, hb3⟩
  have HC3 := Lib.hid (Grew.of (HC.out.below.trans (hb3.mono HC.out.below.size)))
  have HB3 := Lib.hid (HB2.out.trans (hb3.mono HB2.out.size))
  clear hb3
  go_wp2_with fail
  refine ⟨HC3.out, ?_⟩
  repeat (refine mix_quiet rfl rfl (fun K hK => ?_); unfold Grew; go_big_quiet_op; refine hK _ ?_; clear hK K)
  refine mix_nil (fun _ => ?_)
  go_wp2_with fail
  go_ret
  exact ⟨rfl, HB3.out⟩
end Go.Proofs.YtfknlghegchbkabGreat
