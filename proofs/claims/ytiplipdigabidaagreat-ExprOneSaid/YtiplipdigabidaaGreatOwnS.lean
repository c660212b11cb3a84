/- Strings of the call's own, read; viaticumref6.Fixed; the sizes of an expression's texts. (For seats without rule.Names and viaticumlaw11.light: XNames, XLight have the same.) -/
import Derived.Test.YtiplipdigabidaaGreatUniq
import Derived.Test.YtiplipdigabidaaGreatExpr3
import Derived.Test.YtiplipdigabidaaGreatRef4T
set_option linter.unusedVariables false
set_option linter.unusedSimpArgs false
namespace Go.Proofs.YtiplipdigabidaaGreat
open Go.ChangeShapes Go.WideShapes Go.ChangeAt Go.RowKit

theorem OwnS.later {w w' : World} {base : Nat} {v : Value} {L : List Bytes} (h : OwnS w base v L) (hb : Below w.heap.size w w') : OwnS w' base v L := by
  refine ⟨h.1, ?_⟩
  rcases h.2 with h2 | ⟨g, cap, cur, hv, hg, hh, r⟩
  · exact .inl h2
  · refine .inr ⟨g, cap, cur, hv, hg, ?_, r⟩
    have hlt : g < w.heap.size := by
      rcases Nat.lt_or_ge g w.heap.size with h' | h'
      · exact h'
      · rw [Array.getElem?_eq_none h'] at hh; cases hh
    rw [hb.block g hlt]; exact hh

/-- What is owned reads as a slice of strings. -/
theorem OwnS.reads {w : World} {base : Nat} {v : Value} {L : List Bytes} (h : OwnS w base v L) (hl : ∀ l ∈ L, l.length ≤ 140737488351232) (hn : L.length ≤ 1000000) : ∃ A c, v = .slice A L.length c ∧ L.length ≤ c ∧ RL StrR w w.heap.size (L.map mkS) A := by
  rcases h.2 with ⟨h1, h2⟩ | ⟨g, cap, cur, hv, hg, hh, h1, h2, h3, h4⟩
  · refine ⟨none, 0, by rw [h1, h2], by omega, ?_⟩
    intro h0
    simp [h2] at h0
  · refine ⟨_, cap, hv, h1, fun _ => ⟨g, 0, rfl, ?_, fun i hi => ?_⟩⟩
    · rcases Nat.lt_or_ge g w.heap.size with h' | h'
      · exact h'
      · rw [Array.getElem?_eq_none h'] at hh; cases hh
    · have hi' : i < L.length := by simpa using hi
      refine ⟨[.string (mkS L[i])], rfl, ⟨mkS L[i], by simp [hi'], rfl, ?_⟩, fun j v hj => ?_⟩
      · have := hl L[i] (List.getElem_mem hi')
        show (mkS L[i]).size ≤ _
        rw [Lib.size_eq]
        simpa [mkS] using this
      · match j, hj with
        | 0, hj =>
          have hj : Value.string (mkS L[i]) = v := by simpa using hj
          subst hj
          have hc : cur[i]? = some (encStr L[i]) := by
            have : (cur.toList.take (L.length * 1))[i]? = (L.map encStr)[i]? := by rw [h4]
            rw [List.getElem?_take, if_pos (by omega), List.getElem?_map, List.getElem?_eq_getElem hi'] at this
            simpa using this
          show World.cell? w ⟨g, 0 + i * 1 + 0, none⟩ = _
          simp [World.cell?, hh, hc, encStr, mkS]

set_option maxRecDepth 100000 in
set_option maxHeartbeats 1000000 in
theorem refFixed_any {d : Nat} {t : Tm} {vs : List Value} {B : Nat} {w : World} (h : RTm w B d t vs) (hB : B ≤ w.heap.size) :
    Calls Tryz.prog 18 #[.agg vs.toArray] w fun e w' => e = .returned (.bool (fixedB t)) ∧ Below w.heap.size w w' := by
  obtain ⟨A, c, rfl, q1, q2, q3, q4, q5, _⟩ := h.cells
  have HA := Lib.hid h
  clear h
  have hk : (t.kind != 1) = true ∨ (t.kind != 1) = false := by cases (t.kind != 1) <;> simp
  have hm : mayB t = true ∨ mayB t = false := by cases mayB t <;> simp
  rcases hm with hm | hm
  · have HM := Lib.hid hm
    clear hm
    rcases hk with hk | hk
    · have HK := Lib.hid hk
      go_enter Tryz.func18, Tryz.ntmps18
      go_wp2_with fail
      generalize hW : World.alloc _ _ = w1
      obtain ⟨hb, hz⟩ := al1 hW
      have b_a_1 := n11 hW
      have HB1 := Lib.hid hb
      clear hW hz hb
      refine (refMay_any (t := t) (vs := [_, _, _, _]) (HA.out.below HB1.out hB) (Nat.le_trans hB HB1.out.size)).mono ?_
      rintro x w2 ⟨rfl, hb⟩
      have b_a_2 := b_a_1.later hb
      have HB2 := Lib.hid (bthen HB1.out hb)
      clear b_a_1
      clear hb
      rw [HM.out]
      have k_a := b_a_2.cell
      have l_a := b_a_2.lt
      go_wp2_with fail
      clear k_a l_a
      go_ret
      exact ⟨ret_bool (by have h := HK.out; unfold fixedB; rw [HM.out, Bool.and_true]; simp only [bne_iff_ne, bne_eq_false_iff_eq] at h; simp [h]), HB2.out⟩
    · have HK := Lib.hid hk
      go_enter Tryz.func18, Tryz.ntmps18
      go_wp2_with fail
      generalize hW : World.alloc _ _ = w1
      obtain ⟨hb, hz⟩ := al1 hW
      have b_a_1 := n11 hW
      have HB1 := Lib.hid hb
      clear hW hz hb
      refine (refMay_any (t := t) (vs := [_, _, _, _]) (HA.out.below HB1.out hB) (Nat.le_trans hB HB1.out.size)).mono ?_
      rintro x w2 ⟨rfl, hb⟩
      have b_a_2 := b_a_1.later hb
      have HB2 := Lib.hid (bthen HB1.out hb)
      clear b_a_1
      clear hb
      rw [HM.out]
      have k_a := b_a_2.cell
      have l_a := b_a_2.lt
      go_wp2_with fail
      clear k_a l_a
      go_ret
      exact ⟨ret_bool (by have h := HK.out; unfold fixedB; rw [HM.out, Bool.and_true]; simp only [bne_iff_ne, bne_eq_false_iff_eq] at h; simp [h]), HB2.out⟩
  · have HM := Lib.hid hm
    clear hm
    go_enter Tryz.func18, Tryz.ntmps18
    go_wp2_with fail
    generalize hW : World.alloc _ _ = w1
    obtain ⟨hb, hz⟩ := al1 hW
    have b_a_1 := n11 hW
    have HB1 := Lib.hid hb
    clear hW hz hb
    refine (refMay_any (t := t) (vs := [_, _, _, _]) (HA.out.below HB1.out hB) (Nat.le_trans hB HB1.out.size)).mono ?_
    rintro x w2 ⟨rfl, hb⟩
    have b_a_2 := b_a_1.later hb
    have HB2 := Lib.hid (bthen HB1.out hb)
    clear b_a_1
    clear hb
    rw [HM.out]
    have k_a := b_a_2.cell
    have l_a := b_a_2.lt
    go_wp2_with fail
    clear k_a l_a
    go_ret
    exact ⟨ret_bool (by unfold fixedB; rw [HM.out, Bool.and_false]), HB2.out⟩

theorem ops_sizes {d B : Nat} {e : List OpD} {vs : List Value} {w : World} (he : (ExR d).rd w B e vs) : ∀ o ∈ e, o.term.s.size ≤ 140737488351232 := by
  obtain ⟨_, rfl, A, c, rfl, hc1, hc2, hl⟩ := he
  intro o ho
  obtain ⟨i, hi, rfl⟩ := List.getElem_of_mem ho
  obtain ⟨b, off, e, hb, hr⟩ := hl (by omega)
  obtain ⟨vs, hv, ⟨x, hx, hrd⟩, _⟩ := hr i hi
  rw [List.getElem?_eq_getElem hi] at hx
  simp only [Option.some.injEq] at hx
  subst hx
  obtain ⟨A2, c2, _, _, _, _, ht⟩ := OpR.cells hrd
  obtain ⟨_, _, _, _, _, h, _⟩ := RTm.cells ht
  exact h
theorem names_sizes {d B : Nat} {e : List OpD} {vs : List Value} {w : World} (he : (ExR d).rd w B e vs) : ∀ l ∈ namesE e, l.length ≤ 140737488351232 := by
  intro l hl
  unfold namesE at hl
  split at hl
  · rw [mem_uniqL] at hl
    unfold exprVars at hl
    obtain ⟨o, ho, rfl⟩ := List.mem_map.1 hl
    have := ops_sizes he o (List.mem_filter.1 ho).1
    rw [← Lib.size_eq]
    exact this
  · cases hl
theorem namesE_len {e : List OpD} (h : e.length ≤ 32) : (namesE e).length ≤ 32 := by
  unfold namesE
  split
  · exact Nat.le_trans (uniqL_length _) (Nat.le_trans (exprVars_le e) h)
  · simp
end Go.Proofs.YtiplipdigabidaaGreat
