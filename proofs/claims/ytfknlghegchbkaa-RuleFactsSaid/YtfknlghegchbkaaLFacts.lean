/- viaticumlaw14.RuleFacts: a fact is a predicate without variables. -/
import Derived.Test.YtfknlghegchbkaaLNames
import Derived.Test.YtfknlghegchbkaaRef4
import Derived.Test.YtfknlghegchbkaaSingle
set_option linter.unusedVariables false
set_option linter.unusedSimpArgs false
namespace Go.Proofs.Ytfknlghegchbkaa
open Go.ChangeShapes Go.WideShapes Go.ChangeAt Go.RowKit

def plusVar (p : Pr) (name : ByteArray) : Pr := ⟨p.name, p.terms ++ [varT name]⟩
theorem factPred {p : Pr} (h : mayFactB p = true) : mayPredB p = true := by
  unfold mayFactB at h
  simp only [Bool.and_eq_true] at h
  exact h.1
theorem factLen {p : Pr} (h : mayFactB p = true) : p.terms.length ≤ 8 := mayPredB_len (factPred h)
theorem factVarsOf {p : Pr} (h : mayFactB p = true) : varsOf p.terms = [] := by
  unfold mayFactB at h
  simp only [Bool.and_eq_true, List.all_eq_true] at h
  unfold varsOf
  rw [List.map_eq_nil_iff, List.filter_eq_nil_iff]
  intro t ht
  have := h.2.2 t ht
  unfold fixedB at this
  simp only [Bool.and_eq_true, decide_eq_true_eq] at this
  simpa using this.1
theorem uniqL_nil : uniqL [] = [] := List.eq_nil_of_length_eq_zero (Nat.le_zero.1 (uniqL_length []))
theorem uniqL_one (x : Bytes) : uniqL [x] = [x] := rising_ext (uniqL_rising _) (by simp) (fun y => mem_uniqL _ _)
theorem factVars {p : Pr} (h : mayFactB p = true) : uniqL (varsAll [p]) = [] := by
  have : varsAll [p] = [] := by simp [varsAll, factVarsOf h]
  rw [this, uniqL_nil]
theorem factQ {p : Pr} (name : ByteArray) (h : mayFactB p = true) : uniqL (varsAll [plusVar p name]) = [bs name] := by
  have : varsAll [plusVar p name] = [bs name] := by
    simp only [varsAll, plusVar, List.flatMap_cons, List.flatMap_nil, List.append_nil, varsOf_append, factVarsOf h, varsOf_var, List.nil_append]
  rw [this, uniqL_one]
theorem factQ1 {p : Pr} (name : ByteArray) (h : mayFactB p = true) : (varsAll [plusVar p name]).length ≤ 1000000 := by
  have : varsAll [plusVar p name] = [bs name] := by
    simp only [varsAll, plusVar, List.flatMap_cons, List.flatMap_nil, List.append_nil, varsOf_append, factVarsOf h, varsOf_var, List.nil_append]
  rw [this]; simp
theorem factV1 {p : Pr} (h : mayFactB p = true) : (varsAll [p]).length ≤ 1000000 := by
  have : varsAll [p] = [] := by simp [varsAll, factVarsOf h]
  rw [this]; simp
theorem factNot (p : Pr) (name : ByteArray) : mayFactB (plusVar p name) = false := by
  unfold mayFactB plusVar
  have : (p.terms ++ [varT name]).all fixedB = false := by
    rw [List.all_append]
    have : fixedB (varT name) = false := by simp [fixedB, varT]
    simp [this]
  rw [this, Bool.and_false, Bool.and_false]

set_option maxRecDepth 100000 in
set_option maxHeartbeats 4000000 in
theorem ruleFacts_any {d B : Nat} {p : Pr} {name : ByteArray} {vs : List Value} {w : World} (hp : (PrR d).rd w B p vs) (hnm : name.size ≤ 140737488351232) (hd : 1 ≤ d) (hB : B ≤ w.heap.size) :
    Calls Try.prog 3 #[.agg vs.toArray, .string name] w fun x w' => x = .returned (.bool true) ∧ Below w.heap.size w w' := by
  obtain ⟨_, rfl, hs, A, c, rfl, h1, h2, hl⟩ := hp
  simp only [TmR] at h2
  have HL := Lib.hid (show RSl (TmR d) w B p.terms (.slice A p.terms.length c) from ⟨A, c, rfl, h1, by simp only [TmR]; omega, hl⟩)
  have HP := Lib.hid (show (PrR d).rd w B p [.string p.name, .slice A p.terms.length c] from ⟨_, rfl, hs, HL.out⟩)
  have HR := Lib.hid (show (RuR d).rd w B ⟨p, [], [], []⟩ [.string p.name, .slice A p.terms.length c, .slice none 0 0, .slice none 0 0, .slice none 0 0] from ⟨_, _, _, _, rfl, hs, HL.out, rsl_nil _ _ _, rsl_nil _ _ _, rsl_nil _ _ _⟩)
  have HRl := Lib.hid hl
  obtain ⟨i0, hi0, hz0, hz1, hz2⟩ := info_parts infoTm
  clear hl
  go_enter Try.func3, Try.ntmps3
  go_wp2_with fail
  generalize hW : World.alloc _ _ = w1
  obtain ⟨hb, hz⟩ := al1 hW
  have b_p_1 := n11 hW
  have HB1 := Lib.hid hb
  clear hW hz hb
  refine (weight_any (d := d) (B := B) (r := ⟨p, [], [], []⟩) (vs := [_, _, _, _, _]) ((RuR d).keep HB1.out hB HR.out) (Nat.le_trans hB HB1.out.size)).mono ?_
  rintro x w2 ⟨⟨m, rfl⟩, hb⟩
  have b_p_2 := b_p_1.later hb
  have HB2 := Lib.hid (bthen HB1.out hb)
  clear b_p_1
  clear hb
  by_cases t1 : m ≥ 400
  · have k_p := b_p_2.cell
    have l_p := b_p_2.lt
    go_wp2_with fail
    clear k_p l_p
    refine (awake_any _).mono ?_
    rintro x w3 ⟨rfl, hb⟩
    have b_p_3 := b_p_2.later hb
    have HB3 := Lib.hid (bthen HB2.out hb)
    clear b_p_2
    clear hb
    have k_p := b_p_3.cell
    have l_p := b_p_3.lt
    go_wp2_with fail
    clear k_p l_p
    go_ret
    exact ⟨rfl, HB3.out⟩
  have k_p := b_p_2.cell
  have l_p := b_p_2.lt
  go_wp2_with fail
  clear k_p l_p
  refine (mayFact_any (d := d) (B := B) (p := p) (vs := [_, _]) ((PrR d).keep HB2.out hB HP.out) (Nat.le_trans hB HB2.out.size)).mono ?_
  rintro x w3 ⟨rfl, hb⟩
  have b_p_3 := b_p_2.later hb
  have HB3 := Lib.hid (bthen HB2.out hb)
  clear b_p_2
  clear hb
  by_cases t3 : mayFactB p = true
  rotate_left
  · simp only [Bool.not_eq_true] at t3
    rw [t3]
    have k_p := b_p_3.cell
    have l_p := b_p_3.lt
    go_wp2_with fail
    clear k_p l_p
    refine (awake_any _).mono ?_
    rintro x w4 ⟨rfl, hb⟩
    have b_p_4 := b_p_3.later hb
    have HB4 := Lib.hid (bthen HB3.out hb)
    clear b_p_3
    clear hb
    have k_p := b_p_4.cell
    have l_p := b_p_4.lt
    go_wp2_with fail
    clear k_p l_p
    go_ret
    exact ⟨rfl, HB4.out⟩
  rw [t3]
  have HM := Lib.hid (factPred t3)
  have HV := Lib.hid (factVars t3)
  have HQ := Lib.hid (factQ name t3)
  have HQ1 := Lib.hid (factQ1 name t3)
  have HV1 := Lib.hid (factV1 t3)
  have HN := Lib.hid (factNot p name)
  have HLEN : p.terms.length ≤ 8 := factLen t3
  clear t3
  have hB3 := Nat.le_trans hB HB3.out.size
  have hq0 := (Blk.new w3 #[.string p.name, .slice A p.terms.length c] 24).old (.cells #[] 34)
  have hown0 := OwnR.empty (base := w3.heap.size + 1) (TmR d) 34 (w := (w3.alloc (.cells #[.string p.name, .slice A p.terms.length c] 24)).alloc (.cells #[] 34)) (b := w3.heap.size + 1) (by have := heap_alloc_new (w3.alloc (.cells #[.string p.name, .slice A p.terms.length c] 24)) (.cells #[] 34); simpa using this) (Nat.le_refl _) B
  have hbw0 := (al2 (w := w3) (o1 := .cells #[.string p.name, .slice A p.terms.length c] 24) (o2 := .cells #[] 34) rfl).1
  have hsrc0 := (HRl.out.keep (bthen HB3.out hbw0) hB).src
  have HO := Lib.hid (And.intro hown0 (And.intro hsrc0 (And.intro hbw0 hq0)))
  clear hown0 hsrc0 hbw0 hq0
  have k_p := b_p_3.cell
  have l_p := b_p_3.lt
  go_wp2_with (first
    | (at_builtin
       refine wpList_append_R (R := TmR d) (e := 34) rfl (.tmp 18) (.tmp 20) 22 rfl (bytes := 56) Try.underlying22 hi0 hz0 hz1 hz2 rfl (show 0 < 4 by omega) (single_tm d) rfl HO.out.1 rfl HO.out.2.1 rfl (by omega) (by simp only [List.length_nil]; omega) (by omega) (by simp) ?_
       intro v1 w4 hown1 hb4
       have HO1 := Lib.hid (And.intro hown1 (And.intro (show w3.heap.size + 1 ≤ w4.heap.size from Nat.le_trans (by rw [World.size_alloc, World.size_alloc]; omega) hb4.size) (HO.out.2.2.2.keep hb4 (Nat.lt_succ_self _))))
       have HB4 := Lib.hid (HO.out.2.2.1.trans (hb4.mono (Nat.le_succ _)))
       clear hown1 hb4)
    | (at_builtin
       refine wpList_append_R (R := TmR d) (e := 34) (ys := [varT name]) rfl (.tmp 21) (.tmp 24) 22 rfl (bytes := 56) Try.underlying22 hi0 hz0 hz1 hz2 rfl (show 0 < 4 by omega) (single_tm d) rfl (HO1.out.1.later ((Below.refl _ _).alloc (Nat.le_refl _) _) (Nat.le_trans hB3 (Nat.le_of_succ_le HO1.out.2.1))) rfl (Blk.src (n11 rfl) (RTm.deeper hd (awT _ _ name hnm))) rfl (by omega) (by simp only [List.nil_append, List.length_cons, List.length_nil]; omega) (by omega) (Nat.le_trans HO1.out.2.1 (by rw [World.size_alloc]; omega)) ?_
       intro v2 w5 hown2 hb5
       have hsz5 := hb5.size
       have hbq := ((HO1.out.2.2.old _).keep hb5 (Nat.lt_succ_self _))
       have HB5 := Lib.hid (HB4.out.trans (((Below.refl w3.heap.size w4).alloc (Nat.le_of_succ_le HO1.out.2.1) _).trans (hb5.mono (Nat.le_succ _))))
       obtain ⟨A2, c2, rfl⟩ := hown2.form
       have HO2 := Lib.hid hown2
       have kq := hbq.cell
       have lq := hbq.lt
       have fq := hbq.free
       clear hown2 hb5 hsz5))
  clear kq fq k_p l_p
  simp only [List.nil_append, List.length_append, List.length_cons, List.length_nil, Nat.zero_add] at HO2
  generalize hW : World.alloc _ _ = w6
  have hb6 : Below w3.heap.size w3 w6 := hW ▸ (HB5.out.setCell (Nat.le_refl _) _).alloc (by simp [World.setCell]; omega) _
  have b_q_6 : Blk w6 w3.heap.size #[.string p.name, .slice A2 (p.terms.length + 1) c2] := hW ▸ ((hbq.set_ 1 _).old _)
  have b_x_6 : Blk w6 w5.heap.size #[.string p.name, .slice A2 (p.terms.length + 1) c2] := by
    have := n11 hW
    rwa [show (w5.setCell ⟨w3.heap.size, 1, none⟩ (.slice A2 (p.terms.length + 1) c2)).heap.size = w5.heap.size by simp [World.setCell]] at this
  have b_p_6 := b_p_3.later hb6
  have HB6 := Lib.hid (bthen HB3.out hb6)
  have HOW := (HO2.out.far (c := w3.heap.size) (i := 1) (Nat.lt_succ_self _) hB3 (.slice A2 (p.terms.length + 1) c2)).later (w' := w6) (hW ▸ (Below.refl _ _).alloc (Nat.le_refl _) _) (by simp [World.setCell]; omega)
  have hs6 := hb6.size
  have hrd := HOW.reads (by omega) (by simp only [List.length_append, List.length_cons, List.length_nil, TmR]; omega)
  have HQP := Lib.hid (show (PrR d).rd w6 w6.heap.size (plusVar p name) [.string p.name, .slice A2 (p.terms.length + 1) c2] from ⟨_, rfl, hs, hrd⟩)
  have HX := Lib.hid b_x_6
  clear hW hb6 hbq b_p_3 HO HO1 HO2 HOW hrd HB4 HB5 b_x_6
  refine (names_any d [plusVar p name] (some ⟨w5.heap.size, 0, none⟩) 1 w6.heap.size w6 (HX.out.rl HQP.out HX.out.lt) (Nat.le_refl _) (by simp) HQ1.out).mono ?_
  rintro x w7 ⟨v7, rfl, hown, hb⟩
  have b_p_7 := b_p_6.later hb
  have b_q_7 := b_q_6.later hb
  have HB7 := Lib.hid (bthen HB6.out hb)
  have HC7 := Lib.hid hb
  clear b_p_6 b_q_6
  clear hb
  rw [HQ.out] at hown
  obtain ⟨A7, c7, rfl, hc7, hrl7⟩ := hown.reads (by simpa [bs_length] using hnm) (by simp)
  have HRL7 := Lib.hid hrl7
  clear hown hrl7
  have hv7 : ([bs name] : List Bytes).length = 1 := rfl
  rw [hv7] at hc7 ⊢
  have k_p := b_p_7.cell
  have l_p := b_p_7.lt
  have k_q := b_q_7.cell
  have l_q := b_q_7.lt
  go_wp2_with fail
  clear k_p l_p k_q l_q
  refine (mayPred_any (d := d) (B := B) (p := p) (vs := [_, _]) ((PrR d).keep HB7.out hB HP.out) (Nat.le_trans hB HB7.out.size)).mono ?_
  rintro x w8 ⟨rfl, hb⟩
  have b_p_8 := b_p_7.later hb
  have b_q_8 := b_q_7.later hb
  have HB8 := Lib.hid (bthen HB7.out hb)
  have HC8 := Lib.hid (bthen HC7.out hb)
  have HD8 := Lib.hid hb
  clear b_p_7 b_q_7
  clear hb
  rw [HM.out]
  have k_p := b_p_8.cell
  have l_p := b_p_8.lt
  have k_q := b_q_8.cell
  have l_q := b_q_8.lt
  go_wp2_with fail
  clear k_p l_p k_q l_q
  generalize hW : World.alloc _ _ = w9
  obtain ⟨hb, hz⟩ := al1 hW
  have b_y_9 := n11 hW
  have b_p_9 := b_p_8.later hb
  have b_q_9 := b_q_8.later hb
  have HB9 := Lib.hid (bthen HB8.out hb)
  have HC9 := Lib.hid (bthen HC8.out hb)
  have HD9 := Lib.hid (bthen HD8.out hb)
  clear b_p_8 b_q_8
  clear hW hz hb
  refine (names_any d [p] (some ⟨w8.heap.size, 0, none⟩) 1 w9.heap.size w9 (b_y_9.rl ((PrR d).wide (Nat.le_trans hB HB9.out.size) ((PrR d).keep HB9.out hB HP.out)) b_y_9.lt) (Nat.le_refl _) (by simp) HV1.out).mono ?_
  rintro x w10 ⟨v10, rfl, hown, hb⟩
  have b_p_10 := b_p_9.later hb
  have b_q_10 := b_q_9.later hb
  have b_y_10 := b_y_9.later hb
  have HB10 := Lib.hid (bthen HB9.out hb)
  have HC10 := Lib.hid (bthen HC9.out hb)
  have HD10 := Lib.hid (bthen HD9.out hb)
  clear b_p_9 b_q_9 b_y_9
  clear hb
  rw [HV.out] at hown
  obtain ⟨A10, c10, rfl, hc10, hrl10⟩ := hown.reads (by simp) (by simp)
  clear hown hrl10
  have hv10 : ([] : List Bytes).length = 0 := rfl
  rw [hv10] at hc10 ⊢
  have k_p := b_p_10.cell
  have l_p := b_p_10.lt
  have k_q := b_q_10.cell
  have l_q := b_q_10.lt
  have k_y := b_y_10.cell
  have l_y := b_y_10.lt
  go_wp2_with fail
  clear k_p l_p k_q l_q k_y l_y
  refine (mayFact_any (d := d) (B := w6.heap.size) (p := plusVar p name) (vs := [_, _]) ((PrR d).keep HC10.out (Nat.le_refl _) HQP.out) HC10.out.size).mono ?_
  rintro x w11 ⟨rfl, hb⟩
  have b_p_11 := b_p_10.later hb
  have b_q_11 := b_q_10.later hb
  have b_y_11 := b_y_10.later hb
  have HB11 := Lib.hid (bthen HB10.out hb)
  have HC11 := Lib.hid (bthen HC10.out hb)
  have HD11 := Lib.hid (bthen HD10.out hb)
  clear b_p_10 b_q_10 b_y_10
  clear hb
  rw [HN.out]
  obtain ⟨b, off, rfl, hb, hcell⟩ := strs_at HRL7.out HD11.out (Nat.le_refl _) (by simp)
  have cn : w11.cell? ⟨b, off, none⟩ = some (.string name) := by
    have := hcell 0 (by simp)
    rw [Nat.add_zero] at this
    rw [this]
    simp [mkS_bs]
  clear hcell
  have k_p := b_p_11.cell
  have l_p := b_p_11.lt
  have k_q := b_q_11.cell
  have l_q := b_q_11.lt
  have k_y := b_y_11.cell
  have l_y := b_y_11.lt
  go_wp2_with fail
  clear k_p l_p k_q l_q k_y l_y
  clear cn
  refine (mayPred_any (d := d) (B := w6.heap.size) (p := plusVar p name) (vs := [_, _]) ((PrR d).keep HC11.out (Nat.le_refl _) HQP.out) HC11.out.size).mono ?_
  rintro x w12 ⟨rfl, hb⟩
  have b_p_12 := b_p_11.later hb
  have b_q_12 := b_q_11.later hb
  have b_y_12 := b_y_11.later hb
  have HB12 := Lib.hid (bthen HB11.out hb)
  have HC12 := Lib.hid (bthen HC11.out hb)
  have HD12 := Lib.hid (bthen HD11.out hb)
  clear b_p_11 b_q_11 b_y_11
  clear hb
  by_cases tq : mayPredB (plusVar p name) = true
  rotate_left
  · simp only [Bool.not_eq_true] at tq
    rw [tq]
    have k_p := b_p_12.cell
    have l_p := b_p_12.lt
    have k_q := b_q_12.cell
    have l_q := b_q_12.lt
    have k_y := b_y_12.cell
    have l_y := b_y_12.lt
    go_wp2_with fail
    clear k_p l_p k_q l_q k_y l_y
    refine (awake_any _).mono ?_
    rintro x w13 ⟨rfl, hb⟩
    have b_p_13 := b_p_12.later hb
    have b_q_13 := b_q_12.later hb
    have b_y_13 := b_y_12.later hb
    have HB13 := Lib.hid (bthen HB12.out hb)
    have HC13 := Lib.hid (bthen HC12.out hb)
    have HD13 := Lib.hid (bthen HD12.out hb)
    clear b_p_12 b_q_12 b_y_12
    clear hb
    have k_p := b_p_13.cell
    have l_p := b_p_13.lt
    have k_q := b_q_13.cell
    have l_q := b_q_13.lt
    have k_y := b_y_13.cell
    have l_y := b_y_13.lt
    go_wp2_with fail
    clear k_p l_p k_q l_q k_y l_y
    go_ret
    exact ⟨rfl, HB13.out⟩
  have hl2 : (p.terms.length : Int) + 1 ≤ 8 := by
    have := mayPredB_len tq
    simp only [plusVar, List.length_append, List.length_cons, List.length_nil] at this
    omega
  rw [tq]
  have k_p := b_p_12.cell
  have l_p := b_p_12.lt
  have k_q := b_q_12.cell
  have l_q := b_q_12.lt
  have k_y := b_y_12.cell
  have l_y := b_y_12.lt
  go_wp2_with fail
  clear k_p l_p k_q l_q k_y l_y
  refine (refMayPred_any (d := d) (B := w6.heap.size) (p := plusVar p name) (vs := [_, _]) ((PrR d).keep HC12.out (Nat.le_refl _) HQP.out) HC12.out.size).mono ?_
  rintro x w13 ⟨rfl, hb⟩
  have b_p_13 := b_p_12.later hb
  have b_q_13 := b_q_12.later hb
  have b_y_13 := b_y_12.later hb
  have HB13 := Lib.hid (bthen HB12.out hb)
  have HC13 := Lib.hid (bthen HC12.out hb)
  have HD13 := Lib.hid (bthen HD12.out hb)
  clear b_p_12 b_q_12 b_y_12
  clear hb
  rw [tq]
  have k_p := b_p_13.cell
  have l_p := b_p_13.lt
  have k_q := b_q_13.cell
  have l_q := b_q_13.lt
  have k_y := b_y_13.cell
  have l_y := b_y_13.lt
  go_wp2_with fail
  clear k_p l_p k_q l_q k_y l_y
  refine (awake_any _).mono ?_
  rintro x w14 ⟨rfl, hb⟩
  have b_p_14 := b_p_13.later hb
  have b_q_14 := b_q_13.later hb
  have b_y_14 := b_y_13.later hb
  have HB14 := Lib.hid (bthen HB13.out hb)
  have HC14 := Lib.hid (bthen HC13.out hb)
  have HD14 := Lib.hid (bthen HD13.out hb)
  clear b_p_13 b_q_13 b_y_13
  clear hb
  have k_p := b_p_14.cell
  have l_p := b_p_14.lt
  have k_q := b_q_14.cell
  have l_q := b_q_14.lt
  have k_y := b_y_14.cell
  have l_y := b_y_14.lt
  go_wp2_with fail
  clear k_p l_p k_q l_q k_y l_y
  go_ret
  exact ⟨rfl, HB14.out⟩
end Go.Proofs.Ytfknlghegchbkaa
