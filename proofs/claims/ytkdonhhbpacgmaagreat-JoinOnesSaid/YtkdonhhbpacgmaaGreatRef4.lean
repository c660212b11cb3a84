/- The document's own answers (viaticumref6.May, viaticumref11.MayPred), as the program's. -/
import Derived.Test.YtkdonhhbpacgmaaGreatRef2
import Derived.Test.YtkdonhhbpacgmaaGreatSort
set_option linter.unusedVariables false
set_option linter.unusedSimpArgs false
namespace Go.Proofs.YtkdonhhbpacgmaaGreat
open Go.ChangeShapes Go.WideShapes Go.ChangeAt Go.RowKit
def setB (t : Tm) : Bool := decide (t.n = 0) && decide (t.s.size = 0) && risingB t.l
theorem rising_not {l : List Tm} {k : Nat} (hlt : k < l.length) (hn : riseAt l k = false) : risingB l = false := by
 rw [Bool.eq_false_iff, risingB]
 intro h
 rw [Bool.and_eq_true, List.all_eq_true] at h
 have := h.1 k (by simpa using hlt)
 rw [hn] at this
 cases this
theorem rising_long {l : List Tm} (h : 16 < l.length) : risingB l = false := by
 rw [risingB, decide_eq_false (by omega), Bool.and_false]
set_option maxRecDepth 100000 in
set_option maxHeartbeats 2000000 in
theorem maySet_of (d : Nat) (hM : ∀ (t : Tm) (vs : List Value) (B : Nat) (w : World), RTm w B d t vs → B ≤ w.heap.size →
     Calls Tryz.prog 55 #[.agg vs.toArray] w fun e w' => e = .returned (.bool (mayB t)) ∧ Below w.heap.size w w')
   (t : Tm) (vs : List Value) (B : Nat) (w : World) (ht : RTm w B (d + 1) t vs) (hB : B ≤ w.heap.size) :
   Calls Tryz.prog 92 #[.agg vs.toArray] w fun e w' => e = .returned (.bool (setB t)) ∧ Below w.heap.size w w' := by
 have HM := Lib.hid hM
 clear hM
 obtain ⟨A, c, rfl, hc1, hc2, hs, _, _, hl⟩ := ht.cells
 obtain ⟨kind, n, s, l⟩ := t
 dsimp only at hc1 hc2 hs hl
 have hbel : ∀ o : Obj, Below w.heap.size w (w.alloc o) := fun o => (Below.refl _ _).alloc (Nat.le_refl _) _
 have HB := Lib.hid hbel
 have HL := Lib.hid hl
 clear hbel ht hl
 by_cases t1 : n = 0
 rotate_left
 · have u1 : (n != 0) = true := by simpa using t1
   have T1 := Lib.hid t1
   clear t1
   go_enter Tryz.func92, Tryz.ntmps92
   go_wp2_with fail
   go_ret
   exact ⟨ret_bool (by simp [setB, T1.out]), HB.out _⟩
 have u1 : (n != 0) = false := by simpa using t1
 have T1 := Lib.hid t1
 clear t1
 by_cases t2 : s.size = 0
 rotate_left
 · have u2 : s.toList.isEmpty = false := by rw [isEmpty_empty]; simpa using t2
   have T2 := Lib.hid t2
   clear t2
   go_enter Tryz.func92, Tryz.ntmps92
   go_wp2_with fail
   go_ret
   exact ⟨ret_bool (by simp [setB, T2.out]), HB.out _⟩
 have u2 : s.toList.isEmpty = true := by rw [isEmpty_empty]; simpa using t2
 have T2 := Lib.hid t2
 clear t2
 by_cases t3 : 16 < l.length
 · go_enter Tryz.func92, Tryz.ntmps92
   go_wp2_with fail
   go_ret
   exact ⟨ret_bool (by simp [setB, rising_long t3]), HB.out _⟩
 go_enter Tryz.func92, Tryz.ntmps92
 go_wp2_with fail
 generalize hW : World.alloc _ _ = W
 obtain ⟨hb, hz⟩ := al1 hW
 have bt := n11 hW
 have HB1 := Lib.hid hb
 have hB1 : B ≤ W.heap.size := by omega
 clear hW hz hb HB
 go_loopw [22] (fun i wr => ∃ k : Nat, k ≤ l.length ∧ i = .int .i64 k ∧ Below W.heap.size W wr ∧ ∀ i, i < k → riseAt l i = true) (fun i _ => l.length - (intOf i).toNat)
 case atStart => exact ⟨0, Nat.zero_le _, rfl, Below.refl _ _, fun i h => absurd h (by omega)⟩
 case round =>
   obtain ⟨k, hk, rfl, hbw, hall⟩ := hrel
   have HA := Lib.hid hall
   clear hall
   have ct := (bt.later hbw).cell
   have lt := (bt.later hbw).lt
   by_cases hlt : k < l.length
   · have hl := HL.out.below HB1.out hB
     obtain ⟨b, off, rfl, hb⟩ := hl.base hbw hB1 (by omega)
     obtain ⟨x, Ax, cx, hx, c0, c1, c2, c3, hr⟩ := hl.at_ hbw hB1 hlt
     obtain ⟨y, Ay, cy, hy, f0, f1, f2, f3, hr0⟩ := hl.at_ (k := 0) hbw hB1 (by omega)
     obtain ⟨z, Az, cz, hz, g0, g1, g2, g3, hrz⟩ := hl.at_ (k := k - 1) hbw hB1 (by omega)
     have HR := Lib.hid (riseAt_iff hx hy hz)
     have HK0 := Lib.hid (show k = 0 → x = y from fun h => by subst h; rw [hx] at hy; simpa using hy)
     have HBw := Lib.hid hbw
     simp only [Nat.zero_mul, Nat.add_zero] at f0 f1 f2 f3
     clear hx hy hz f1 f2 f3 hl
     go_wp2_with fail
     generalize hW2 : World.alloc _ _ = W2
     obtain ⟨hb2, hz2⟩ := al1 hW2
     have q0 := (n11 hW2).regrown
     have q1 := ((bt.later hbw).later hb2).regrown
     have q4 := cell_regrown ((hb2.cell (p := ⟨b, off, none⟩) hb).trans f0)
     have q5 := cell_regrown ((hb2.cell (p := ⟨b, off + (k - 1) * 4, none⟩) hb).trans g0)
     have q6 := cell_regrown ((hb2.cell (p := ⟨b, off + (k - 1) * 4 + 1, none⟩) hb).trans g1)
     have q7 := cell_regrown ((hb2.cell (p := ⟨b, off + (k - 1) * 4 + 2, none⟩) hb).trans g2)
     have q8 := cell_regrown ((hb2.cell (p := ⟨b, off + (k - 1) * 4 + 3, none⟩) hb).trans g3)
     have hBW : B ≤ W2.heap.size := by have := hbw.size; omega
     have hrx := Lib.hid (hr.below hb2 (by have := hbw.size; omega))
     have hrz' := Lib.hid (hrz.below hb2 (by have := hbw.size; omega))
     have HB2 := Lib.hid hb2
     have hl0 : 0 < l.length := by omega
     clear hW2 hz2 hb2 ct lt c0 c1 c2 c3 f0 g0 g1 g2 g3 hr hrz hr0
     have hcases : (x.kind == 1) = true ∨ ((x.kind == 1) = false ∧ (x.kind == 7) = true) ∨ ((x.kind == 1) = false ∧ (x.kind == 7) = false ∧ mayB x = false) ∨
         ((x.kind == 1) = false ∧ (x.kind == 7) = false ∧ mayB x = true ∧ decide (0 < k) = false) ∨
         ((x.kind == 1) = false ∧ (x.kind == 7) = false ∧ mayB x = true ∧ 0 < k ∧ (x.kind != y.kind) = true) ∨
         ((x.kind == 1) = false ∧ (x.kind == 7) = false ∧ mayB x = true ∧ 0 < k ∧ (x.kind != y.kind) = false ∧ decide (0 ≤ cmpT 3 z x) = true) ∨
         ((x.kind == 1) = false ∧ (x.kind == 7) = false ∧ mayB x = true ∧ 0 < k ∧ (x.kind != y.kind) = false ∧ decide (0 ≤ cmpT 3 z x) = false) := by
       cases (x.kind == 1) <;> cases (x.kind == 7) <;> cases mayB x <;> cases (x.kind != y.kind) <;> cases decide (0 ≤ cmpT 3 z x) <;> rcases Nat.eq_zero_or_pos k with h | h <;> simp [h]
     rcases hcases with h1 | ⟨h1, h7⟩ | ⟨h1, h7, hm⟩ | ⟨h1, h7, hm, hk0⟩ | ⟨h1, h7, hm, hk0, hy⟩ | ⟨h1, h7, hm, hk0, hy, hc⟩ | ⟨h1, h7, hm, hk0, hy, hc⟩
     all_goals
       refine wp_region_quiet_below (by kernel_rfl) (by kernel_rfl) ?_
       repeat (go_big_quiet_step ((first
         | (go_at_call 55; exact Calls.regrown_of (HM.out x [_, _, _, _] B _ (hrx.out.below (below_regrown _ _ _) hBW) (Nat.le_trans hBW (below_regrown _ _ _).size)))
         | (go_at_call 32; exact Calls.regrown_of (refCompare_any (d := d) (B := B) (a := z) (b := x) (va := [_, _, _, _]) (vb := [_, _, _, _]) (hrz'.out.below (below_regrown _ _ _) hBW) (hrx.out.below (below_regrown _ _ _) hBW) (Nat.le_trans hBW (below_regrown _ _ _).size))))))
       refine wpQuiet_nil ?_
       intro w3 hw3
       have hb3 : Below W2.heap.size W2 w3 := by obtain ⟨p, rfl⟩ := hw3; exact below_regrown _ _ _
       clear hw3 q0 q1 q4 q5 q6 q7 q8
       have HB3 := Lib.hid (bthen HBw.out (bthen HB2.out hb3))
       have hfin := Lib.hid (bthen HB1.out HB3.out)
       clear hb3
       go_wp2_with fail
       try simp only [beq_iff_eq, bne_iff_ne, beq_eq_false_iff_ne, bne_eq_false_iff_eq, decide_eq_true_eq, decide_eq_false_iff_not] at h1
       try simp only [beq_iff_eq, bne_iff_ne, beq_eq_false_iff_ne, bne_eq_false_iff_eq, decide_eq_true_eq, decide_eq_false_iff_not] at h7
       try simp only [beq_iff_eq, bne_iff_ne, beq_eq_false_iff_ne, bne_eq_false_iff_eq, decide_eq_true_eq, decide_eq_false_iff_not] at hk0
       try simp only [beq_iff_eq, bne_iff_ne, beq_eq_false_iff_ne, bne_eq_false_iff_eq, decide_eq_true_eq, decide_eq_false_iff_not] at hy
       try simp only [beq_iff_eq, bne_iff_ne, beq_eq_false_iff_ne, bne_eq_false_iff_eq, decide_eq_true_eq, decide_eq_false_iff_not] at hc
       first
         | (have hn : riseAt l k = false := by
              rw [Bool.eq_false_iff]
              intro h
              have h2 := HR.out.1 h
              rw [fixedB] at h2
              simp only [Bool.and_eq_true, decide_eq_true_eq] at h2
              first
                | exact h2.1.1.1.1 h1
                | exact h2.1.1.2 h7
                | (rw [hm] at h2; exact absurd h2.1.1.1.2 (by decide))
                | exact hy h2.1.2
                | (have := h2.2 hk0; omega)
            go_ret
            exact ⟨ret_bool (by simp [setB, rising_not hlt hn]), hfin.out⟩)
         | (have hn : riseAt l k = true := HR.out.2 (by
              rw [fixedB, hm]
              refine ⟨⟨⟨by simpa using h1, h7⟩, ?_⟩, fun h => ?_⟩
              · first
                  | exact hy
                  | rw [HK0.out (by omega)]
              · omega)
            go_roundw
            case rel => exact ⟨k + 1, by omega, by go_num, HB3.out, fun i hi => by
              rcases Nat.lt_or_ge i k with h1 | h1
              · exact HA.out i h1
              · obtain rfl : i = k := by omega
                exact hn⟩
            case measure => simp [intOf]; omega)
   · have hfin := Lib.hid (bthen HB1.out hbw)
     go_wp2_with fail
     go_ret
     refine ⟨ret_bool ?_, hfin.out⟩
     obtain rfl : k = l.length := by omega
     have : (List.range l.length).all (riseAt l) = true := by simpa using HA.out
     rw [setB]
     simp only [T1.out, T2.out, decide_true, Bool.true_and]
     rw [risingB, this, decide_eq_true (by omega)]
     rfl
open Go.ChangeShapes Go.WideShapes Go.ChangeAt Go.RowKit
theorem len_zero {α : Type} (l : List α) : ((l.length : Int) == 0) = decide (l = []) := by
 cases l with
 | nil => simp
 | cons a l => simp; omega
set_option maxRecDepth 100000 in
set_option maxHeartbeats 2000000 in
theorem refMay_of (d : Nat) (hR : ∀ (t : Tm) (vs : List Value) (B : Nat) (w : World), RTm w B (d + 1) t vs → B ≤ w.heap.size →
     Calls Tryz.prog 92 #[.agg vs.toArray] w fun e w' => e = .returned (.bool (setB t)) ∧ Below w.heap.size w w')
   (t : Tm) (vs : List Value) (B : Nat) (w : World) (ht : RTm w B (d + 1) t vs) (hB : B ≤ w.heap.size) :
   Calls Tryz.prog 55 #[.agg vs.toArray] w fun e w' => e = .returned (.bool (mayB t)) ∧ Below w.heap.size w w' := by
 have HR := Lib.hid hR
 clear hR
 have HT := Lib.hid ht
 obtain ⟨A, c, rfl, hc1, hc2, hs, _, _, hl⟩ := ht.cells
 obtain ⟨kind, n, s, l⟩ := t
 dsimp only at hc1 hc2 hs hl
 have hbel : ∀ o : Obj, Below w.heap.size w (w.alloc o) := fun o => (Below.refl _ _).alloc (Nat.le_refl _) _
 have HB := Lib.hid hbel
 clear hbel ht hl
 by_cases hk1 : kind = 1
 · subst hk1
   by_cases hn : nameB (bs s) = true
   all_goals
     try rw [Bool.not_eq_true] at hn
     go_enter Tryz.func55, Tryz.ntmps55
     go_wp2_with fail
     refine (refName_any s _ (by unfold maxLen; omega)).mono ?_
     rintro e w' ⟨rfl, rfl⟩
     have HN := Lib.hid hn
     rw [hn]
     go_wp2_with fail
     all_goals
       go_ret
       refine ⟨ret_bool ?_, HB.out _⟩
       clear HR HB HT
       simp [mayB, flatMay, HN.out, *]
       try first
         | omega
         | exact len_zero _
 have hcases : kind = 2 ∨ kind = 3 ∨ kind = 4 ∨ kind = 5 ∨ kind = 6 ∨ kind = 7 ∨ ((kind == 1) = false ∧ (kind == 2) = false ∧ (kind == 3) = false ∧ (kind == 4) = false ∧ (kind == 5) = false ∧ (kind == 6) = false ∧ (kind == 7) = false ∧ (kind != 7) = true) := by
   simp only [beq_eq_false_iff_ne, bne_iff_ne]; omega
 clear hk1
 rcases hcases with rfl | rfl | rfl | rfl | rfl | rfl | ⟨k1, k2, k3, k4, k5, k6, k7, k8⟩
 all_goals
   go_enter Tryz.func55, Tryz.ntmps55
   go_wp2_with (go_at_call 92; refine (HR.out ⟨_, _, _, _⟩ [_, _, _, _] B _ (HT.out.below (HB.out _) hB) (Nat.le_trans hB (HB.out _).size)).mono ?_; rintro e w1 ⟨rfl, hb1⟩)
   all_goals go_ret
   all_goals first
     | refine ⟨ret_bool ?_, HB.out _⟩
     | refine ⟨ret_bool ?_, (HB.out _).trans (hb1.mono (HB.out _).size)⟩
   all_goals
     clear HR HB HT
     try simp only [toList_empty, isEmpty_empty, Nat.not_lt, Nat.le_zero_eq, List.length_pos_iff, ne_eq, Classical.not_not, beq_eq_false_iff_ne] at *
     simp [mayB, setB, flatMay, int_le_256, *]
     try first
       | omega
       | exact len_zero _
       | (rw [Bool.eq_iff_iff]; simp; omega)
theorem refMay_all (d : Nat) : ∀ (t : Tm) (vs : List Value) (B : Nat) (w : World), RTm w B d t vs → B ≤ w.heap.size →
   Calls Tryz.prog 55 #[.agg vs.toArray] w fun e w' => e = .returned (.bool (mayB t)) ∧ Below w.heap.size w w' := by
 induction d with
 | zero => intro t vs B w h; exact h.elim
 | succ d ih => exact refMay_of d (maySet_of d ih)
theorem refMay_any {d : Nat} {t : Tm} {vs : List Value} {B : Nat} {w : World} (h : RTm w B d t vs) (hB : B ≤ w.heap.size) :
   Calls Tryz.prog 55 #[.agg vs.toArray] w fun e w' => e = .returned (.bool (mayB t)) ∧ Below w.heap.size w w' := refMay_all d t vs B w h hB
theorem mayPredB_of {p : Pr} (h1 : nameB (bs p.name) = true) (h2 : (p.name.toList == [116, 114, 117, 101]) = false) (h3 : (p.name.toList == [102, 97, 108, 115, 101]) = false) (h4 : p.terms.length ≤ 8) : mayPredB p = p.terms.all mayB := by
 rw [ByteArray.toList_eq, beq_eq_false_iff_ne] at h2 h3
 unfold mayPredB
 rw [h1, decide_eq_true h2, decide_eq_true h3, decide_eq_true h4]
 simp only [Bool.true_and]
set_option maxRecDepth 100000 in
set_option maxHeartbeats 2000000 in
theorem refMayPred_any {d : Nat} {p : Pr} {vs : List Value} {B : Nat} {w : World} (hp : (PrR d).rd w B p vs) (hB : B ≤ w.heap.size) :
   Calls Tryz.prog 25 #[.agg vs.toArray] w fun e w' => e = .returned (.bool (mayPredB p)) ∧ Below w.heap.size w w' := by
 obtain ⟨_, rfl, hs, A, c, rfl, hc1, hc2, hl⟩ := hp
 have HB := Lib.hid (fun o : Obj => (Below.refl w.heap.size w).alloc (Nat.le_refl _) o)
 have HL := Lib.hid hl
 clear hl
 obtain ⟨name, terms⟩ := p
 dsimp only at *
 simp only [TmR] at hc2
 by_cases hn : nameB (bs name) = true
 rotate_left
 · rw [Bool.not_eq_true] at hn
   go_enter Tryz.func25, Tryz.ntmps25
   go_wp2_with fail
   refine (refName_any name _ (by unfold maxLen; omega)).mono ?_
   rintro e w' ⟨rfl, rfl⟩
   have HN := Lib.hid hn
   rw [hn]
   go_wp2_with fail
   go_ret
   exact ⟨ret_bool (by unfold mayPredB; rw [HN.out]; rfl), HB.out _⟩
 have HN := Lib.hid hn
 have key : (name.toList == [116, 114, 117, 101]) = true ∨ ((name.toList == [116, 114, 117, 101]) = false ∧ (name.toList == [102, 97, 108, 115, 101]) = true) ∨ ((name.toList == [116, 114, 117, 101]) = false ∧ (name.toList == [102, 97, 108, 115, 101]) = false ∧ 8 < terms.length) ∨
     ((name.toList == [116, 114, 117, 101]) = false ∧ (name.toList == [102, 97, 108, 115, 101]) = false ∧ terms.length ≤ 8) := by
   cases (name.toList == [116, 114, 117, 101]) <;> cases (name.toList == [102, 97, 108, 115, 101]) <;> simp <;> omega
 rcases key with h1 | ⟨h1, h2⟩ | ⟨h1, h2, h3⟩ | ⟨h1, h2, h3⟩
 · have H1 := Lib.hid h1
   go_enter Tryz.func25, Tryz.ntmps25
   go_wp2_with fail
   refine (refName_any name _ (by unfold maxLen; omega)).mono ?_
   rintro e w' ⟨rfl, rfl⟩
   rw [hn]
   go_wp2_with fail
   go_ret
   refine ⟨ret_bool ?_, HB.out _⟩
   have h := H1.out
   rw [ByteArray.toList_eq, beq_iff_eq] at h
   simp [mayPredB, bs, h]
 · have H1 := Lib.hid h2
   go_enter Tryz.func25, Tryz.ntmps25
   go_wp2_with fail
   refine (refName_any name _ (by unfold maxLen; omega)).mono ?_
   rintro e w' ⟨rfl, rfl⟩
   rw [hn]
   go_wp2_with fail
   go_ret
   refine ⟨ret_bool ?_, HB.out _⟩
   have h := H1.out
   rw [ByteArray.toList_eq, beq_iff_eq] at h
   simp [mayPredB, bs, h]
 · go_enter Tryz.func25, Tryz.ntmps25
   go_wp2_with fail
   refine (refName_any name _ (by unfold maxLen; omega)).mono ?_
   rintro e w' ⟨rfl, rfl⟩
   rw [hn]
   go_wp2_with fail
   go_ret
   refine ⟨ret_bool ?_, HB.out _⟩
   simp [mayPredB, show ¬ terms.length ≤ 8 by omega]
 have HS := Lib.hid (mayPredB_of (p := ⟨name, terms⟩) hn h1 h2 h3)
 go_enter Tryz.func25, Tryz.ntmps25
 go_wp2_with fail
 refine (refName_any name _ (by unfold maxLen; omega)).mono ?_
 rintro e w' ⟨rfl, rfl⟩
 rw [hn]
 go_wp2_with fail
 generalize hW : World.alloc _ _ = W
 obtain ⟨hb, hz⟩ := al1 hW
 have HB1 := Lib.hid hb
 have hB1 : B ≤ W.heap.size := by omega
 clear hW hz hb HB
 go_loopw [28] (fun i wr => ∃ k : Nat, k ≤ terms.length ∧ i = .int .i64 k ∧ Below W.heap.size W wr ∧ ∀ i (hi : i < k) (hi' : i < terms.length), mayB terms[i] = true) (fun i _ => terms.length - (intOf i).toNat)
 case atStart => exact ⟨0, Nat.zero_le _, rfl, Below.refl _ _, fun i h => absurd h (by omega)⟩
 case round =>
   obtain ⟨k, hk, rfl, hbw, hall⟩ := hrel
   have HA := Lib.hid hall
   clear hall
   by_cases hlt : k < terms.length
   · have hl := HL.out.keep HB1.out hB
     obtain ⟨b, off, rfl, hb⟩ := hl.base hbw hB1 (by omega)
     obtain ⟨x, vs, hx, hlen, hcell, hr⟩ := hl.at_ hbw hB1 hlt
     obtain ⟨Ax, cx, rfl, _⟩ := RTm.cells hr
     have c0 : wr.cell? ⟨b, off + k * 4, none⟩ = some (.int .i64 x.kind) := hcell 0 _ rfl
     have c1 : wr.cell? ⟨b, off + k * 4 + 1, none⟩ = some (.int .i64 x.n) := hcell 1 _ rfl
     have c2 : wr.cell? ⟨b, off + k * 4 + 2, none⟩ = some (.string x.s) := hcell 2 _ rfl
     have c3 : wr.cell? ⟨b, off + k * 4 + 3, none⟩ = some (.slice Ax x.l.length cx) := hcell 3 _ rfl
     have hszr := hbw.size
     have HR := Lib.hid hr
     have HBw := Lib.hid hbw
     have HX := Lib.hid (List.getElem?_eq_some_iff.1 hx)
     clear hl hcell hlen hr hx hbw
     go_wp2_with fail
     generalize hW2 : World.alloc _ _ = W2
     obtain ⟨hb2, hz2⟩ := al1 hW2
     clear hW2 c0 c1 c2 c3
     refine (refMay_any (d := d) (B := B) (t := x) (vs := [_, _, _, _]) (RTm.below hb2 (by omega) HR.out) (by omega)).mono ?_
     rintro e w3 ⟨rfl, hb3⟩
     have HB3 := Lib.hid (bthen HBw.out (bthen hb2 hb3))
     have hfin := Lib.hid (bthen HB1.out HB3.out)
     clear hb2 hb3 hz2
     by_cases hm : mayB x = true
     · have HM := Lib.hid hm
       rw [hm]
       clear hm
       go_wp2_with fail
       go_roundw
       case rel => exact ⟨k + 1, by omega, by go_num, HB3.out, fun i hi hi' => by
              rcases Nat.lt_or_ge i k with h1 | h1
              · exact HA.out i h1 hi'
              · obtain rfl : i = k := by omega
                rw [HX.out.2]; exact HM.out⟩
       case measure => simp [intOf]; omega
     · rw [Bool.not_eq_true] at hm
       have HM := Lib.hid hm
       rw [hm]
       clear hm
       go_wp2_with fail
       go_ret
       refine ⟨ret_bool ?_, hfin.out⟩
       rw [HS.out, eq_comm, Bool.eq_false_iff]
       intro h
       rw [List.all_eq_true] at h
       have := h x (HX.out.2 ▸ List.getElem_mem _)
       rw [HM.out] at this
       cases this
   · have hfin := Lib.hid (bthen HB1.out hbw)
     go_wp2_with fail
     go_ret
     refine ⟨ret_bool ?_, hfin.out⟩
     rw [HS.out, eq_comm, List.all_eq_true]
     intro x hx
     obtain ⟨i, hi, rfl⟩ := List.getElem_of_mem hx
     exact HA.out i (by omega) hi
end Go.Proofs.YtkdonhhbpacgmaaGreat
