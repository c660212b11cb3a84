/- viaticumlaw14.RuleBlocks: a block with one thing more that may be may be, as long as there is room. Printed by wip/gen/mk_blocks.py. -/
import Derived.Test.YtfknlghegchbkabGreatBlock
import Derived.Test.YtfknlghegchbkabGreatSingle
import Derived.RegionTactic
import Derived.Deep.RegionHeld3
import Derived.Deep.RegionLaw
import Derived.Deep.DeepCutAuto
set_option linter.unusedVariables false
set_option linter.unusedSimpArgs false
namespace Go.Proofs.YtfknlghegchbkabGreat
open Go.ChangeShapes Go.WideShapes Go.ChangeAt Go.RowKit

def plusRule (b : Bk) (r : Ru) : Bk := ⟨b.facts, b.rules ++ [r], b.checks, b.scopes⟩
def plusCheck (b : Bk) (c : Ck) : Bk := ⟨b.facts, b.rules, b.checks ++ [c], b.scopes⟩
theorem few_plus {α : Type} {l : List α} {x : α} {p : α → Bool} {n : Int} (h : (decide ((l.length : Int) ≤ n) && l.all p) = true) : (decide (((l ++ [x]).length : Int) ≤ n) && (l ++ [x]).all p) = (p x && decide ((l.length : Int) < n)) := by
  rw [Bool.and_eq_true, decide_eq_true_eq] at h
  rw [List.all_append, h.2, List.length_append, Bool.eq_iff_iff]
  simp only [List.length_cons, List.length_nil, List.all_cons, List.all_nil, Bool.and_true, Bool.true_and, Bool.and_eq_true, decide_eq_true_eq]
  constructor
  · rintro ⟨h1, h2⟩; exact ⟨h2, by omega⟩
  · rintro ⟨h1, h2⟩; exact ⟨by omega, h1⟩
theorem and_split {a b : Bool} (h : (a && b) = true) : a = true ∧ b = true := by simpa using h
theorem blockPlusRule {b : Bk} (r : Ru) (h : mayBlockB b = true) : mayBlockB (plusRule b r) = (mayRuleB r && decide ((b.rules.length : Int) < 32)) := by
  unfold mayBlockB plusRule at *
  obtain ⟨h1, h⟩ := and_split h
  obtain ⟨h2, h⟩ := and_split h
  obtain ⟨h3, h4⟩ := and_split h
  rw [h1, h3, h4, few_plus h2]
  simp only [Bool.true_and, Bool.and_true]
theorem blockPlusCheck {b : Bk} (c : Ck) (h : mayBlockB b = true) : mayBlockB (plusCheck b c) = (mayCheckB c && decide ((b.checks.length : Int) < 32)) := by
  unfold mayBlockB plusCheck at *
  obtain ⟨h1, h⟩ := and_split h
  obtain ⟨h2, h⟩ := and_split h
  obtain ⟨h3, h4⟩ := and_split h
  rw [h1, h2, h4, few_plus h3]
  simp only [Bool.true_and, Bool.and_true]
theorem blockLens {b : Bk} (h : mayBlockB b = true) : b.rules.length ≤ 32 ∧ b.checks.length ≤ 32 := by
  unfold mayBlockB at h
  obtain ⟨h1, h⟩ := and_split h
  obtain ⟨h2, h⟩ := and_split h
  obtain ⟨h3, h4⟩ := and_split h
  have h2 := (and_split h2).1
  have h3 := (and_split h3).1
  rw [decide_eq_true_eq] at h2 h3
  omega
theorem cmp3_self (a : Tm) : cmp3 a a = 0 := by
  unfold cmp3 or3 cmpI cmpS
  rw [if_neg (List.lt_irrefl _), if_neg (List.lt_irrefl _), if_neg (Int.lt_irrefl _), if_neg (Int.lt_irrefl _), if_neg (Int.lt_irrefl _), if_neg (Int.lt_irrefl _), if_pos rfl, if_pos rfl]
theorem cmpT_self : ∀ (d : Nat) (a : Tm), cmpT d a a = 0
  | 0, a => cmp3_self a
  | d + 1, a => by
    unfold cmpT
    rw [if_pos (cmp3_self a)]
    have : ∀ l : List Tm, cmpL (cmpT d) l l = 0 := by
      intro l
      induction l with
      | nil => rfl
      | cons x l ih => rw [cmpL, cmpT_self d x, if_pos rfl, ih]
    exact this _
theorem sameT_self (a : Tm) : sameTB a a = true := by simp [sameTB, cmpT_self]
theorem sameOp_self (a : OpD) : sameOpB a a = true := by simp [sameOpB, sameT_self]
theorem sameEx_self (a : List OpD) : sameExB a a = true := eqL_refl sameOp_self a
theorem samePr_self (a : Pr) : samePrB a a = true := by simp [samePrB, eqL_refl sameT_self]
theorem sameSc_self (a : Sc) : sameScB a a = true := by simp [sameScB]
theorem sameRu_self (a : Ru) : sameRuB a a = true := by simp [sameRuB, samePr_self, eqL_refl samePr_self, eqL_refl sameEx_self, eqL_refl sameSc_self]
theorem sameCk_self (a : Ck) : sameCkB a a = true := by simp [sameCkB, eqL_refl sameRu_self]
theorem sameBk_self (a : Bk) : sameBkB a a = true := by simp [sameBkB, eqL_refl samePr_self, eqL_refl sameRu_self, eqL_refl sameCk_self, eqL_refl sameSc_self]
theorem sameBk_rule (b : Bk) (r : Ru) : sameBkB b (plusRule b r) = false := by
  unfold sameBkB plusRule
  rw [eqL_len (xs := b.rules) (ys := b.rules ++ [r]) (by simp)]
  simp
theorem sameBk_check (b : Bk) (c : Ck) : sameBkB b (plusCheck b c) = false := by
  unfold sameBkB plusCheck
  rw [eqL_len (xs := b.checks) (ys := b.checks ++ [c]) (by simp)]
  simp

theorem ne_own {k g o n c : Nat} (h : k ≠ g) : some k ≠ (Value.slice (some ⟨g, o, none⟩) n c).ownBlock := fun e => h (by simpa [Value.ownBlock] using e)
theorem as_bool {P : Program} {f : FuncId} {args : Array Value} {w : World} {x y : Bool} (h : x = y) (hc : Calls P f args w fun e w' => e = .returned (.bool x) ∧ Below w.heap.size w w') : Calls P f args w fun e w' => e = .returned (.bool y) ∧ Below w.heap.size w w' := h ▸ hc
/-- Two new blocks of the same cells. -/
def TwoNew (W wx : World) (g h : Nat) (cs : Array Value) : Prop := Blk wx g cs ∧ Blk wx h cs ∧ g ≠ h ∧ W.heap.size ≤ g ∧ W.heap.size ≤ h ∧ Below W.heap.size W wx

set_option maxRecDepth 100000 in
set_option maxHeartbeats 8000000 in
theorem ruleBlocks_any {d B : Nat} {b : Bk} {r : Ru} {c : Ck} {vb vr vc : List Value} {w : World} (hb : (BkR d).rd w B b vb) (hr : (RuR d).rd w B r vr) (hc : (CkR d).rd w B c vc) (hB : B ≤ w.heap.size) :
    Calls Tryz.prog 3 #[.agg vb.toArray, .agg vr.toArray, .agg vc.toArray] w fun x w' => x = .returned (.bool true) ∧ Below w.heap.size w w' := by
  have HPB := Lib.hid hb
  have HPR := Lib.hid hr
  have HPC := Lib.hid hc
  obtain ⟨_, _, _, _, rfl, ⟨bA0, bc0, rfl, bg0, bh0, bl0⟩, ⟨bA1, bc1, rfl, bg1, bh1, bl1⟩, ⟨bA2, bc2, rfl, bg2, bh2, bl2⟩, ⟨bA3, bc3, rfl, bg3, bh3, bl3⟩⟩ := hb
  obtain ⟨_, _, _, _, rfl, hs, ⟨rA0, rc0, rfl, rg0, rh0, rl0⟩, ⟨rA1, rc1, rfl, rg1, rh1, rl1⟩, ⟨rA2, rc2, rfl, rg2, rh2, rl2⟩, ⟨rA3, rc3, rfl, rg3, rh3, rl3⟩⟩ := hr
  obtain ⟨_, rfl, ⟨cA0, cc0, rfl, cg0, ch0, cl0⟩⟩ := hc
  simp only [PrR, RuR, CkR, ScR, TmR, ExR] at bh0 bh1 bh2 bh3 rh0 rh1 rh2 rh3 ch0
  have HLC := Lib.hid (show RSl (RuR d) w B c.queries (.slice cA0 c.queries.length cc0) from ⟨cA0, cc0, rfl, cg0, by simp only [RuR]; omega, cl0⟩)
  have HLR := Lib.hid bl1
  have HLK := Lib.hid bl2
  have HLF := Lib.hid (show RSl (PrR d) w B b.facts (.slice bA0 b.facts.length bc0) from ⟨bA0, bc0, rfl, bg0, by simp only [PrR]; omega, bl0⟩)
  have HLS := Lib.hid (show RSl ScR w B b.scopes (.slice bA3 b.scopes.length bc3) from ⟨bA3, bc3, rfl, bg3, by simp only [ScR]; omega, bl3⟩)
  clear bl0 bl1 bl2 bl3 rl0 rl1 rl2 rl3 cl0
  go_enter Tryz.func3, Tryz.ntmps3
  go_wp2_with fail
  generalize hW : World.alloc _ _ = w1
  obtain ⟨hb, hz⟩ := al3 hW
  have b_b_1 := n31 hW
  have b_r_1 := n32 hW
  have b_c_1 := n33 hW
  have HB1 := Lib.hid hb
  clear hW hz hb
  refine (weight_any (d := d) (B := B) (r := r) (vs := [_, _, _, _, _]) ((RuR d).keep HB1.out hB HPR.out) (Nat.le_trans hB HB1.out.size)).mono ?_
  rintro x w2 ⟨⟨m1, rfl⟩, hb⟩
  have b_b_2 := b_b_1.later hb
  have b_r_2 := b_r_1.later hb
  have b_c_2 := b_c_1.later hb
  have HB2 := Lib.hid (bthen HB1.out hb)
  clear b_b_1 b_r_1 b_c_1
  clear hb
  by_cases t1 : m1 ≥ 400
  · have k_b := b_b_2.cell
    have l_b := b_b_2.lt
    have k_r := b_r_2.cell
    have l_r := b_r_2.lt
    have k_c := b_c_2.cell
    have l_c := b_c_2.lt
    go_wp2_with fail
    clear k_b l_b k_r l_r k_c l_c
    refine (awake_any _).mono ?_
    rintro x w3 ⟨rfl, hb⟩
    have b_b_3 := b_b_2.later hb
    have b_r_3 := b_r_2.later hb
    have b_c_3 := b_c_2.later hb
    have HB3 := Lib.hid (bthen HB2.out hb)
    clear b_b_2 b_r_2 b_c_2
    clear hb
    have k_b := b_b_3.cell
    have l_b := b_b_3.lt
    have k_r := b_r_3.cell
    have l_r := b_r_3.lt
    have k_c := b_c_3.cell
    have l_c := b_c_3.lt
    go_wp2_with fail
    clear k_b l_b k_r l_r k_c l_c
    go_ret
    exact ⟨rfl, HB3.out⟩
  have k_b := b_b_2.cell
  have l_b := b_b_2.lt
  have k_r := b_r_2.cell
  have l_r := b_r_2.lt
  have k_c := b_c_2.cell
  have l_c := b_c_2.lt
  go_wp2_with fail
  clear k_b l_b k_r l_r k_c l_c
  refine (block_any (d := d) (B := B) (b := b) (vs := [_, _, _, _]) ((BkR d).keep HB2.out hB HPB.out) (Nat.le_trans hB HB2.out.size)).mono ?_
  rintro x w3 ⟨⟨m2, rfl⟩, hb⟩
  have b_b_3 := b_b_2.later hb
  have b_r_3 := b_r_2.later hb
  have b_c_3 := b_c_2.later hb
  have HB3 := Lib.hid (bthen HB2.out hb)
  clear b_b_2 b_r_2 b_c_2
  clear hb
  by_cases t2 : m2 ≥ 400
  · have k_b := b_b_3.cell
    have l_b := b_b_3.lt
    have k_r := b_r_3.cell
    have l_r := b_r_3.lt
    have k_c := b_c_3.cell
    have l_c := b_c_3.lt
    go_wp2_with fail
    clear k_b l_b k_r l_r k_c l_c
    refine (awake_any _).mono ?_
    rintro x w4 ⟨rfl, hb⟩
    have b_b_4 := b_b_3.later hb
    have b_r_4 := b_r_3.later hb
    have b_c_4 := b_c_3.later hb
    have HB4 := Lib.hid (bthen HB3.out hb)
    clear b_b_3 b_r_3 b_c_3
    clear hb
    have k_b := b_b_4.cell
    have l_b := b_b_4.lt
    have k_r := b_r_4.cell
    have l_r := b_r_4.lt
    have k_c := b_c_4.cell
    have l_c := b_c_4.lt
    go_wp2_with fail
    clear k_b l_b k_r l_r k_c l_c
    go_ret
    exact ⟨rfl, HB4.out⟩
  have k_b := b_b_3.cell
  have l_b := b_b_3.lt
  have k_r := b_r_3.cell
  have l_r := b_r_3.lt
  have k_c := b_c_3.cell
  have l_c := b_c_3.lt
  go_wp2_with fail
  clear k_b l_b k_r l_r k_c l_c
  refine (queriesN_any (d := d) (B := B) (l := c.queries) (HLC.out.keep HB3.out hB) (Nat.le_trans hB HB3.out.size)).mono ?_
  rintro x w4 ⟨⟨m3, rfl⟩, hb⟩
  have b_b_4 := b_b_3.later hb
  have b_r_4 := b_r_3.later hb
  have b_c_4 := b_c_3.later hb
  have HB4 := Lib.hid (bthen HB3.out hb)
  clear b_b_3 b_r_3 b_c_3
  clear hb
  by_cases t3 : m3 ≥ 400
  · have k_b := b_b_4.cell
    have l_b := b_b_4.lt
    have k_r := b_r_4.cell
    have l_r := b_r_4.lt
    have k_c := b_c_4.cell
    have l_c := b_c_4.lt
    go_wp2_with fail
    clear k_b l_b k_r l_r k_c l_c
    refine (awake_any _).mono ?_
    rintro x w5 ⟨rfl, hb⟩
    have b_b_5 := b_b_4.later hb
    have b_r_5 := b_r_4.later hb
    have b_c_5 := b_c_4.later hb
    have HB5 := Lib.hid (bthen HB4.out hb)
    clear b_b_4 b_r_4 b_c_4
    clear hb
    have k_b := b_b_5.cell
    have l_b := b_b_5.lt
    have k_r := b_r_5.cell
    have l_r := b_r_5.lt
    have k_c := b_c_5.cell
    have l_c := b_c_5.lt
    go_wp2_with fail
    clear k_b l_b k_r l_r k_c l_c
    go_ret
    exact ⟨rfl, HB5.out⟩
  have k_b := b_b_4.cell
  have l_b := b_b_4.lt
  have k_r := b_r_4.cell
  have l_r := b_r_4.lt
  have k_c := b_c_4.cell
  have l_c := b_c_4.lt
  go_wp2_with fail
  clear k_b l_b k_r l_r k_c l_c
  refine (mayBlock_any (d := d) (B := B) (b := b) (vs := [_, _, _, _]) ((BkR d).keep HB4.out hB HPB.out) (Nat.le_trans hB HB4.out.size)).mono ?_
  rintro x w5 ⟨rfl, hb⟩
  have b_b_5 := b_b_4.later hb
  have b_r_5 := b_r_4.later hb
  have b_c_5 := b_c_4.later hb
  have HB5 := Lib.hid (bthen HB4.out hb)
  clear b_b_4 b_r_4 b_c_4
  clear hb
  by_cases t4 : mayBlockB b = true
  rotate_left
  · simp only [Bool.not_eq_true] at t4
    rw [t4]
    have k_b := b_b_5.cell
    have l_b := b_b_5.lt
    have k_r := b_r_5.cell
    have l_r := b_r_5.lt
    have k_c := b_c_5.cell
    have l_c := b_c_5.lt
    go_wp2_with fail
    clear k_b l_b k_r l_r k_c l_c
    refine (awake_any _).mono ?_
    rintro x w6 ⟨rfl, hb⟩
    have b_b_6 := b_b_5.later hb
    have b_r_6 := b_r_5.later hb
    have b_c_6 := b_c_5.later hb
    have HB6 := Lib.hid (bthen HB5.out hb)
    clear b_b_5 b_r_5 b_c_5
    clear hb
    have k_b := b_b_6.cell
    have l_b := b_b_6.lt
    have k_r := b_r_6.cell
    have l_r := b_r_6.lt
    have k_c := b_c_6.cell
    have l_c := b_c_6.lt
    go_wp2_with fail
    clear k_b l_b k_r l_r k_c l_c
    go_ret
    exact ⟨rfl, HB6.out⟩
  rw [t4]
  have HX := Lib.hid (blockPlusRule r t4)
  have HY := Lib.hid (blockPlusCheck c t4)
  obtain ⟨hrl, hcl⟩ := blockLens t4
  clear t4
  have k_b := b_b_5.cell
  have l_b := b_b_5.lt
  have k_r := b_r_5.cell
  have l_r := b_r_5.lt
  have k_c := b_c_5.cell
  have l_c := b_c_5.lt
  go_wp2_with fail
  go_cut [7, 8] (fun v7 v8 wx => ∃ g7 g8 : Nat, v7 = .pointer (some ⟨g7, 0, none⟩) ∧ v8 = .pointer (some ⟨g8, 0, none⟩) ∧ TwoNew w5 wx g7 g8 #[.slice bA0 b.facts.length bc0, .slice bA1 b.rules.length bc1, .slice bA2 b.checks.length bc2, .slice bA3 b.scopes.length bc3])
  case first =>
    go_region
    all_goals
      go_wp2_with fail
      go_meet
      first
        | exact ⟨_, _, rfl, rfl, (n21 rfl).drew, (n22 rfl).drew, by omega, by omega, by omega, (al2 rfl).1.drew⟩
        | exact ⟨_, _, rfl, rfl, (n22 rfl).drew, (n21 rfl).drew, by omega, by omega, by omega, (al2 rfl).1.drew⟩
  case rest => 
    obtain ⟨g7, g8, rfl, rfl, hx7, hx8, hne, hg7, hg8, hb⟩ := hcut
    clear k_b l_b k_r l_r k_c l_c
    have b_b_6 := b_b_5.later hb
    have b_r_6 := b_r_5.later hb
    have b_c_6 := b_c_5.later hb
    have b_x_6 := hx7
    have b_y_6 := hx8
    have HB6 := Lib.hid (bthen HB5.out hb)
    have hlt7 := hx7.lt
    have hlt8 := hx8.lt
    have hw5 : w.heap.size + 1 + 1 < w5.heap.size := b_c_5.lt
    clear hx7 hx8 hb b_b_5 b_r_5 b_c_5
    generalize wc = w6 at *
    have HC6 := Lib.hid (show B ≤ w6.heap.size from Nat.le_trans hB HB6.out.size)
    have HSR := Lib.hid ((HLR.out.keep HB6.out hB).src)
    have HSRl := Lib.hid (show ∀ a, bA1 = some a → b.rules = [] ∨ a.block < w6.heap.size from fun a ha => by
      rcases Nat.eq_zero_or_pos b.rules.length with h0 | h0
      · exact .inl (List.eq_nil_of_length_eq_zero h0)
      · obtain ⟨bb, off, e, hlt, _⟩ := (HLR.out.keep HB6.out hB) h0
        rw [ha] at e
        cases e
        exact .inr (Nat.lt_of_lt_of_le hlt HC6.out))
    have HPR6 := Lib.hid ((RuR d).keep HB6.out hB HPR.out)
    have hBg7 : B ≤ g7 := by have := HB5.out.size; omega
    have hBg8 : B ≤ g8 := by have := HB5.out.size; omega
    have f_x := b_x_6.free
    have n71 : w.heap.size ≠ g7 := by omega
    have n72 : w.heap.size + 1 ≠ g7 := by omega
    have n73 : g7 ≠ w.heap.size := by omega
    have n74 : g7 ≠ w.heap.size + 1 := by omega
    obtain ⟨i0, hi0, hz0, hz1, hz2⟩ := info_parts infoRu
    have k_b := b_b_6.cell
    have l_b := b_b_6.lt
    have k_r := b_r_6.cell
    have l_r := b_r_6.lt
    have k_c := b_c_6.cell
    have l_c := b_c_6.lt
    have k_x := b_x_6.cell
    have l_x := b_x_6.lt
    have k_y := b_y_6.cell
    have l_y := b_y_6.lt
    go_wp2_with fail
    go_cut [] (fun wx => ∃ v' : Value, Blk wx g7 #[.slice bA0 b.facts.length bc0, v', .slice bA2 b.checks.length bc2, .slice bA3 b.scopes.length bc3] ∧ OwnR (RuR d) 33 wx w6.heap.size B v' (b.rules ++ [r]) ∧ w6.grownBy wx (some g7))
    case first =>
      have s1 : w6.cell? ⟨w.heap.size, 1, none⟩ = some (.slice bA1 b.rules.length bc1) := k_b 1
      have s2 : w6.cell? ⟨w.heap.size + 1, 0, none⟩ = some (.string r.head.name) := k_r 0
      have s3 : w6.cell? ⟨w.heap.size + 1, 1, none⟩ = some (.slice rA0 r.head.terms.length rc0) := k_r 1
      have s4 : w6.cell? ⟨w.heap.size + 1, 2, none⟩ = some (.slice rA1 r.body.length rc1) := k_r 2
      have s5 : w6.cell? ⟨w.heap.size + 1, 3, none⟩ = some (.slice rA2 r.exprs.length rc2) := k_r 3
      have s6 : w6.cell? ⟨w.heap.size + 1, 4, none⟩ = some (.slice rA3 r.scopes.length rc3) := k_r 4
      go_region_held3 (fun w' => w'.cell? ⟨w.heap.size, 1, none⟩ = some (.slice bA1 b.rules.length bc1) ∧ w'.cell? ⟨w.heap.size + 1, 0, none⟩ = some (.string r.head.name) ∧ w'.cell? ⟨w.heap.size + 1, 1, none⟩ = some (.slice rA0 r.head.terms.length rc0) ∧ w'.cell? ⟨w.heap.size + 1, 2, none⟩ = some (.slice rA1 r.body.length rc1) ∧ w'.cell? ⟨w.heap.size + 1, 3, none⟩ = some (.slice rA2 r.exprs.length rc2) ∧ w'.cell? ⟨w.heap.size + 1, 4, none⟩ = some (.slice rA3 r.scopes.length rc3)) (go_keep)
        (first
          | (refine step_append_R (R := RuR d) (e := 33) rfl (.tmp 31) (.tmp 33) 23 rfl (bytes := 112) Tryz.underlying23 hi0 hz0 hz1 hz2 rfl (show 0 < 5 by omega) (single_ru d) rfl (xs := []) (base := w6.heap.size) (B := B) (by first | exact (OwnR.empty (RuR d) 33 hp11 (Nat.le_refl _) B).drew (Nat.le_trans HC6.out (by simp)) | exact (OwnR.empty (RuR d) 33 hp21 (Nat.le_refl _) B).drew (Nat.le_trans HC6.out (by simp; omega)) | exact (OwnR.empty (RuR d) 33 hp22 (Nat.le_succ _) B).drew (Nat.le_trans HC6.out (by simp; omega))) (A := bA1) (m := b.rules.length) (c := bc1) rfl (ys := b.rules) (by first | exact (HLR.out.keep (bthen HB6.out (al1 rfl).1).drew hB).src | exact (HLR.out.keep (bthen HB6.out (al2 rfl).1).drew hB).src) rfl HC6.out (by simp only [List.length_nil]; omega) (by omega) (by simp <;> omega) ?_
             intro v1 w7 hown1 hb7 hg7
             have HO1 := Lib.hid hown1
             have HG7 := Lib.hid hg7
             have hsz7 : w6.heap.size ≤ w7.heap.size := Nat.le_trans (by simp <;> omega) hb7.size
             have HB67 : Hid (Below w6.heap.size w6 w7) := by first | exact Lib.hid ((al1 rfl).1.drew.trans hb7) | exact Lib.hid ((al2 rfl).1.drew.trans hb7)
             have cb7 := (b_b_6.keep HB67.out b_b_6.lt).cell
             have cr7 := (b_r_6.keep HB67.out b_r_6.lt).cell
             clear hown1 hb7 hg7)
          | (refine step_append_R (R := RuR d) (e := 33) rfl (.tmp 34) (.tmp 36) 23 rfl (bytes := 112) Tryz.underlying23 hi0 hz0 hz1 hz2 rfl (show 0 < 5 by omega) (single_ru d) rfl (xs := b.rules) (base := w6.heap.size) (B := B) (by first | exact HO1.out | exact HO1.out.later ((Below.refl _ _).alloc (Nat.le_refl _) _) (Nat.le_trans HC6.out hsz7)) rfl (ys := [r]) (by first
               | exact Blk.src (n11 rfl) ((RuR d).keep (HB67.out.alloc hsz7 _) HC6.out HPR6.out)
               | exact Blk.src ((n22 rfl).drew.grown HG7.out (ne_own (Nat.succ_ne_self _))) ((RuR d).keep HB67.out HC6.out HPR6.out)
               | exact Blk.src ((n21 rfl).drew.grown HG7.out (ne_own (Nat.ne_of_lt (Nat.lt_succ_self _)))) ((RuR d).keep HB67.out HC6.out HPR6.out)) rfl HC6.out (by simp only [List.length_cons, List.length_nil]; omega) (by omega) (by first | exact hsz7 | (simp; omega)) ?_
             intro v2 w8 hown2 hb8 hg8
             obtain ⟨A2, c2, rfl⟩ := hown2.form
             simp only [List.length_append, List.length_cons, List.length_nil, Nat.zero_add] at hown2
             have HO2 := Lib.hid hown2
             have HB68 : Hid (Below w6.heap.size w6 w8) := by first | exact Lib.hid (HB67.out.trans hb8) | exact Lib.hid ((HB67.out.alloc hsz7 _).trans hb8)
             have cb8 := (b_b_6.keep HB68.out b_b_6.lt).cell
             have cr8 := (b_r_6.keep HB68.out b_r_6.lt).cell
             have cx8 := (b_x_6.keep HB68.out hlt7).cell
             have fx8 := (b_x_6.keep HB68.out hlt7).free
             clear hown2 hb8 hg8))
      all_goals
        go_wp2_with fail
        go_meet
        exact ⟨_, (b_x_6.keep HB68.out hlt7).set_ 1 _, HO2.out.far hlt7 hBg7 _, grown_set HB68.out⟩
    case rest =>
      obtain ⟨v4, hx4, how4, hgr⟩ := hcut
      obtain ⟨A4, c4, rfl⟩ := how4.form
      simp only [List.length_append, List.length_cons, List.length_nil, Nat.zero_add] at how4 hx4
      clear k_b l_b k_r l_r k_c l_c k_x l_x k_y l_y f_x
      have n75 : w.heap.size + 1 + 1 ≠ g7 := by omega
      have b_b_7 := b_b_6.grown hgr (some_ne n71)
      have b_r_7 := b_r_6.grown hgr (some_ne n72)
      have b_c_7 := b_c_6.grown hgr (some_ne n75)
      have b_x_7 := hx4
      have b_y_7 := b_y_6.grown hgr (some_ne (Ne.symm hne))
      have HB7 := Lib.hid (HB6.out.trans (grown_below hgr HB6.out.size (by omega)))
      have HOX := Lib.hid how4
      have h67 := hgr.size
      clear hx4 how4 hgr b_b_6 b_r_6 b_c_6 b_x_6 b_y_6 n71 n72 n73 n74 n75 i0 hi0 hz0 hz1 hz2
      generalize wc = w7 at *
      have HC7 := Lib.hid (show B ≤ w7.heap.size from Nat.le_trans hB HB7.out.size)
      have HPC7 := Lib.hid ((CkR d).keep HB7.out hB HPC.out)
      have f_y := b_y_7.free
      have lt7 : g7 < w7.heap.size := by omega
      have lt8 : g8 < w7.heap.size := by omega
      have n81 : w.heap.size ≠ g8 := by omega
      have n82 : w.heap.size + 1 + 1 ≠ g8 := by omega
      have n83 : g8 ≠ w.heap.size := by omega
      have n84 : g8 ≠ w.heap.size + 1 + 1 := by omega
      obtain ⟨i0, hi0, hz0, hz1, hz2⟩ := info_parts infoCk
      have k_b := b_b_7.cell
      have l_b := b_b_7.lt
      have k_r := b_r_7.cell
      have l_r := b_r_7.lt
      have k_c := b_c_7.cell
      have l_c := b_c_7.lt
      have k_x := b_x_7.cell
      have l_x := b_x_7.lt
      have k_y := b_y_7.cell
      have l_y := b_y_7.lt
      go_wp2_with fail
      go_cut [] (fun wx => ∃ v' : Value, Blk wx g8 #[.slice bA0 b.facts.length bc0, .slice bA1 b.rules.length bc1, v', .slice bA3 b.scopes.length bc3] ∧ OwnR (CkR d) 35 wx w7.heap.size B v' (b.checks ++ [c]) ∧ w7.grownBy wx (some g8))
      case first =>
        have s1 : w7.cell? ⟨w.heap.size, 2, none⟩ = some (.slice bA2 b.checks.length bc2) := k_b 2
        have s2 : w7.cell? ⟨w.heap.size + 1 + 1, 0, none⟩ = some (.bool c.all) := k_c 0
        have s3 : w7.cell? ⟨w.heap.size + 1 + 1, 1, none⟩ = some (.slice cA0 c.queries.length cc0) := k_c 1
        go_region_held3 (fun w' => w'.cell? ⟨w.heap.size, 2, none⟩ = some (.slice bA2 b.checks.length bc2) ∧ w'.cell? ⟨w.heap.size + 1 + 1, 0, none⟩ = some (.bool c.all) ∧ w'.cell? ⟨w.heap.size + 1 + 1, 1, none⟩ = some (.slice cA0 c.queries.length cc0)) (go_keep)
          (first
            | (refine step_append_R (R := CkR d) (e := 35) rfl (.tmp 39) (.tmp 41) 24 rfl (bytes := 32) Tryz.underlying24 hi0 hz0 hz1 hz2 rfl (show 0 < 2 by omega) (single_ck d) rfl (xs := []) (base := w7.heap.size) (B := B) (by first | exact (OwnR.empty (CkR d) 35 hp11 (Nat.le_refl _) B).drew (Nat.le_trans HC7.out (by simp)) | exact (OwnR.empty (CkR d) 35 hp21 (Nat.le_refl _) B).drew (Nat.le_trans HC7.out (by simp; omega)) | exact (OwnR.empty (CkR d) 35 hp22 (Nat.le_succ _) B).drew (Nat.le_trans HC7.out (by simp; omega))) (A := bA2) (m := b.checks.length) (c := bc2) rfl (ys := b.checks) (by first | exact (HLK.out.keep (bthen HB7.out (al1 rfl).1).drew hB).src | exact (HLK.out.keep (bthen HB7.out (al2 rfl).1).drew hB).src) rfl HC7.out (by simp only [List.length_nil]; omega) (by omega) (by simp <;> omega) ?_
               intro v1 wp7 hown1 hb7 hg7
               have HO1 := Lib.hid hown1
               have HG7 := Lib.hid hg7
               have hszp : w7.heap.size ≤ wp7.heap.size := Nat.le_trans (by simp <;> omega) hb7.size
               have HBP : Hid (Below w7.heap.size w7 wp7) := by first | exact Lib.hid ((al1 rfl).1.drew.trans hb7) | exact Lib.hid ((al2 rfl).1.drew.trans hb7)
               have cb7 := (b_b_7.keep HBP.out b_b_7.lt).cell
               have cr7 := (b_c_7.keep HBP.out b_c_7.lt).cell
               clear hown1 hb7 hg7)
            | (refine step_append_R (R := CkR d) (e := 35) rfl (.tmp 42) (.tmp 44) 24 rfl (bytes := 32) Tryz.underlying24 hi0 hz0 hz1 hz2 rfl (show 0 < 2 by omega) (single_ck d) rfl (xs := b.checks) (base := w7.heap.size) (B := B) (by first | exact HO1.out | exact HO1.out.later ((Below.refl _ _).alloc (Nat.le_refl _) _) (Nat.le_trans HC7.out hszp)) rfl (ys := [c]) (by first
                 | exact Blk.src (n11 rfl) ((CkR d).keep (HBP.out.alloc hszp _) HC7.out HPC7.out)
                 | exact Blk.src ((n22 rfl).drew.grown HG7.out (ne_own (Nat.succ_ne_self _))) ((CkR d).keep HBP.out HC7.out HPC7.out)
                 | exact Blk.src ((n21 rfl).drew.grown HG7.out (ne_own (Nat.ne_of_lt (Nat.lt_succ_self _)))) ((CkR d).keep HBP.out HC7.out HPC7.out)) rfl HC7.out (by simp only [List.length_cons, List.length_nil]; omega) (by omega) (by first | exact hszp | (simp; omega)) ?_
               intro v2 wq8 hown2 hb8 hg8
               obtain ⟨A2, c2, rfl⟩ := hown2.form
               simp only [List.length_append, List.length_cons, List.length_nil, Nat.zero_add] at hown2
               have HO2 := Lib.hid hown2
               have HBQ : Hid (Below w7.heap.size w7 wq8) := by first | exact Lib.hid (HBP.out.trans hb8) | exact Lib.hid ((HBP.out.alloc hszp _).trans hb8)
               have cb8 := (b_b_7.keep HBQ.out b_b_7.lt).cell
               have cr8 := (b_c_7.keep HBQ.out b_c_7.lt).cell
               have cx8 := (b_y_7.keep HBQ.out lt8).cell
               have fx8 := (b_y_7.keep HBQ.out lt8).free
               clear hown2 hb8 hg8))
        all_goals
          go_wp2_with fail
          go_meet
          exact ⟨_, (b_y_7.keep HBQ.out lt8).set_ 2 _, HO2.out.far lt8 hBg8 _, grown_set HBQ.out⟩
      case rest =>
        obtain ⟨v5, hx5, how5, hgr⟩ := hcut
        obtain ⟨A5, c5, rfl⟩ := how5.form
        simp only [List.length_append, List.length_cons, List.length_nil, Nat.zero_add] at how5 hx5
        clear k_b l_b k_r l_r k_c l_c k_x l_x k_y l_y f_y
        have n85 : w.heap.size + 1 ≠ g8 := by omega
        have b_b_8 := b_b_7.grown hgr (some_ne n81)
        have b_r_8 := b_r_7.grown hgr (some_ne n85)
        have b_c_8 := b_c_7.grown hgr (some_ne n82)
        have b_x_8 := b_x_7.grown hgr (some_ne hne)
        have b_y_8 := hx5
        have HB8 := Lib.hid (HB7.out.trans (grown_below hgr HB7.out.size (by omega)))
        have h78 := hgr.size
        have how4 := HOX.out.grown hgr (by omega) hBg8 HC7.out
        clear b_b_7 b_r_7 b_c_7 b_x_7 b_y_7 n81 n82 n83 n84 n85 i0 hi0 hz0 hz1 hz2
        generalize wc = w8 at *
        have hBw8 : B ≤ w8.heap.size := Nat.le_trans hB HB8.out.size
        have hr4 := how4.reads hBw8 (by simp only [List.length_append, List.length_cons, List.length_nil, RuR]; omega)
        have hr5 := how5.reads hBw8 (by simp only [List.length_append, List.length_cons, List.length_nil, CkR]; omega)
        have HPB8 := Lib.hid ((BkR d).wide hBw8 ((BkR d).keep HB8.out hB HPB.out))
        have HPR8 := Lib.hid ((RuR d).wide hBw8 ((RuR d).keep HB8.out hB HPR.out))
        have HPC8 := Lib.hid ((CkR d).wide hBw8 ((CkR d).keep HB8.out hB HPC.out))
        have HRL8 := Lib.hid (show RSl (RuR d) w8 w8.heap.size b.rules (.slice bA1 b.rules.length bc1) from ⟨bA1, bc1, rfl, bg1, by simp only [RuR]; omega, (HLR.out.keep HB8.out hB).wide hBw8⟩)
        have HCL8 := Lib.hid (show RSl (CkR d) w8 w8.heap.size b.checks (.slice bA2 b.checks.length bc2) from ⟨bA2, bc2, rfl, bg2, by simp only [CkR]; omega, (HLK.out.keep HB8.out hB).wide hBw8⟩)
        have HQX := Lib.hid (show (BkR d).rd w8 w8.heap.size (plusRule b r) [.slice bA0 b.facts.length bc0, .slice A4 (b.rules.length + 1) c4, .slice bA2 b.checks.length bc2, .slice bA3 b.scopes.length bc3] from ⟨_, _, _, _, rfl, (HLF.out.keep HB8.out hB).wide hBw8, hr4, HCL8.out, (HLS.out.keep HB8.out hB).wide hBw8⟩)
        have HQY := Lib.hid (show (BkR d).rd w8 w8.heap.size (plusCheck b c) [.slice bA0 b.facts.length bc0, .slice bA1 b.rules.length bc1, .slice A5 (b.checks.length + 1) c5, .slice bA3 b.scopes.length bc3] from ⟨_, _, _, _, rfl, (HLF.out.keep HB8.out hB).wide hBw8, HRL8.out, hr5, (HLS.out.keep HB8.out hB).wide hBw8⟩)
        have hcx : (mayRuleB r = true ∧ decide ((b.rules.length : Int) < 32) = true ∧ mayBlockB (plusRule b r) = true) ∨ (mayRuleB r = true ∧ decide ((b.rules.length : Int) < 32) = false ∧ mayBlockB (plusRule b r) = false) ∨ (mayRuleB r = false ∧ mayBlockB (plusRule b r) = false) := by
          rw [HX.out]; cases mayRuleB r <;> cases decide ((b.rules.length : Int) < 32) <;> simp
        have hcy : (mayCheckB c = true ∧ decide ((b.checks.length : Int) < 32) = true ∧ mayBlockB (plusCheck b c) = true) ∨ (mayCheckB c = true ∧ decide ((b.checks.length : Int) < 32) = false ∧ mayBlockB (plusCheck b c) = false) ∨ (mayCheckB c = false ∧ mayBlockB (plusCheck b c) = false) := by
          rw [HY.out]; cases mayCheckB c <;> cases decide ((b.checks.length : Int) < 32) <;> simp
        have q_b := b_b_8.regrown
        have q_r := b_r_8.regrown
        have q_c := b_c_8.regrown
        have q_x := b_x_8.regrown
        have q_y := b_y_8.regrown
        have HS1 := Lib.hid (sameBk_self b)
        have HS2 := Lib.hid (sameBk_rule b r)
        have HS3 := Lib.hid (sameBk_check b c)
        clear how4 how5 hr4 hr5 hx5 hgr b_b_8 b_r_8 b_c_8 b_x_8 b_y_8
        go_wp2_with fail
        rcases hcx with ⟨x1, x2, x3⟩ | ⟨x1, x2, x3⟩ | ⟨x1, x3⟩ <;> rcases hcy with ⟨y1, y2, y3⟩ | ⟨y1, y2, y3⟩ | ⟨y1, y3⟩
        all_goals
          have X1 := Lib.hid x1
          have X3 := Lib.hid x3
          have Y1 := Lib.hid y1
          have Y3 := Lib.hid y3
          clear x1 x3 y1 y3
          refine wp_region_quiet_below (by kernel_rfl) (by kernel_rfl) ?_
          repeat (go_big_quiet_step ((first
            | (go_at_call 8; first
                | exact Calls.regrown_of (as_bool X3.out (mayBlock_any (d := d) (B := w8.heap.size) (vs := [_, _, _, _]) ((BkR d).keep (below_regrown _ _ _) (Nat.le_refl _) HQX.out) (below_regrown _ _ _).size))
                | exact Calls.regrown_of (as_bool Y3.out (mayBlock_any (d := d) (B := w8.heap.size) (vs := [_, _, _, _]) ((BkR d).keep (below_regrown _ _ _) (Nat.le_refl _) HQY.out) (below_regrown _ _ _).size)))
            | (go_at_call 10; exact Calls.regrown_of (as_bool X1.out (mayRule_any (d := d) (B := w8.heap.size) (vs := [_, _, _, _, _]) ((RuR d).keep (below_regrown _ _ _) (Nat.le_refl _) HPR8.out) (below_regrown _ _ _).size)))
            | (go_at_call 11; exact Calls.regrown_of (as_bool Y1.out (mayCheck_any (d := d) (B := w8.heap.size) (vs := [_, _]) ((CkR d).keep (below_regrown _ _ _) (Nat.le_refl _) HPC8.out) (below_regrown _ _ _).size)))
            | (go_at_call 12; first
                | exact Calls.regrown_of (as_bool HS1.out (sameBlock_any (d := d) (B := w8.heap.size) (va := [_, _, _, _]) (vb := [_, _, _, _]) ((BkR d).keep (below_regrown _ _ _) (Nat.le_refl _) HPB8.out) ((BkR d).keep (below_regrown _ _ _) (Nat.le_refl _) HPB8.out) (below_regrown _ _ _).size))
                | exact Calls.regrown_of (as_bool HS2.out (sameBlock_any (d := d) (B := w8.heap.size) (va := [_, _, _, _]) (vb := [_, _, _, _]) ((BkR d).keep (below_regrown _ _ _) (Nat.le_refl _) HPB8.out) ((BkR d).keep (below_regrown _ _ _) (Nat.le_refl _) HQX.out) (below_regrown _ _ _).size))
                | exact Calls.regrown_of (as_bool HS3.out (sameBlock_any (d := d) (B := w8.heap.size) (va := [_, _, _, _]) (vb := [_, _, _, _]) ((BkR d).keep (below_regrown _ _ _) (Nat.le_refl _) HPB8.out) ((BkR d).keep (below_regrown _ _ _) (Nat.le_refl _) HQY.out) (below_regrown _ _ _).size)))
            | (go_at_call 9; exact Calls.regrown_of (awake_any _)))))
          refine wpQuiet_nil ?_
          intro w9 hw9
          have hb9 : Below w8.heap.size w8 w9 := by obtain ⟨p, rfl⟩ := hw9; exact below_regrown _ _ _
          clear hw9 q_b q_r q_c q_x q_y
          have hfin := Lib.hid (bthen HB8.out hb9)
          clear hb9
          go_wp2_with fail
          go_ret
          exact ⟨rfl, hfin.out⟩
end Go.Proofs.YtfknlghegchbkabGreat
