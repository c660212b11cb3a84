/- Readers: what it means that cells read as a datum of some type; rows of such. -/
import Derived.Test.YtkdonhhbpacgmaaGreatTerm3
import Derived.Lib.QuietBelow
set_option linter.unusedVariables false
set_option linter.unusedSimpArgs false
namespace Go.Proofs.YtkdonhhbpacgmaaGreat
open Go.ChangeShapes Go.WideShapes Go.ChangeAt Go.RowKit
def flatMay (t : Tm) : Bool :=
 decide (t.l.length = 0) &&
 ((decide (t.kind = 1) && decide (t.n = 0) && nameB (bs t.s)) ||
  (decide (t.kind = 2) && decide (t.s.size = 0)) ||
  ((decide (t.kind = 3) || decide (t.kind = 5)) && decide (t.n = 0) && decide (t.s.size ≤ 256)) ||
  (decide (t.kind = 4) && decide (t.s.size = 0) && decide (0 ≤ t.n) && decide (t.n ≤ 253402300799)) ||
  (decide (t.kind = 6) && decide (t.s.size = 0) && (decide (t.n = 0) || decide (t.n = 1))))
def riseAt (l : List Tm) (i : Nat) : Bool :=
 match l[i]?, l[0]?, l[i - 1]? with
 | some x, some y, some z => flatMay x && decide (x.kind ≠ 1) && decide (x.kind = y.kind) && (decide (i = 0) || decide (cmpT 3 z x < 0))
 | _, _, _ => false
def risingB (l : List Tm) : Bool := (List.range l.length).all (riseAt l) && decide (l.length ≤ 16)
def mayB (t : Tm) : Bool := if t.kind = 7 then decide (t.n = 0) && decide (t.s.size = 0) && risingB t.l else flatMay t
def fixedB (t : Tm) : Bool := decide (t.kind ≠ 1) && mayB t
set_option maxRecDepth 100000 in
set_option maxHeartbeats 1000000 in
theorem fixed_of (d : Nat) (hM : ∀ (t : Tm) (vs : List Value) (B : Nat) (w : World), RTm w B d t vs → B ≤ w.heap.size →
     Calls Tryz.prog 48 #[.agg vs.toArray] w fun e w' => e = .returned (.bool (mayB t)) ∧ Below w.heap.size w w')
   (t : Tm) (vs : List Value) (B : Nat) (w : World) (ht : RTm w B d t vs) (hB : B ≤ w.heap.size) :
   Calls Tryz.prog 49 #[.agg vs.toArray] w fun e w' => e = .returned (.bool (fixedB t)) ∧ Below w.heap.size w w' := by
 have HM := Lib.hid hM
 clear hM
 obtain ⟨A, c, rfl, _⟩ := ht.cells
 have hbel : Below w.heap.size w (w.alloc (.cells #[.int .i64 t.kind, .int .i64 t.n, .string t.s, .slice A t.l.length c] 44)) := (Below.refl _ _).alloc (Nat.le_refl _) _
 have HB := Lib.hid hbel
 clear hbel
 by_cases hk : (t.kind != 1) = true
 · have hk' := Lib.hid hk
   go_enter Tryz.func49, Tryz.ntmps49
   go_wp2_with fail
   refine (HM.out t [_, _, _, _] B _ (ht.below HB.out hB) (Nat.le_trans hB HB.out.size)).mono ?_
   rintro e w1 ⟨rfl, hb1⟩
   have hfin := Lib.hid (HB.out.trans (hb1.mono HB.out.size))
   clear hb1
   go_wp2_with fail
   go_ret
   exact ⟨ret_bool (by simp [fixedB, (by simpa using hk'.out : t.kind ≠ 1)]), hfin.out⟩
 · have hk : (t.kind != 1) = false := by simpa using hk
   have hk' := Lib.hid hk
   go_enter Tryz.func49, Tryz.ntmps49
   go_wp2_with fail
   go_ret
   exact ⟨ret_bool (by simp [fixedB, (by simpa using hk'.out : t.kind = 1)]), HB.out⟩
theorem riseAt_iff {l : List Tm} {i : Nat} {x y z : Tm} (h1 : l[i]? = some x) (h2 : l[0]? = some y) (h3 : l[i - 1]? = some z) :
   riseAt l i = true ↔ ((fixedB x = true ∧ x.kind ≠ 7) ∧ x.kind = y.kind) ∧ (0 < i → cmpT 3 z x < 0) := by
 unfold riseAt
 rw [h1, h2, h3]
 simp only [Bool.and_eq_true, Bool.or_eq_true, decide_eq_true_eq, fixedB, mayB]
 by_cases hk : x.kind = 7
 · constructor
   · intro h
     have := h.1.1.1
     simp [flatMay, hk] at this
   · intro h; exact absurd hk h.1.1.2
 · rw [if_neg hk]
   constructor
   · rintro ⟨⟨⟨a, b⟩, c⟩, d⟩
     exact ⟨⟨⟨⟨b, a⟩, hk⟩, c⟩, fun h => d.resolve_left (by omega)⟩
   · rintro ⟨⟨⟨⟨a, b⟩, c⟩, d⟩, e⟩
     refine ⟨⟨⟨b, a⟩, d⟩, ?_⟩
     by_cases h : i = 0
     · exact .inl h
     · exact .inr (e (by omega))
set_option maxRecDepth 100000 in
set_option maxHeartbeats 400000 in
theorem rising_of (d : Nat) (hF : ∀ (t : Tm) (vs : List Value) (B : Nat) (w : World), RTm w B d t vs → B ≤ w.heap.size →
     Calls Tryz.prog 49 #[.agg vs.toArray] w fun e w' => e = .returned (.bool (fixedB t)) ∧ Below w.heap.size w w')
   (l : List Tm) (A : Option Addr) (c B : Nat) (w : World) (hl : RTms w B d l A) (hB : B ≤ w.heap.size) (hn : l.length * 40 ≤ 140737488351232) :
   Calls Tryz.prog 84 #[.slice A l.length c] w fun e w' => e = .returned (.bool (risingB l)) ∧ Below w.heap.size w w' := by
 have HF := Lib.hid hF
 clear hF
 go_enter Tryz.func84, Tryz.ntmps84
 go_wp2_with fail
 go_loopw [7] (fun i wr => ∃ k : Nat, k ≤ l.length ∧ i = .int .i64 k ∧ Below w.heap.size w wr ∧ ∀ i, i < k → riseAt l i = true) (fun i _ => l.length - (intOf i).toNat)
 case atStart => exact ⟨0, Nat.zero_le _, rfl, Below.refl _ _, fun i h => absurd h (by omega)⟩
 case round =>
   obtain ⟨k, hk, rfl, hbw, hall⟩ := hrel
   have HA := Lib.hid hall
   clear hall
   by_cases hlt : k < l.length
   · obtain ⟨b, off, rfl, hb⟩ := hl.base hbw hB (by omega)
     obtain ⟨x, Ax, cx, hx, c0, c1, c2, c3, hr⟩ := hl.at_ hbw hB hlt
     obtain ⟨y, Ay, cy, hy, f0, f1, f2, f3, hr0⟩ := hl.at_ (k := 0) hbw hB (by omega)
     obtain ⟨z, Az, cz, hz, g0, g1, g2, g3, hrz⟩ := hl.at_ (k := k - 1) hbw hB (by omega)
     have HR := Lib.hid (riseAt_iff hx hy hz)
     simp only [Nat.zero_mul, Nat.add_zero] at f0 f1 f2 f3
     clear hx hy hz f1 f2 f3
     have hW : Below wr.heap.size wr (wr.alloc (.cells #[.int .i64 x.kind, .int .i64 x.n, .string x.s, .slice Ax x.l.length cx] 44)) := (Below.refl _ _).alloc (Nat.le_refl _) _
     have x0 : (wr.alloc (.cells #[.int .i64 x.kind, .int .i64 x.n, .string x.s, .slice Ax x.l.length cx] 44)).cell? ⟨wr.heap.size, 0, none⟩ = some (.int .i64 x.kind) := by go_simp
     have x1 : (wr.alloc (.cells #[.int .i64 x.kind, .int .i64 x.n, .string x.s, .slice Ax x.l.length cx] 44)).cell? ⟨wr.heap.size, 1, none⟩ = some (.int .i64 x.n) := by go_simp
     have x2 : (wr.alloc (.cells #[.int .i64 x.kind, .int .i64 x.n, .string x.s, .slice Ax x.l.length cx] 44)).cell? ⟨wr.heap.size, 2, none⟩ = some (.string x.s) := by go_simp
     have x3 : (wr.alloc (.cells #[.int .i64 x.kind, .int .i64 x.n, .string x.s, .slice Ax x.l.length cx] 44)).cell? ⟨wr.heap.size, 3, none⟩ = some (.slice Ax x.l.length cx) := by go_simp
     have hS : (wr.alloc (.cells #[.int .i64 x.kind, .int .i64 x.n, .string x.s, .slice Ax x.l.length cx] 44)).heap.size = wr.heap.size + 1 := by simp
     have HW := Lib.hid hW
     have HS := Lib.hid hS
     clear hW hS
     go_wp2_with fail
     generalize (wr.alloc (.cells #[.int .i64 x.kind, .int .i64 x.n, .string x.s, .slice Ax x.l.length cx] 44)) = W0 at *
     have q0 := cell_regrown x0
     have q1 := cell_regrown x1
     have q2 := cell_regrown x2
     have q3 := cell_regrown x3
     have q4 := cell_regrown ((HW.out.cell (p := ⟨b, off, none⟩) hb).trans f0)
     have q5 := cell_regrown ((HW.out.cell (p := ⟨b, off + (k - 1) * 4, none⟩) hb).trans g0)
     have q6 := cell_regrown ((HW.out.cell (p := ⟨b, off + (k - 1) * 4 + 1, none⟩) hb).trans g1)
     have q7 := cell_regrown ((HW.out.cell (p := ⟨b, off + (k - 1) * 4 + 2, none⟩) hb).trans g2)
     have q8 := cell_regrown ((HW.out.cell (p := ⟨b, off + (k - 1) * 4 + 3, none⟩) hb).trans g3)
     clear x0 x1 x2 x3 f0 g0 g1 g2 g3 c0 c1 c2 c3
     have hrx := hr.below HW.out (by have := hbw.size; omega)
     have hrz := hrz.below HW.out (by have := hbw.size; omega)
     have hBW : B ≤ W0.heap.size := by have := hbw.size; have := HS.out; omega
     have hl0 : 0 < l.length := by omega
     have hcases : fixedB x = false ∨ (fixedB x = true ∧ (x.kind == 7) = true) ∨ (fixedB x = true ∧ (x.kind == 7) = false ∧ (x.kind != y.kind) = true) ∨
         (fixedB x = true ∧ (x.kind == 7) = false ∧ (x.kind != y.kind) = false ∧ decide (0 < k) = false) ∨
         (fixedB x = true ∧ (x.kind == 7) = false ∧ (x.kind != y.kind) = false ∧ 0 < k ∧ decide (0 ≤ cmpT 3 z x) = true) ∨
         (fixedB x = true ∧ (x.kind == 7) = false ∧ (x.kind != y.kind) = false ∧ 0 < k ∧ decide (0 ≤ cmpT 3 z x) = false) := by
       cases fixedB x <;> cases (x.kind == 7) <;> cases (x.kind != y.kind) <;> cases decide (0 ≤ cmpT 3 z x) <;> rcases Nat.eq_zero_or_pos k with h | h <;> simp [h]
     rcases hcases with hf | ⟨hf, h7⟩ | ⟨hf, h7, hy⟩ | ⟨hf, h7, hy, hk0⟩ | ⟨hf, h7, hy, hk0, hc⟩ | ⟨hf, h7, hy, hk0, hc⟩
     all_goals
       refine wp_region_quiet_below (by kernel_rfl) (by kernel_rfl) ?_
       repeat (go_big_quiet_step ((first
         | (go_at_call 49; exact Calls.regrown_of (HF.out x [_, _, _, _] B _ (hrx.below (below_regrown _ _ _) hBW) (Nat.le_trans hBW (below_regrown _ _ _).size)))
         | (go_at_call 79; exact Calls.regrown_of (compare_any d d z x [_, _, _, _] [_, _, _, _] B _ (hrz.below (below_regrown _ _ _) hBW) (hrx.below (below_regrown _ _ _) hBW) (Nat.le_trans hBW (below_regrown _ _ _).size))))))
       refine wpQuiet_nil ?_
       intro w1 hw1
       have hb1 : Below W0.heap.size W0 w1 := by obtain ⟨p, rfl⟩ := hw1; exact below_regrown _ _ _
       clear hw1
       go_wp2_with fail
       have hfin : Below w.heap.size w w1 := (hbw.trans (HW.out.mono hbw.size)).trans (hb1.mono (by have := hbw.size; have := HS.out; omega))
       try simp only [beq_iff_eq, bne_iff_ne, beq_eq_false_iff_ne, bne_eq_false_iff_eq, decide_eq_true_eq, decide_eq_false_iff_not] at *
       first
         | (have hn : riseAt l k = false := by
              rw [Bool.eq_false_iff]
              intro h
              have := HR.out.1 h
              simp_all
              try omega
            go_ret
            refine ⟨ret_bool ?_, hfin⟩
            show false = _
            rw [eq_comm, Bool.eq_false_iff, risingB]
            intro h
            rw [Bool.and_eq_true, List.all_eq_true] at h
            have := h.1 k (by simpa using hlt)
            rw [hn] at this
            cases this)
         | (have hn : riseAt l k = true := HR.out.2 (by
              refine ⟨⟨⟨hf, h7⟩, hy⟩, fun h => ?_⟩
              omega)
            go_roundw
            case rel => exact ⟨k + 1, by omega, by go_num, hfin, fun i hi => by
              rcases Nat.lt_or_ge i k with h1 | h1
              · exact HA.out i h1
              · obtain rfl : i = k := by omega
                exact hn⟩
            case measure => simp [intOf]; omega)
   · go_wp2_with fail
     go_ret
     refine ⟨ret_bool ?_, hbw⟩
     obtain rfl : k = l.length := by omega
     show decide ((l.length : Int) ≤ 16) = _
     have : (List.range l.length).all (riseAt l) = true := by simpa using HA.out
     rw [risingB, this, Bool.true_and, Bool.eq_iff_iff]
     simp
     omega
open Go.ChangeShapes Go.WideShapes Go.ChangeAt Go.RowKit
theorem toList_nil (s : ByteArray) : s.toList = [] ↔ s.size = 0 := by
 rw [ByteArray.toList_eq, Lib.size_eq]
 exact ⟨fun h => by rw [h]; rfl, fun h => List.eq_nil_of_length_eq_zero h⟩
theorem int_le_256 (k : Nat) : ((k : Int) ≤ 256) = (k ≤ 256) := by rw [eq_iff_iff]; omega
theorem toList_empty (s : ByteArray) : s.toList = [] ↔ s = ByteArray.empty := by rw [toList_nil]; simp
theorem isEmpty_empty (s : ByteArray) : s.toList.isEmpty = decide (s = ByteArray.empty) := by
 rw [Bool.eq_iff_iff, List.isEmpty_iff, toList_empty]; simp
set_option maxRecDepth 100000 in
set_option maxHeartbeats 1000000 in
theorem may_of (d : Nat) (hR : ∀ (l : List Tm) (A : Option Addr) (c B : Nat) (w : World), RTms w B d l A → B ≤ w.heap.size → l.length * 40 ≤ 140737488351232 →
     Calls Tryz.prog 84 #[.slice A l.length c] w fun e w' => e = .returned (.bool (risingB l)) ∧ Below w.heap.size w w')
   (t : Tm) (vs : List Value) (B : Nat) (w : World) (ht : RTm w B (d + 1) t vs) (hB : B ≤ w.heap.size) :
   Calls Tryz.prog 48 #[.agg vs.toArray] w fun e w' => e = .returned (.bool (mayB t)) ∧ Below w.heap.size w w' := by
 have HR := Lib.hid hR
 clear hR
 obtain ⟨A, c, rfl, hc1, hc2, hs, _, _, hl⟩ := ht.cells
 obtain ⟨kind, n, s, l⟩ := t
 dsimp only at hc1 hc2 hs hl
 have hbel : ∀ o : Obj, Below w.heap.size w (w.alloc o) := fun o => (Below.refl _ _).alloc (Nat.le_refl _) _
 have HB := Lib.hid hbel
 have HL := Lib.hid hl
 clear hbel ht hl
 have hcases : kind = 1 ∨ kind = 2 ∨ kind = 3 ∨ kind = 4 ∨ kind = 5 ∨ kind = 6 ∨ kind = 7 ∨ ((kind == 1) = false ∧ (kind == 2) = false ∧ (kind == 3) = false ∧ (kind == 4) = false ∧ (kind == 5) = false ∧ (kind == 6) = false ∧ (kind == 7) = false ∧ (kind != 7) = true) := by
   simp only [beq_eq_false_iff_ne, bne_iff_ne]; omega
 rcases hcases with rfl | rfl | rfl | rfl | rfl | rfl | rfl | ⟨k1, k2, k3, k4, k5, k6, k7, k8⟩
 all_goals
   go_enter Tryz.func48, Tryz.ntmps48
   go_wp2_with (first
     | (go_at_call 46; refine (name_any _ _ (by unfold maxLen; omega)).mono ?_; rintro e w' ⟨rfl, rfl⟩)
     | (go_at_call 84; refine (HR.out l A c B _ (HL.out.below (HB.out _) hB) (Nat.le_trans hB (HB.out _).size) (by omega)).mono ?_; rintro e w1 ⟨rfl, hb1⟩))
   all_goals go_ret
   all_goals first
     | refine ⟨ret_bool ?_, HB.out _⟩
     | refine ⟨ret_bool ?_, (HB.out _).trans (hb1.mono (HB.out _).size)⟩
   all_goals
     clear HR HL HB
     try simp only [toList_empty, isEmpty_empty, Nat.not_lt, Nat.le_zero_eq, List.length_pos_iff, ne_eq, Classical.not_not, beq_eq_false_iff_ne] at *
     simp [mayB, flatMay, int_le_256, *]
     try first
       | omega
       | (rw [Bool.eq_iff_iff]; simp; omega)
theorem may_all (d : Nat) : ∀ (t : Tm) (vs : List Value) (B : Nat) (w : World), RTm w B d t vs → B ≤ w.heap.size →
   Calls Tryz.prog 48 #[.agg vs.toArray] w fun e w' => e = .returned (.bool (mayB t)) ∧ Below w.heap.size w w' := by
 induction d with
 | zero => intro t vs B w h; exact h.elim
 | succ d ih => exact fun t vs B w => may_of d (fun l A c B w h1 h2 h3 => rising_of d (fixed_of d ih) l A c B w h1 h2 h3) t vs B w
theorem may_any {d : Nat} {t : Tm} {vs : List Value} {B : Nat} {w : World} (h : RTm w B d t vs) (hB : B ≤ w.heap.size) :
   Calls Tryz.prog 48 #[.agg vs.toArray] w fun e w' => e = .returned (.bool (mayB t)) ∧ Below w.heap.size w w' := may_all d t vs B w h hB
theorem fixed_any {d : Nat} {t : Tm} {vs : List Value} {B : Nat} {w : World} (h : RTm w B d t vs) (hB : B ≤ w.heap.size) :
   Calls Tryz.prog 49 #[.agg vs.toArray] w fun e w' => e = .returned (.bool (fixedB t)) ∧ Below w.heap.size w w' := fixed_of d (may_all d) t vs B w h hB
open Go.ChangeShapes Go.WideShapes Go.ChangeAt Go.RowKit
structure Reader (α : Type) where
 k : Nat
 rd : World → Nat → α → List Value → Prop
 keep : ∀ {w w' : World} {B C : Nat} {x : α} {vs : List Value}, Below C w w' → B ≤ C → rd w B x vs → rd w' B x vs
 wide : ∀ {w : World} {B B' : Nat} {x : α} {vs : List Value}, B ≤ B' → rd w B x vs → rd w B' x vs
 len : ∀ {w : World} {B : Nat} {x : α} {vs : List Value}, rd w B x vs → vs.length = k
def RL {α : Type} (R : Reader α) (w : World) (B : Nat) (xs : List α) (A : Option Addr) : Prop := RowOf w B R.k A xs.length (fun i vs => ∃ x, xs[i]? = some x ∧ R.rd w B x vs)
section
variable {α : Type} {R : Reader α} {w wr w' : World} {B B' C : Nat} {xs : List α} {A : Option Addr}
theorem RL.keep (h : RL R w B xs A) (hw : Below C w w') (hB : B ≤ C) : RL R w' B xs A :=
 (RowOf.below h hw hB).mono fun _ _ _ ⟨x, hx, hr⟩ => ⟨x, hx, R.keep hw hB hr⟩
theorem RL.wide (h : RL R w B xs A) (hB : B ≤ B') : RL R w B' xs A :=
 (RowOf.more h hB).mono fun _ _ _ ⟨x, hx, hr⟩ => ⟨x, hx, R.wide hB hr⟩
theorem RL.base (h : RL R w B xs A) (hbw : Below w.heap.size w wr) (hB : B ≤ w.heap.size) (hk : 0 < xs.length) : ∃ b off, A = some ⟨b, off, none⟩ ∧ b < wr.heap.size := by
 obtain ⟨b, off, rfl, hb, _⟩ := h hk
 exact ⟨b, off, rfl, by have := hbw.size; omega⟩
theorem RL.at_ {b off k : Nat} (h : RL R w B xs (some ⟨b, off, none⟩)) (hbw : Below w.heap.size w wr) (hB : B ≤ w.heap.size) (hk : k < xs.length) :
   ∃ x vs, xs[k]? = some x ∧ vs.length = R.k ∧ (∀ j v, vs[j]? = some v → wr.cell? ⟨b, off + k * R.k + j, none⟩ = some v) ∧ R.rd wr B x vs := by
 obtain ⟨b', off', e, hb, hc⟩ := h (by omega)
 simp only [Option.some.injEq, Addr.mk.injEq, and_true] at e
 obtain ⟨rfl, rfl⟩ := e
 obtain ⟨vs, hl, ⟨x, hx, hr⟩, hcell⟩ := hc k hk
 have hlt : b < w.heap.size := by omega
 exact ⟨x, vs, hx, hl, fun j v hv => (hbw.cell (p := ⟨b, off + k * R.k + j, none⟩) hlt).trans (hcell j v hv), R.keep hbw hB hr⟩
end
section
variable {α : Type} {R : Reader α} {w wr : World} {B : Nat} {xs : List α}
theorem RL.at0 {b off k : Nat} (h : RL R w B xs (some ⟨b, off, none⟩)) (hbw : Below w.heap.size w wr) (hB : B ≤ w.heap.size) (hk : k < xs.length) :
   ∃ x vs, xs[k]? = some x ∧ vs.length = R.k ∧ (∀ j v, vs[j]? = some v → wr.cell? ⟨b, off + k * R.k + j, none⟩ = some v) ∧ R.rd w B x vs := by
 obtain ⟨b', off', e, hb, hc⟩ := h (by omega)
 simp only [Option.some.injEq, Addr.mk.injEq, and_true] at e
 obtain ⟨rfl, rfl⟩ := e
 obtain ⟨vs, hl, ⟨x, hx, hr⟩, hcell⟩ := hc k hk
 have hlt : b < w.heap.size := by omega
 exact ⟨x, vs, hx, hl, fun j v hv => (hbw.cell (p := ⟨b, off + k * R.k + j, none⟩) hlt).trans (hcell j v hv), hr⟩
end
def TmR (d : Nat) : Reader Tm where
 k := 4
 rd := fun w B t vs => RTm w B d t vs
 keep := fun hw hB h => RTm.below hw hB h
 wide := fun hB h => RTm.more hB h
 len := fun h => by obtain ⟨_, _, rfl, _⟩ := RTm.cells h; rfl
theorem RTms.rl {w : World} {B d : Nat} {ts : List Tm} {A : Option Addr} (h : RTms w B d ts A) : RL (TmR d) w B ts A := h
theorem bcell {W w1 : World} (hb : Below W.heap.size W w1) : ∀ b o, b < W.heap.size → w1.cell? ⟨b, o, none⟩ = W.cell? ⟨b, o, none⟩ := fun b o h => hb.cell (p := ⟨b, o, none⟩) h
def idxF {α : Type} (p : α → Bool) (xs : List α) : Int := if xs.findIdx p < xs.length then (xs.findIdx p : Int) else -1
theorem idxF_none {α : Type} {p : α → Bool} {xs : List α} (h : ∀ i (hi : i < xs.length), p xs[i] = false) : idxF p xs = -1 := by
 unfold idxF
 rw [if_neg]
 rw [List.findIdx_lt_length]
 rintro ⟨x, hx, hp⟩
 obtain ⟨i, hi, rfl⟩ := List.getElem_of_mem hx
 rw [h i hi] at hp
 cases hp
theorem idxF_some {α : Type} {p : α → Bool} {xs : List α} {k : Nat} (hk : k < xs.length) (hp : p xs[k] = true) (h : ∀ i (hi : i < k), p (xs[i]'(by omega)) = false) : idxF p xs = k := by
 have e : xs.findIdx p = k := (List.findIdx_eq hk).2 ⟨hp, fun j hj => h j hj⟩
 unfold idxF
 rw [e, if_pos hk]
theorem idxF_any {α : Type} (p : α → Bool) (xs : List α) : decide (0 ≤ idxF p xs) = xs.any p := by
 rw [Bool.eq_iff_iff, decide_eq_true_eq, List.any_eq_true]
 unfold idxF
 by_cases h : xs.findIdx p < xs.length
 · rw [if_pos h]
   have := List.findIdx_lt_length.1 h
   simp only [this, iff_true]
   omega
 · rw [if_neg h]
   rw [List.findIdx_lt_length] at h
   simp only [h, iff_false]
   omega
def Tells (P : Program) {α : Type} (R : Reader α) (val : List Value → Value) (B : Nat) (w : World) (F : FuncId) (cap : Array Value) (p : α → Bool) : Prop :=
 ∀ (x : α) (vs : List Value) (w1 : World), Below w.heap.size w w1 → R.rd w1 B x vs → Calls P F (#[val vs] ++ cap) w1 fun e w' => e = .returned (.bool (p x)) ∧ Below w1.heap.size w1 w'
theorem Tells.later {P : Program} {α : Type} {R : Reader α} {val : List Value → Value} {B : Nat} {w w' : World} {F : FuncId} {cap : Array Value} {p : α → Bool} (h : Tells P R val B w F cap p) (hb : Below w.heap.size w w') : Tells P R val B w' F cap p :=
 fun x vs w1 h1 hr => h x vs w1 (hb.trans (h1.mono hb.size)) hr
def aggOf (vs : List Value) : Value := .agg vs.toArray
def oneOf (vs : List Value) : Value := vs.getD 0 undef
end Go.Proofs.YtkdonhhbpacgmaaGreat
