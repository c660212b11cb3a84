/- term.Same, term.Has, slices.Clone at terms, op.contains. -/
import Derived.Test.YtkdonhhbpacgmaaGreatOwn
import Derived.Test.YtkdonhhbpacgmaaGreatSort
import Derived.Laws.Bits64b
import Derived.Test.YtkdonhhbpacgmaaGreatBS
import Derived.Test.YtkdonhhbpacgmaaGreatRead
import Derived.Laws.Cover3
set_option linter.unusedVariables false
set_option linter.unusedSimpArgs false
namespace Go.Proofs.YtkdonhhbpacgmaaGreat
open Go.ChangeShapes Go.WideShapes Go.ChangeAt Go.RowKit
theorem ret_tm {fn : Func} {tmps : Array Value} {p : Tmp} {g : Nat} {w : World} {cs : Array Value} (h : fn.results = #[.cell p 44]) (hp : tmps.getD p undef = .pointer (some ⟨g, 0, none⟩)) (hb : Blk w g cs) (hn : cs.size = 4) :
   (results fn tmps).run Tryz.prog w = .ok (.agg cs) w := by
 obtain ⟨T, hb⟩ := hb
 exact results_cell_row h tmps w g T cs (0, 0) _ hp hb Tryz.underlying44 rfl (by rw [hn]; kernel_rfl)
theorem ret_tm2 {fn : Func} {tmps : Array Value} {p u : Tmp} {g : Nat} {w : World} {cs : Array Value} (h : fn.results = #[.cell p 44, .tmp u]) (hp : tmps.getD p undef = .pointer (some ⟨g, 0, none⟩)) (hb : Blk w g cs) (hn : cs.size = 4) :
   (results fn tmps).run Tryz.prog w = .ok (.tuple #[.agg cs, tmps.getD u undef]) w := by
 obtain ⟨T, hb⟩ := hb
 rw [results_cell_tmp h]
 have e : tmps[p]?.getD undef = .pointer (some ⟨g, 0, none⟩) := by simpa using hp
 have e1 : ((asAddr (tmps.getD p undef)).run Tryz.prog w) = .ok ⟨g, 0, none⟩ w := by simp [e, asAddr]
 rw [e1, Result.andThen_ok, run_loadVar_row w g T 44 cs (0, 0) _ hb Tryz.underlying44 rfl (by rw [hn]; kernel_rfl), Result.andThen_ok]
open Go.ChangeShapes Go.WideShapes Go.ChangeAt Go.RowKit
theorem put4 {w w2 : World} {g : Nat} {a0 a1 a2 a3 v0 v1 v2 v3 : Value} (h : Blk w2 g #[a0, a1, a2, a3]) (hb : Below w.heap.size w w2) (hg : w.heap.size ≤ g) :
   Blk ((((w2.setCell ⟨g, 0, none⟩ v0).setCell ⟨g, 1, none⟩ v1).setCell ⟨g, 2, none⟩ v2).setCell ⟨g, 3, none⟩ v3) g #[v0, v1, v2, v3] ∧
   Below w.heap.size w ((((w2.setCell ⟨g, 0, none⟩ v0).setCell ⟨g, 1, none⟩ v1).setCell ⟨g, 2, none⟩ v2).setCell ⟨g, 3, none⟩ v3) :=
 ⟨(((h.set_ 0 v0).set_ 1 v1).set_ 2 v2).set_ 3 v3, (((hb.setCell (p := ⟨g, 0, none⟩) hg v0).setCell (p := ⟨g, 1, none⟩) hg v1).setCell (p := ⟨g, 2, none⟩) hg v2).setCell (p := ⟨g, 3, none⟩) hg v3⟩
end Go.Proofs.YtkdonhhbpacgmaaGreat
namespace Go.Proofs.YtkdonhhbpacgmaaGreat
theorem cmpI_anti (x y : Int) : cmpI x y = -cmpI y x := by unfold cmpI; split <;> split <;> omega
theorem cmpS_anti (x y : List UInt8) : cmpS x y = -cmpS y x := by
 unfold cmpS
 by_cases h1 : x < y
 · rw [if_pos h1, if_neg (List.lt_asymm h1), if_pos h1]
 · by_cases h2 : y < x
   · rw [if_neg h1, if_pos h2, if_pos h2]; rfl
   · rw [if_neg h1, if_neg h2, if_neg h2, if_neg h1]; rfl
theorem cmpS_neg {x y : List UInt8} : cmpS x y < 0 ↔ x < y := by
 unfold cmpS
 by_cases h1 : x < y
 · simp [h1]
 · by_cases h2 : y < x
   · rw [if_neg h1, if_pos h2]; simp [h1]
   · rw [if_neg h1, if_neg h2]; simp [h1]
structure Ord3 {α : Type} (c : α → α → Int) : Prop where
 anti : ∀ x y, c x y = -c y x
 trans : ∀ x y z, c x y ≤ 0 → c y z ≤ 0 → c x z ≤ 0
section
variable {α : Type} {c : α → α → Int}
theorem Ord3.self (h : Ord3 c) (x : α) : c x x = 0 := by have := h.anti x x; omega
theorem Ord3.lt_le (h : Ord3 c) {x y z : α} (h1 : c x y < 0) (h2 : c y z ≤ 0) : c x z < 0 := by
 have t := h.trans x y z (by omega) h2
 rcases Int.lt_or_eq_of_le t with t | t
 · exact t
 · have a := h.anti x z
   have b := h.trans y z x h2 (by omega)
   have d := h.anti x y
   omega
theorem Ord3.le_lt (h : Ord3 c) {x y z : α} (h1 : c x y ≤ 0) (h2 : c y z < 0) : c x z < 0 := by
 have t := h.trans x y z h1 (by omega)
 rcases Int.lt_or_eq_of_le t with t | t
 · exact t
 · have a := h.anti x z
   have b := h.trans z x y (by omega) h1
   have d := h.anti y z
   omega
theorem Ord3.zero_l (h : Ord3 c) {x y z : α} (h1 : c x y = 0) : c x z = c y z ∨ (c x z < 0 ∧ c y z < 0) ∨ (0 < c x z ∧ 0 < c y z) := by
 have h1' := h.anti x y
 rcases Int.lt_trichotomy (c y z) 0 with k | k | k
 · exact .inr (.inl ⟨h.le_lt (by omega) k, k⟩)
 · left
   have a := h.trans x y z (by omega) (by omega)
   have b := h.trans z y x (by have := h.anti z y; omega) (by omega)
   have d := h.anti x z
   omega
 · right; right
   have a := h.anti y z
   have b := h.anti x z
   have d := h.lt_le (x := z) (y := y) (z := x) (by omega) (by omega)
   omega
end
theorem cmpI_ord : Ord3 cmpI := ⟨cmpI_anti, fun x y z h k => by unfold cmpI at *; split at h <;> split at k <;> (try split at h) <;> (try split at k) <;> split <;> (try split) <;> omega⟩
theorem cmpS_le {x y : List UInt8} : cmpS x y ≤ 0 ↔ x ≤ y := by
 have h := cmpS_anti x y
 have k := @cmpS_neg y x
 rw [show (cmpS x y ≤ 0) ↔ ¬ (cmpS y x < 0) by omega, k]
 exact List.not_lt
theorem cmpS_ord : Ord3 cmpS := ⟨cmpS_anti, fun x y z h k => by rw [cmpS_le] at *; exact List.le_trans h k⟩
def thenC {α : Type} (c d : α → α → Int) (x y : α) : Int := if c x y = 0 then d x y else c x y
theorem Ord3.andThen {α : Type} {c d : α → α → Int} (hc : Ord3 c) (hd : Ord3 d) : Ord3 (thenC c d) := by
 refine ⟨fun x y => ?_, fun x y z h k => ?_⟩
 · unfold thenC
   have h1 := hc.anti x y
   have h2 := hd.anti x y
   split <;> split <;> omega
 · unfold thenC at *
   by_cases h1 : c x y = 0
   · rw [if_pos h1] at h
     by_cases h2 : c y z = 0
     · rw [if_pos h2] at k
       have e : c x z = 0 := by rcases hc.zero_l (z := z) h1 with e | e | e <;> omega
       rw [if_pos e]
       exact hd.trans x y z h k
     · rw [if_neg h2] at k
       have e : c x z < 0 := by rcases hc.zero_l (z := z) h1 with e | e | e <;> omega
       rw [if_neg (by omega)]; omega
   · rw [if_neg h1] at h
     have h' : c x y < 0 := by omega
     by_cases h2 : c y z = 0
     · have e := hc.lt_le h' (by omega : c y z ≤ 0)
       rw [if_neg (by omega)]; omega
     · rw [if_neg h2] at k
       have e := hc.lt_le h' k
       rw [if_neg (by omega)]; omega
theorem Ord3.by {α β : Type} {c : β → β → Int} (hc : Ord3 c) (f : α → β) : Ord3 (fun x y => c (f x) (f y)) := ⟨fun _ _ => hc.anti _ _, fun _ _ _ => hc.trans _ _ _⟩
theorem cmp3_ord : Ord3 cmp3 := by
 have h : cmp3 = thenC (fun a b => cmpI a.kind b.kind) (thenC (fun a b => cmpI a.n b.n) (fun a b => cmpS (bs a.s) (bs b.s))) := by
   funext a b; rfl
 rw [h]
 exact (cmpI_ord.by Tm.kind).andThen ((cmpI_ord.by Tm.n).andThen (cmpS_ord.by fun t : Tm => bs t.s))
theorem cmpL_ord {f : Tm → Tm → Int} (hf : Ord3 f) : Ord3 (cmpL f) := by
 refine ⟨?_, ?_⟩
 · intro x
   induction x with
   | nil => intro y; cases y <;> simp [cmpL]
   | cons a x ih =>
     intro y
     cases y with
     | nil => simp [cmpL]
     | cons b y =>
       have h := hf.anti a b
       have := ih y
       simp only [cmpL]
       split <;> split <;> omega
 · intro x
   induction x with
   | nil => intro y z _ _; cases z <;> simp [cmpL]
   | cons a x ih =>
     intro y z h k
     cases y with
     | nil => simp [cmpL] at h
     | cons b y =>
       cases z with
       | nil => simp [cmpL] at k
       | cons d z =>
         have key := (hf.andThen (c := f) (d := fun _ _ => 0) ⟨fun _ _ => rfl, fun _ _ _ _ _ => by simp⟩)
         simp only [cmpL] at *
         by_cases h1 : f a b = 0
         · rw [if_pos h1] at h
           by_cases h2 : f b d = 0
           · rw [if_pos h2] at k
             have e : f a d = 0 := by rcases hf.zero_l (z := d) h1 with e | e | e <;> omega
             rw [if_pos e]
             exact ih y z h k
           · rw [if_neg h2] at k
             have e : f a d < 0 := by rcases hf.zero_l (z := d) h1 with e | e | e <;> omega
             rw [if_neg (by omega)]; omega
         · rw [if_neg h1] at h
           have e : f a d < 0 := by
             by_cases h2 : f b d = 0
             · exact hf.lt_le (y := b) (by omega) (by omega)
             · rw [if_neg h2] at k; exact hf.lt_le (y := b) (by omega) k
           rw [if_neg (by omega)]; omega
theorem cmpT_ord : ∀ d, Ord3 (cmpT d)
 | 0 => by
   have h : cmpT 0 = cmp3 := by funext a b; rfl
   rw [h]; exact cmp3_ord
 | d + 1 => by
   have h : cmpT (d + 1) = thenC cmp3 (fun a b => cmpL (cmpT d) a.l b.l) := by funext a b; rfl
   rw [h]
   exact cmp3_ord.andThen ((cmpL_ord (cmpT_ord d)).by Tm.l)
theorem bs_inj {a b : ByteArray} (h : bs a = bs b) : a = b := by
 have : a.data.toList = b.data.toList := h
 cases a; cases b
 simp only [ByteArray.mk.injEq]
 exact Array.toList_inj.1 this
def Leaf (t : Tm) : Prop := t.l = []
def Two (t : Tm) : Prop := ∀ x ∈ t.l, Leaf x
theorem flatMay_leaf {t : Tm} (h : flatMay t = true) : Leaf t := by
 unfold flatMay at h
 rw [Bool.and_eq_true, decide_eq_true_eq] at h
 exact List.eq_nil_of_length_eq_zero h.1
open Go.ChangeShapes Go.WideShapes Go.ChangeAt Go.RowKit
theorem below_new {w W : World} {o : Obj} (h : w.alloc o = W) : Below w.heap.size w W := (al1 h).1
theorem fixed_parts {t : Tm} (h : fixedB t = true) : if t.kind = 7 then t.n = 0 ∧ t.s.size = 0 ∧ risingB t.l = true else t.l = [] := by
 unfold fixedB mayB at h
 rw [Bool.and_eq_true] at h
 by_cases h7 : t.kind = 7
 · rw [if_pos h7] at h ⊢
   have h2 := h.2
   simp only [Bool.and_eq_true, decide_eq_true_eq] at h2
   exact ⟨h2.1.1, h2.1.2, h2.2⟩
 · rw [if_neg h7] at h ⊢
   exact flatMay_leaf h.2
theorem rising_parts {l : List Tm} (h : risingB l = true) : l.length ≤ 16 ∧ ∀ x ∈ l, Leaf x := by
 unfold risingB at h
 rw [Bool.and_eq_true, List.all_eq_true, decide_eq_true_eq] at h
 refine ⟨h.2, fun x hx => ?_⟩
 obtain ⟨i, hi, rfl⟩ := List.getElem_of_mem hx
 have := h.1 i (List.mem_range.2 hi)
 unfold riseAt at this
 rw [List.getElem?_eq_getElem hi, List.getElem?_eq_getElem (show 0 < l.length by omega), List.getElem?_eq_getElem (show i - 1 < l.length by omega)] at this
 simp only [Bool.and_eq_true] at this
 exact flatMay_leaf this.1.1.1
open Go.ChangeShapes Go.WideShapes Go.ChangeAt Go.RowKit
theorem single_tm (d : Nat) : Single (TmR d) := fun h u hu => by
 obtain ⟨_, _, rfl, _⟩ := RTm.cells h
 simp only [List.mem_cons, List.not_mem_nil, or_false] at hu
 rcases hu with rfl | rfl | rfl | rfl <;> rfl
theorem infoTm : (Tryz.prog.info? 44).map (fun i => (i.zero, i.size, i.bytes)) = some (some (.agg #[.int .i64 0, .int .i64 0, .string ⟨#[]⟩, .slice none 0 0]), 4, 56) := by kernel_rfl
open Go.ChangeShapes Go.WideShapes Go.ChangeAt Go.RowKit
def Exc (g : Nat) (w w' : World) : Prop := Below g w w' ∧ ∀ b, b < w.heap.size → b ≠ g → w'.heap[b]? = w.heap[b]?
section
variable {g : Nat} {a b c : World}
theorem Exc.refl (g : Nat) (w : World) : Exc g w w := ⟨Below.refl _ _, fun _ _ _ => rfl⟩
theorem Exc.trans (h : Exc g a b) (k : Exc g b c) : Exc g a c :=
 ⟨h.1.trans k.1, fun i hi hg => (k.2 i (Nat.lt_of_lt_of_le hi h.1.size) hg).trans (h.2 i hi hg)⟩
theorem Exc.of (hg : g ≤ a.heap.size) (h : Below a.heap.size a b) : Exc g a b := ⟨h.mono hg, fun i hi _ => h.block i hi⟩
theorem Exc.then (h : Exc g a b) (hg : g ≤ a.heap.size) (k : Below b.heap.size b c) : Exc g a c := h.trans (Exc.of (Nat.le_trans hg h.1.size) k)
theorem Exc.set (h : Exc g a b) (i : Nat) (v : Value) : Exc g a (b.setCell ⟨g, i, none⟩ v) :=
 ⟨h.1.setCell (p := ⟨g, i, none⟩) (Nat.le_refl _) v, fun k hk hg => (Below.heap_setCell b ⟨g, i, none⟩ v k hg).trans (h.2 k hk hg)⟩
theorem Exc.drew (h : Exc g a b) : Exc g a b.drew := ⟨h.1.drew, h.2⟩
theorem Exc.blk {x : Nat} {vs : Array Value} (h : Exc g a b) (hx : x ≠ g) (hb : Blk a x vs) : Blk b x vs := by
 have hl := hb.lt
 obtain ⟨T, hb⟩ := hb
 exact ⟨T, (h.2 x hl hx).trans hb⟩
end
theorem OwnR.exc {α : Type} {R : Reader α} {e : TypeId} {w w' : World} {base g : Nat} {v : Value} {xs : List α} (h : OwnR R e w base 0 v xs) (he : Exc g w w') (hg : g < base) : OwnR R e w' base 0 v xs := by
 obtain ⟨cells, h, hf⟩ := h
 refine ⟨cells, ⟨h.1, ?_⟩, hf.keep (he.1.mono (Nat.zero_le _)) (Nat.le_refl _)⟩
 rcases h.2 with h2 | ⟨g', cap, cur, hv, hg', hh, r⟩
 · exact .inl h2
 · refine .inr ⟨g', cap, cur, hv, hg', ?_, r⟩
   have hlt : g' < w.heap.size := by
     rcases Nat.lt_or_ge g' w.heap.size with h' | h'
     · exact h'
     · rw [Array.getElem?_eq_none h'] at hh; cases hh
   rw [he.2 g' hlt (by omega)]; exact hh
theorem Exc.own {g base : Nat} {a b c : World} (h : Exc g a b) (k : Below base b c) (hb : a.heap.size ≤ base) (hg : g < base) : Exc g a c :=
 ⟨h.1.trans (k.mono (by omega)), fun i hi hne => (k.block i (by omega)).trans (h.2 i hi hne)⟩
def Exc2 (g h : Nat) (w w' : World) : Prop := Below (min g h) w w' ∧ ∀ b, b < w.heap.size → b ≠ g → b ≠ h → w'.heap[b]? = w.heap[b]?
section
variable {g h : Nat} {a b c : World}
theorem Exc2.refl (g h : Nat) (w : World) : Exc2 g h w w := ⟨Below.refl _ _, fun _ _ _ _ => rfl⟩
theorem Exc2.trans (k : Exc2 g h a b) (l : Exc2 g h b c) : Exc2 g h a c :=
 ⟨k.1.trans l.1, fun i hi h1 h2 => (l.2 i (Nat.lt_of_lt_of_le hi k.1.size) h1 h2).trans (k.2 i hi h1 h2)⟩
theorem Exc.left (k : Exc g a b) (h : Nat) : Exc2 g h a b := ⟨k.1.mono (Nat.min_le_left _ _), fun i hi h1 _ => k.2 i hi h1⟩
theorem Exc.right (k : Exc h a b) (g : Nat) : Exc2 g h a b := ⟨k.1.mono (Nat.min_le_right _ _), fun i hi _ h2 => k.2 i hi h2⟩
theorem Exc2.of (hg : min g h ≤ a.heap.size) (k : Below a.heap.size a b) : Exc2 g h a b := ⟨k.mono hg, fun i hi _ _ => k.block i hi⟩
theorem Exc2.then (k : Exc2 g h a b) (hg : min g h ≤ a.heap.size) (l : Below b.heap.size b c) : Exc2 g h a c := k.trans (Exc2.of (Nat.le_trans hg k.1.size) l)
theorem Exc2.blk {x : Nat} {vs : Array Value} (k : Exc2 g h a b) (h1 : x ≠ g) (h2 : x ≠ h) (hb : Blk a x vs) : Blk b x vs := by
 have hl := hb.lt
 obtain ⟨T, hb⟩ := hb
 exact ⟨T, (k.2 x hl h1 h2).trans hb⟩
end
open Go.ChangeShapes Go.WideShapes Go.ChangeAt Go.RowKit
theorem eql_slice_nil {P : Program} (t e : TypeId) (a : Addr) (l c : Nat) (h : P.underlying t = some (.slice e)) (w : World) : (binOp .eql t (.slice (some a) l c) (.slice none 0 0)).run P w = .ok (.bool false) w := by
 simp only [binOp]
 simp [run_equal_slice_nil w t e (some a) l c h]
theorem eql_none_nil {P : Program} (t e : TypeId) (l c : Nat) (h : P.underlying t = some (.slice e)) (w : World) : (binOp .eql t (.slice none l c) (.slice none 0 0)).run P w = .ok (.bool true) w := by
 simp only [binOp]
 simp [run_equal_slice_nil w t e none l c h]
def sameB (a b : Tm) : Bool := decide (cmpT 3 a b = 0)
set_option maxRecDepth 100000 in
set_option maxHeartbeats 1000000 in
theorem same_any {d d' B : Nat} {a b : Tm} {vs ws : List Value} {w : World} (ha : RTm w B d a vs) (hb : RTm w B d' b ws) (hB : B ≤ w.heap.size) :
   Calls Tryz.prog 52 #[.agg vs.toArray, .agg ws.toArray] w fun e w' => e = .returned (.bool (sameB a b)) ∧ Below w.heap.size w w' := by
 have HA := Lib.hid ha
 have HB_ := Lib.hid hb
 obtain ⟨A, c, rfl, _⟩ := ha.cells
 obtain ⟨A', c', rfl, _⟩ := hb.cells
 clear ha hb
 go_enter Tryz.func52, Tryz.ntmps52
 go_wp2_with fail
 generalize hW : World.alloc _ _ = w1
 obtain ⟨hb, hz⟩ := al2 hW
 have HB1 := Lib.hid hb
 clear hW hz hb
 refine (compare_any d d' a b [_, _, _, _] [_, _, _, _] B w1 (HA.out.below HB1.out hB) (HB_.out.below HB1.out hB) (Nat.le_trans hB HB1.out.size)).mono ?_
 rintro e w2 ⟨rfl, hb⟩
 have HB2 := Lib.hid (bthen HB1.out hb)
 clear hb
 go_wp2_with fail
 go_ret
 exact ⟨rfl, HB2.out⟩
set_option maxRecDepth 100000 in
set_option maxHeartbeats 1000000 in
theorem cloneTm_any {d B c : Nat} {xs : List Tm} {A : Option Addr} {w : World} (hl : RL (TmR d) w B xs A) (hB : B ≤ w.heap.size) (hn : xs.length * 56 ≤ 140737488351232) :
   Calls Tryz.prog 57 #[.slice A xs.length c] w fun e w' => (∃ v, e = .returned v ∧ OwnR (TmR d) 44 w' w.heap.size B v xs) ∧ Below w.heap.size w w' := by
 obtain ⟨i0, hi0, hz0, hz1, hz2⟩ := info_parts infoTm
 have hsrc := Lib.hid (hl.keep ((Below.refl w.heap.size w).alloc (Nat.le_refl _) (.cells #[] 44)) hB).src
 have hown := Lib.hid (OwnR.empty (base := w.heap.size) (TmR d) 44 (w := w.alloc (.cells #[] 44)) (b := w.heap.size) (heap_alloc_new w _) (Nat.le_refl _) B)
 have HA := Lib.hid ((Below.refl w.heap.size w).alloc (Nat.le_refl _) (.cells #[] 44))
 rcases A with _ | a
 · have h0 : xs = [] := by
     rcases xs with _ | ⟨x, xs⟩
     · rfl
     · obtain ⟨_, _, e, _⟩ := hl (by simp)
       cases e
   subst h0
   clear hl
   have he : ∀ wx : World, (binOp BinOp.eql 22 (.slice none 0 c) (.slice none 0 0)).run Tryz.prog wx = .ok (.bool true) wx := fun wx => eql_none_nil 22 44 0 c Tryz.underlying22 wx
   go_enter Tryz.func57, Tryz.ntmps57
   go_wp2_with fail
   go_ret
   exact ⟨⟨_, rfl, OwnR.nil _ _ _ _ _⟩, Below.refl _ _⟩
 · clear hl
   have he : ∀ wx : World, (binOp BinOp.eql 22 (.slice (some a) xs.length c) (.slice none 0 0)).run Tryz.prog wx = .ok (.bool false) wx := fun wx => eql_slice_nil 22 44 a xs.length c Tryz.underlying22 wx
   go_enter Tryz.func57, Tryz.ntmps57
   go_wp2_with ((
      at_builtin
      refine wpList_append_R (R := TmR d) (e := 44) rfl (.tmp 5) (.tmp 6) 22 rfl (bytes := 56) Tryz.underlying22 hi0 hz0 hz1 hz2 rfl (show 0 < 4 by omega) (single_tm d) rfl hown.out rfl hsrc.out rfl hB (by simp only [List.length_nil]; omega) (by omega) HA.out.size ?_
      intro v1 w1 hown1 hb1
      have HO := Lib.hid hown1
      have HB1 := Lib.hid (HA.out.trans hb1)
      clear hown1 hb1))
   go_ret
   exact ⟨⟨_, rfl, HO.out⟩, HB1.out⟩
end Go.Proofs.YtkdonhhbpacgmaaGreat
