/- The order of terms is an order. -/
import Derived.Test.YtiplipdigabidaaGreatSingle
import Derived.Shelf.Small.Bits
import Derived.Shelf.Small.Strs
import Derived.Shelf.Small.Wraps
import Derived.Shelf.Strconv.Itoa0
import Derived.Shelf.Strings.Search1
import Derived.Shelf.Strings.Search2
import Derived.Shelf.Strings.Search3
import Derived.Shelf.LaysM
import Derived.Shelf.Strings.Shaped
import Derived.Shelf.Sort.Plain
import Derived.Shelf.Strings.Prefix
import Derived.Shelf.Bits.Mul64
import Derived.Shelf.Slices.CompactS
import Derived.Ground.Names2Prog
import Derived.Shelf.Slices.SearchI
import Derived.Shelf.Slices.Cells
import Derived.Shelf.Slices.In.SortNone
import Derived.Test.YtiplipdigabidaaGreatProg
import Derived.Laws.Cover3
import Derived.Test.YtiplipdigabidaaGreatRead
set_option linter.unusedVariables false
set_option linter.unusedSimpArgs false
namespace Go.Proofs.YtiplipdigabidaaGreat
open Go.ChangeShapes Go.WideShapes Go.ChangeAt Go.RowKit
def Exc (g : Nat) (w w' : World) : Prop := Below g w w' ∧ ∀ b, b < w.heap.size → b ≠ g → w'.heap[b]? = w.heap[b]?
section
variable {g : Nat} {a b c : World}
theorem Exc.refl (g : Nat) (w : World) : Exc g w w := ⟨Below.refl _ _, fun _ _ _ => rfl⟩
theorem Exc.trans (h : Exc g a b) (k : Exc g b c) : Exc g a c :=
 ⟨h.1.trans k.1, fun i hi hg => (k.2 i (Nat.lt_of_lt_of_le hi h.1.size) hg).trans (h.2 i hi hg)⟩
theorem Exc.of (hg : g ≤ a.heap.size) (h : Below a.heap.size a b) : Exc g a b := ⟨h.mono hg, fun i hi _ => h.block i hi⟩
theorem Exc.then (h : Exc g a b) (hg : g ≤ a.heap.size) (k : Below b.heap.size b c) : Exc g a c := h.trans (Exc.of (Nat.le_trans hg h.1.size) k)
theorem Exc.set (h : Exc g a b) (i : Nat) (v : Value) : Exc g a (b.setCell ⟨g, i, none⟩ v) :=
 ⟨h.1.setCell (p := ⟨g, i, none⟩) (Nat.le_refl _) v, fun k hk hg => (Below.heap_setCell b ⟨g, i, none⟩ v k hg).trans (h.2 k hk hg)⟩
theorem Exc.drew (h : Exc g a b) : Exc g a b.drew := ⟨h.1.drew, h.2⟩
theorem Exc.blk {x : Nat} {vs : Array Value} (h : Exc g a b) (hx : x ≠ g) (hb : Blk a x vs) : Blk b x vs := by
 have hl := hb.lt
 obtain ⟨T, hb⟩ := hb
 exact ⟨T, (h.2 x hl hx).trans hb⟩
end
theorem OwnR.exc {α : Type} {R : Reader α} {e : TypeId} {w w' : World} {base g : Nat} {v : Value} {xs : List α} (h : OwnR R e w base 0 v xs) (he : Exc g w w') (hg : g < base) : OwnR R e w' base 0 v xs := by
 obtain ⟨cells, h, hf⟩ := h
 refine ⟨cells, ⟨h.1, ?_⟩, hf.keep (he.1.mono (Nat.zero_le _)) (Nat.le_refl _)⟩
 rcases h.2 with h2 | ⟨g', cap, cur, hv, hg', hh, r⟩
 · exact .inl h2
 · refine .inr ⟨g', cap, cur, hv, hg', ?_, r⟩
   have hlt : g' < w.heap.size := by
     rcases Nat.lt_or_ge g' w.heap.size with h' | h'
     · exact h'
     · rw [Array.getElem?_eq_none h'] at hh; cases hh
   rw [he.2 g' hlt (by omega)]; exact hh
theorem Exc.own {g base : Nat} {a b c : World} (h : Exc g a b) (k : Below base b c) (hb : a.heap.size ≤ base) (hg : g < base) : Exc g a c :=
 ⟨h.1.trans (k.mono (by omega)), fun i hi hne => (k.block i (by omega)).trans (h.2 i hi hne)⟩
def Exc2 (g h : Nat) (w w' : World) : Prop := Below (min g h) w w' ∧ ∀ b, b < w.heap.size → b ≠ g → b ≠ h → w'.heap[b]? = w.heap[b]?
section
variable {g h : Nat} {a b c : World}
theorem Exc2.refl (g h : Nat) (w : World) : Exc2 g h w w := ⟨Below.refl _ _, fun _ _ _ _ => rfl⟩
theorem Exc2.trans (k : Exc2 g h a b) (l : Exc2 g h b c) : Exc2 g h a c :=
 ⟨k.1.trans l.1, fun i hi h1 h2 => (l.2 i (Nat.lt_of_lt_of_le hi k.1.size) h1 h2).trans (k.2 i hi h1 h2)⟩
theorem Exc.left (k : Exc g a b) (h : Nat) : Exc2 g h a b := ⟨k.1.mono (Nat.min_le_left _ _), fun i hi h1 _ => k.2 i hi h1⟩
theorem Exc.right (k : Exc h a b) (g : Nat) : Exc2 g h a b := ⟨k.1.mono (Nat.min_le_right _ _), fun i hi _ h2 => k.2 i hi h2⟩
theorem Exc2.of (hg : min g h ≤ a.heap.size) (k : Below a.heap.size a b) : Exc2 g h a b := ⟨k.mono hg, fun i hi _ _ => k.block i hi⟩
theorem Exc2.then (k : Exc2 g h a b) (hg : min g h ≤ a.heap.size) (l : Below b.heap.size b c) : Exc2 g h a c := k.trans (Exc2.of (Nat.le_trans hg k.1.size) l)
theorem Exc2.blk {x : Nat} {vs : Array Value} (k : Exc2 g h a b) (h1 : x ≠ g) (h2 : x ≠ h) (hb : Blk a x vs) : Blk b x vs := by
 have hl := hb.lt
 obtain ⟨T, hb⟩ := hb
 exact ⟨T, (k.2 x hl h1 h2).trans hb⟩
end
theorem OwnR.exc2 {α : Type} {R : Reader α} {e : TypeId} {w w' : World} {base B g h : Nat} {v : Value} {xs : List α} (k : OwnR R e w base B v xs) (he : Exc2 g h w w') (hg : g < base) (hh : h < base) (hB : B ≤ min g h) : OwnR R e w' base B v xs := by
 obtain ⟨cells, k, hf⟩ := k
 refine ⟨cells, ⟨k.1, ?_⟩, hf.keep he.1 hB⟩
 rcases k.2 with h2 | ⟨g', cap, cur, hv, hg', hh', r⟩
 · exact .inl h2
 · refine .inr ⟨g', cap, cur, hv, hg', ?_, r⟩
   have hlt : g' < w.heap.size := by
     rcases Nat.lt_or_ge g' w.heap.size with h' | h'
     · exact h'
     · rw [Array.getElem?_eq_none h'] at hh'; cases hh'
   rw [he.2 g' hlt (by omega) (by omega)]; exact hh'
end Go.Proofs.YtiplipdigabidaaGreat
namespace Go.Proofs
open Go.Shelf
def Tryz.lays137_ren : Go.Shelf.Ren := ⟨fun | 137 => 178 | 217 => 147 | 266 => 161 | n => n, fun | 9 => 9 | 5 => 5 | 3 => 3 | n => n, fun | n => n⟩
theorem Tryz.lays137 : Go.Proofs.Lays.n137 Tryz.prog Tryz.lays137_ren := {
 mixed := by kernel_rfl
 f137 := Tryz.func178.trans (congrArg some (by kernel_rfl))
 f217 := Tryz.func147.trans (congrArg some (by kernel_rfl))
 f266 := Tryz.func161.trans (congrArg some (by kernel_rfl))
 t3 := Tryz.underlying3
 a3 := Tryz.isAgg3
 z3 := Tryz.sizeOf3
 v3 := Tryz.zeroValue3
 t5 := Tryz.underlying5
 a5 := Tryz.isAgg5
 z5 := Tryz.sizeOf5
 v5 := Tryz.zeroValue5
 t9 := Tryz.underlying9
 a9 := Tryz.isAgg9
 z9 := Tryz.sizeOf9
 v9 := Tryz.zeroValue9 }
open Go.RowKit in
theorem Tryz.strings_IndexByte (s : ByteArray) (c : Int) (w : World) :
   Calls Tryz.prog 178 #[.string s, .int .u8 c] w fun e w' => e = .returned (.int .i64 (Lib.indexByte s.data.toList c.toNat.toUInt8)) ∧ w' = w := Any.strings_IndexByte Tryz.lays137 s c w
def Tryz.lays144_ren : Go.Shelf.Ren := ⟨fun | 144 => 69 | 143 => 96 | 219 => 120 | 217 => 147 | 225 => 148 | 224 => 149 | 267 => 150 | 266 => 161 | 314 => 162 | n => n, fun | 9 => 9 | 4 => 4 | 3 => 3 | 5 => 5 | 46 => 91 | 146 => 175 | 51 => 120 | n => n, fun | 1 => 0 | n => n⟩
theorem Tryz.lays144 : Go.Proofs.Lays.n144 Tryz.prog Tryz.lays144_ren := {
 mixed := by kernel_rfl
 f143 := Tryz.func96.trans (congrArg some (by kernel_rfl))
 f144 := Tryz.func69.trans (congrArg some (by kernel_rfl))
 f217 := Tryz.func147.trans (congrArg some (by kernel_rfl))
 f219 := Tryz.func120.trans (congrArg some (by kernel_rfl))
 f224 := Tryz.func149.trans (congrArg some (by kernel_rfl))
 f225 := Tryz.func148.trans (congrArg some (by kernel_rfl))
 f266 := Tryz.func161.trans (congrArg some (by kernel_rfl))
 f267 := Tryz.func150.trans (congrArg some (by kernel_rfl))
 f314 := Tryz.func162.trans (congrArg some (by kernel_rfl))
 t3 := Tryz.underlying3
 a3 := Tryz.isAgg3
 z3 := Tryz.sizeOf3
 v3 := Tryz.zeroValue3
 t4 := Tryz.underlying4
 a4 := Tryz.isAgg4
 z4 := Tryz.sizeOf4
 v4 := Tryz.zeroValue4
 t5 := Tryz.underlying5
 a5 := Tryz.isAgg5
 z5 := Tryz.sizeOf5
 v5 := Tryz.zeroValue5
 t9 := Tryz.underlying9
 a9 := Tryz.isAgg9
 z9 := Tryz.sizeOf9
 v9 := Tryz.zeroValue9
 t46 := Tryz.underlying91
 a46 := Tryz.isAgg91
 z46 := Tryz.sizeOf91
 v46 := Tryz.zeroValue91
 t51 := Tryz.underlying120
 a51 := Tryz.isAgg120
 z51 := Tryz.sizeOf120
 v51 := Tryz.zeroValue120
 t146 := Tryz.underlying175
 a146 := Tryz.isAgg175
 z146 := Tryz.sizeOf175
 v146 := Tryz.zeroValue175
 g1 := by kernel_rfl }
open Go.RowKit Go.Lib in
theorem Tryz.strings_Contains (s sub : ByteArray) (m : Int) (w : World) (hs : s.size < 4294967281) (hm : w.cell? ⟨0, 0, none⟩ = some (.int .i64 m)) :
   Calls Tryz.prog 69 #[.string s, .string sub] w fun e w' => e = .returned (.bool (Lib.contains s.data.toList sub.data.toList)) ∧ w' = w := Any.strings_Contains Tryz.lays144 s sub m w hs hm
def Tryz.lays99_ren : Go.Shelf.Ren := ⟨fun | 99 => 43 | 206 => 71 | n => n, fun | 9 => 9 | 4 => 4 | 3 => 3 | n => n, fun | n => n⟩
theorem Tryz.lays99 : Go.Proofs.Lays.n99 Tryz.prog Tryz.lays99_ren := {
 mixed := by kernel_rfl
 f99 := Tryz.func43.trans (congrArg some (by kernel_rfl))
 f206 := Tryz.func71.trans (congrArg some (by kernel_rfl))
 t3 := Tryz.underlying3
 a3 := Tryz.isAgg3
 z3 := Tryz.sizeOf3
 v3 := Tryz.zeroValue3
 t4 := Tryz.underlying4
 a4 := Tryz.isAgg4
 z4 := Tryz.sizeOf4
 v4 := Tryz.zeroValue4
 t9 := Tryz.underlying9
 a9 := Tryz.isAgg9
 z9 := Tryz.sizeOf9
 v9 := Tryz.zeroValue9 }
open Go.RowKit Go.Lib in
theorem Tryz.strings_HasPrefix (s p : ByteArray) (w : World) :
   Calls Tryz.prog 43 #[.string s, .string p] w fun e w' => e = .returned (.bool (Lib.hasPrefix s.data.toList p.data.toList)) ∧ w' = w := Any.strings_HasPrefix Tryz.lays99 s p w
def Tryz.lays100_ren : Go.Shelf.Ren := ⟨fun | 100 => 44 | 207 => 72 | n => n, fun | 9 => 9 | 4 => 4 | 3 => 3 | n => n, fun | n => n⟩
theorem Tryz.lays100 : Go.Proofs.Lays.n100 Tryz.prog Tryz.lays100_ren := {
 mixed := by kernel_rfl
 f100 := Tryz.func44.trans (congrArg some (by kernel_rfl))
 f207 := Tryz.func72.trans (congrArg some (by kernel_rfl))
 t3 := Tryz.underlying3
 a3 := Tryz.isAgg3
 z3 := Tryz.sizeOf3
 v3 := Tryz.zeroValue3
 t4 := Tryz.underlying4
 a4 := Tryz.isAgg4
 z4 := Tryz.sizeOf4
 v4 := Tryz.zeroValue4
 t9 := Tryz.underlying9
 a9 := Tryz.isAgg9
 z9 := Tryz.sizeOf9
 v9 := Tryz.zeroValue9 }
open Go.RowKit Go.Lib in
theorem Tryz.strings_HasSuffix (s p : ByteArray) (w : World) (hs : s.size ≤ 9223372036854775807) :
   Calls Tryz.prog 44 #[.string s, .string p] w fun e w' => e = .returned (.bool (Lib.hasSuffix s.data.toList p.data.toList)) ∧ w' = w := Any.strings_HasSuffix Tryz.lays100 s p w hs
def Tryz.lays264_ren : Go.Shelf.Ren := ⟨fun | 264 => 130 | n => n, fun | 53 => 106 | 46 => 91 | n => n, fun | n => n⟩
theorem Tryz.lays264 : Go.Proofs.Lays.n264 Tryz.prog Tryz.lays264_ren := {
 mixed := by kernel_rfl
 f264 := Tryz.func130.trans (congrArg some (by kernel_rfl))
 t46 := Tryz.underlying91
 a46 := Tryz.isAgg91
 z46 := Tryz.sizeOf91
 v46 := Tryz.zeroValue91
 t53 := Tryz.underlying106
 a53 := Tryz.isAgg106
 z53 := Tryz.sizeOf106
 v53 := Tryz.zeroValue106 }
open Go.RowKit Go.Lib in
theorem Tryz.bits_Mul64 (x y : Nat) (hx : x < 18446744073709551616) (hy : y < 18446744073709551616) (w : World) :
   Calls Tryz.prog 130 #[.int .u64 x, .int .u64 y] w fun e w' => e = .returned (.tuple #[.int .u64 ((x * y / 18446744073709551616 : Nat) : Int), .int .u64 ((x * y % 18446744073709551616 : Nat) : Int)]) ∧ w' = w := Any.bits_Mul64 Tryz.lays264 x y hx hy w
end Go.Proofs
namespace Go.Proofs.YtiplipdigabidaaGreat
open Go.ChangeShapes Go.WideShapes Go.ChangeAt Go.RowKit
theorem eql_slice_nil {P : Program} (t e : TypeId) (a : Addr) (l c : Nat) (h : P.underlying t = some (.slice e)) (w : World) : (binOp .eql t (.slice (some a) l c) (.slice none 0 0)).run P w = .ok (.bool false) w := by
 simp only [binOp]
 simp [run_equal_slice_nil w t e (some a) l c h]
theorem eql_none_nil {P : Program} (t e : TypeId) (l c : Nat) (h : P.underlying t = some (.slice e)) (w : World) : (binOp .eql t (.slice none l c) (.slice none 0 0)).run P w = .ok (.bool true) w := by
 simp only [binOp]
 simp [run_equal_slice_nil w t e none l c h]
def sameB (a b : Tm) : Bool := decide (cmpT 3 a b = 0)
def hasB (s t : Tm) : Bool := decide (s.kind = 7) && s.l.any fun x => sameB x t
set_option maxRecDepth 100000 in
set_option maxHeartbeats 1000000 in
theorem same_any {d d' B : Nat} {a b : Tm} {vs ws : List Value} {w : World} (ha : RTm w B d a vs) (hb : RTm w B d' b ws) (hB : B ≤ w.heap.size) :
   Calls Tryz.prog 133 #[.agg vs.toArray, .agg ws.toArray] w fun e w' => e = .returned (.bool (sameB a b)) ∧ Below w.heap.size w w' := by
 have HA := Lib.hid ha
 have HB_ := Lib.hid hb
 obtain ⟨A, c, rfl, _⟩ := ha.cells
 obtain ⟨A', c', rfl, _⟩ := hb.cells
 clear ha hb
 go_enter Tryz.func133, Tryz.ntmps133
 go_wp2_with fail
 generalize hW : World.alloc _ _ = w1
 obtain ⟨hb, hz⟩ := al2 hW
 have HB1 := Lib.hid hb
 clear hW hz hb
 refine (compare_any d d' a b [_, _, _, _] [_, _, _, _] B w1 (HA.out.below HB1.out hB) (HB_.out.below HB1.out hB) (Nat.le_trans hB HB1.out.size)).mono ?_
 rintro e w2 ⟨rfl, hb⟩
 have HB2 := Lib.hid (bthen HB1.out hb)
 clear hb
 go_wp2_with fail
 go_ret
 exact ⟨rfl, HB2.out⟩
set_option maxRecDepth 100000 in
set_option maxHeartbeats 1000000 in
theorem hasLit_any {d d' B G : Nat} {t : Tm} {ws : List Value} {w : World} (hG : Blk w G ws.toArray) (ht : RTm w B d' t ws) (hB : B ≤ w.heap.size) :
   Tells Tryz.prog (TmR d) aggOf B w 132 #[.pointer (some ⟨G, 0, none⟩)] (fun x => sameB x t) := by
 intro x vs w1 hb hr
 have HR : Hid (RTm w1 B d x vs) := Lib.hid hr
 obtain ⟨A, c, rfl, _⟩ := RTm.cells (show RTm w1 B d x vs from hr)
 have HT := Lib.hid (ht.below hb hB)
 have hG1 := hG.later hb
 have hB1 := Nat.le_trans hB hb.size
 obtain ⟨A', c', rfl, _⟩ := ht.cells
 clear hr ht hb hG
 show Calls Tryz.prog 132 #[.agg #[_, _, _, _], .pointer (some ⟨G, 0, none⟩)] w1 _
 have kG := hG1.cell
 have lG := hG1.lt
 go_enter Tryz.func132, Tryz.ntmps132
 go_wp2_with fail
 generalize hW : World.alloc _ _ = w2
 obtain ⟨hb, hz⟩ := al1 hW
 have HB1 := Lib.hid hb
 clear hW hz hb kG lG
 refine (same_any (d := d) (d' := d') (a := x) (b := t) (vs := [_, _, _, _]) (ws := [_, _, _, _]) (B := B) (HR.out.below HB1.out hB1) (HT.out.below HB1.out hB1) (Nat.le_trans hB1 HB1.out.size)).mono ?_
 rintro e w3 ⟨rfl, hb⟩
 have HB2 := Lib.hid (bthen HB1.out hb)
 clear hb
 go_wp2_with fail
 go_ret
 exact ⟨rfl, HB2.out⟩
set_option maxRecDepth 100000 in
set_option maxHeartbeats 1000000 in
theorem has_any {d d' B : Nat} {s t : Tm} {vs ws : List Value} {w : World} (hs : RTm w B (d + 1) s vs) (ht : RTm w B d' t ws) (hB : B ≤ w.heap.size) :
   Calls Tryz.prog 116 #[.agg vs.toArray, .agg ws.toArray] w fun e w' => e = .returned (.bool (hasB s t)) ∧ Below w.heap.size w w' := by
 obtain ⟨A, c, rfl, q1, q2, q3, q4, q5, hl⟩ := hs
 have HT := Lib.hid ht
 obtain ⟨A', c', rfl, _⟩ := ht.cells
 have HL : Hid (RL (TmR d) w B s.l A) := Lib.hid hl
 clear hl ht
 by_cases h7 : s.kind = 7
 · go_enter Tryz.func116, Tryz.ntmps116
   go_wp2_with fail
   generalize hW : World.alloc _ _ = w1
   obtain ⟨hb, hz⟩ := al2 hW
   have bt := n22 hW
   have HB1 := Lib.hid hb
   clear hW hz hb
   refine (containsFuncTerm_any d 132 _ _ s.l A _ B w1 (ent Tryz.func132 (by kernel_rfl) rfl) (HL.out.keep HB1.out hB) (Nat.le_trans hB HB1.out.size) (by omega) (hasLit_any (d' := d') (ws := [_, _, _, _]) bt (HT.out.below HB1.out hB) (Nat.le_trans hB HB1.out.size))).mono ?_
   rintro e w2 ⟨rfl, hb⟩
   have HB2 := Lib.hid (bthen HB1.out hb)
   clear hb
   go_wp2_with fail
   go_ret
   exact ⟨ret_bool (by simp [hasB, h7]), HB2.out⟩
 · go_enter Tryz.func116, Tryz.ntmps116
   go_wp2_with fail
   go_ret
   exact ⟨ret_bool (by simp [hasB, h7]), ((Below.refl _ _).alloc (Nat.le_refl _) _).alloc (by simp) _⟩
set_option maxRecDepth 100000 in
set_option maxHeartbeats 1000000 in
theorem cloneTm_any {d B c : Nat} {xs : List Tm} {A : Option Addr} {w : World} (hl : RL (TmR d) w B xs A) (hB : B ≤ w.heap.size) (hn : xs.length * 56 ≤ 140737488351232) :
   Calls Tryz.prog 64 #[.slice A xs.length c] w fun e w' => (∃ v, e = .returned v ∧ OwnR (TmR d) 33 w' w.heap.size B v xs) ∧ Below w.heap.size w w' := by
 obtain ⟨i0, hi0, hz0, hz1, hz2⟩ := info_parts infoTm
 have hsrc := Lib.hid (hl.keep ((Below.refl w.heap.size w).alloc (Nat.le_refl _) (.cells #[] 33)) hB).src
 have hown := Lib.hid (OwnR.empty (base := w.heap.size) (TmR d) 33 (w := w.alloc (.cells #[] 33)) (b := w.heap.size) (heap_alloc_new w _) (Nat.le_refl _) B)
 have HA := Lib.hid ((Below.refl w.heap.size w).alloc (Nat.le_refl _) (.cells #[] 33))
 rcases A with _ | a
 · have h0 : xs = [] := by
     rcases xs with _ | ⟨x, xs⟩
     · rfl
     · obtain ⟨_, _, e, _⟩ := hl (by simp)
       cases e
   subst h0
   clear hl
   have he : ∀ wx : World, (binOp BinOp.eql 26 (.slice none 0 c) (.slice none 0 0)).run Tryz.prog wx = .ok (.bool true) wx := fun wx => eql_none_nil 26 33 0 c Tryz.underlying26 wx
   go_enter Tryz.func64, Tryz.ntmps64
   go_wp2_with fail
   go_ret
   exact ⟨⟨_, rfl, OwnR.nil _ _ _ _ _⟩, Below.refl _ _⟩
 · clear hl
   have he : ∀ wx : World, (binOp BinOp.eql 26 (.slice (some a) xs.length c) (.slice none 0 0)).run Tryz.prog wx = .ok (.bool false) wx := fun wx => eql_slice_nil 26 33 a xs.length c Tryz.underlying26 wx
   go_enter Tryz.func64, Tryz.ntmps64
   go_wp2_with ((
      at_builtin
      refine wpList_append_R (R := TmR d) (e := 33) rfl (.tmp 5) (.tmp 6) 26 rfl (bytes := 56) Tryz.underlying26 hi0 hz0 hz1 hz2 rfl (show 0 < 4 by omega) (single_tm d) rfl hown.out rfl hsrc.out rfl hB (by simp only [List.length_nil]; omega) (by omega) HA.out.size ?_
      intro v1 w1 hown1 hb1
      have HO := Lib.hid hown1
      have HB1 := Lib.hid (HA.out.trans hb1)
      clear hown1 hb1))
   go_ret
   exact ⟨⟨_, rfl, HO.out⟩, HB1.out⟩
theorem cmpI_anti (x y : Int) : cmpI x y = -cmpI y x := by unfold cmpI; split <;> split <;> omega
theorem cmpI_zero {x y : Int} : cmpI x y = 0 ↔ x = y := by unfold cmpI; split <;> (try split) <;> omega
theorem cmpS_anti (x y : List UInt8) : cmpS x y = -cmpS y x := by
 unfold cmpS
 by_cases h1 : x < y
 · rw [if_pos h1, if_neg (List.lt_asymm h1), if_pos h1]
 · by_cases h2 : y < x
   · rw [if_neg h1, if_pos h2, if_pos h2]; rfl
   · rw [if_neg h1, if_neg h2, if_neg h2, if_neg h1]; rfl
theorem cmpS_zero {x y : List UInt8} : cmpS x y = 0 ↔ x = y := by
 constructor
 · intro h
   unfold cmpS at h
   by_cases h1 : x < y
   · rw [if_pos h1] at h; omega
   · by_cases h2 : y < x
     · rw [if_neg h1, if_pos h2] at h; omega
     · exact List.le_antisymm (List.not_lt.1 h2) (List.not_lt.1 h1)
 · rintro rfl
   unfold cmpS
   rw [if_neg (List.lt_irrefl _), if_neg (List.lt_irrefl _)]
theorem cmpS_neg {x y : List UInt8} : cmpS x y < 0 ↔ x < y := by
 unfold cmpS
 by_cases h1 : x < y
 · simp [h1]
 · by_cases h2 : y < x
   · rw [if_neg h1, if_pos h2]; simp [h1]
   · rw [if_neg h1, if_neg h2]; simp [h1]
structure Ord3 {α : Type} (c : α → α → Int) : Prop where
 anti : ∀ x y, c x y = -c y x
 trans : ∀ x y z, c x y ≤ 0 → c y z ≤ 0 → c x z ≤ 0
section
variable {α : Type} {c : α → α → Int}
theorem Ord3.self (h : Ord3 c) (x : α) : c x x = 0 := by have := h.anti x x; omega
theorem Ord3.lt_le (h : Ord3 c) {x y z : α} (h1 : c x y < 0) (h2 : c y z ≤ 0) : c x z < 0 := by
 have t := h.trans x y z (by omega) h2
 rcases Int.lt_or_eq_of_le t with t | t
 · exact t
 · have a := h.anti x z
   have b := h.trans y z x h2 (by omega)
   have d := h.anti x y
   omega
theorem Ord3.le_lt (h : Ord3 c) {x y z : α} (h1 : c x y ≤ 0) (h2 : c y z < 0) : c x z < 0 := by
 have t := h.trans x y z h1 (by omega)
 rcases Int.lt_or_eq_of_le t with t | t
 · exact t
 · have a := h.anti x z
   have b := h.trans z x y (by omega) h1
   have d := h.anti y z
   omega
theorem Ord3.zero_l (h : Ord3 c) {x y z : α} (h1 : c x y = 0) : c x z = c y z ∨ (c x z < 0 ∧ c y z < 0) ∨ (0 < c x z ∧ 0 < c y z) := by
 have h1' := h.anti x y
 rcases Int.lt_trichotomy (c y z) 0 with k | k | k
 · exact .inr (.inl ⟨h.le_lt (by omega) k, k⟩)
 · left
   have a := h.trans x y z (by omega) (by omega)
   have b := h.trans z y x (by have := h.anti z y; omega) (by omega)
   have d := h.anti x z
   omega
 · right; right
   have a := h.anti y z
   have b := h.anti x z
   have d := h.lt_le (x := z) (y := y) (z := x) (by omega) (by omega)
   omega
end
theorem cmpI_ord : Ord3 cmpI := ⟨cmpI_anti, fun x y z h k => by unfold cmpI at *; split at h <;> split at k <;> (try split at h) <;> (try split at k) <;> split <;> (try split) <;> omega⟩
theorem cmpS_le {x y : List UInt8} : cmpS x y ≤ 0 ↔ x ≤ y := by
 have h := cmpS_anti x y
 have k := @cmpS_neg y x
 rw [show (cmpS x y ≤ 0) ↔ ¬ (cmpS y x < 0) by omega, k]
 exact List.not_lt
theorem cmpS_ord : Ord3 cmpS := ⟨cmpS_anti, fun x y z h k => by rw [cmpS_le] at *; exact List.le_trans h k⟩
theorem or3_zero {x y z : Int} : or3 x y z = 0 ↔ x = 0 ∧ y = 0 ∧ z = 0 := by
 unfold or3; split <;> (try split) <;> omega
def thenC {α : Type} (c d : α → α → Int) (x y : α) : Int := if c x y = 0 then d x y else c x y
theorem Ord3.andThen {α : Type} {c d : α → α → Int} (hc : Ord3 c) (hd : Ord3 d) : Ord3 (thenC c d) := by
 refine ⟨fun x y => ?_, fun x y z h k => ?_⟩
 · unfold thenC
   have h1 := hc.anti x y
   have h2 := hd.anti x y
   split <;> split <;> omega
 · unfold thenC at *
   by_cases h1 : c x y = 0
   · rw [if_pos h1] at h
     by_cases h2 : c y z = 0
     · rw [if_pos h2] at k
       have e : c x z = 0 := by rcases hc.zero_l (z := z) h1 with e | e | e <;> omega
       rw [if_pos e]
       exact hd.trans x y z h k
     · rw [if_neg h2] at k
       have e : c x z < 0 := by rcases hc.zero_l (z := z) h1 with e | e | e <;> omega
       rw [if_neg (by omega)]; omega
   · rw [if_neg h1] at h
     have h' : c x y < 0 := by omega
     by_cases h2 : c y z = 0
     · have e := hc.lt_le h' (by omega : c y z ≤ 0)
       rw [if_neg (by omega)]; omega
     · rw [if_neg h2] at k
       have e := hc.lt_le h' k
       rw [if_neg (by omega)]; omega
theorem Ord3.by {α β : Type} {c : β → β → Int} (hc : Ord3 c) (f : α → β) : Ord3 (fun x y => c (f x) (f y)) := ⟨fun _ _ => hc.anti _ _, fun _ _ _ => hc.trans _ _ _⟩
theorem cmp3_ord : Ord3 cmp3 := by
 have h : cmp3 = thenC (fun a b => cmpI a.kind b.kind) (thenC (fun a b => cmpI a.n b.n) (fun a b => cmpS (bs a.s) (bs b.s))) := by
   funext a b; rfl
 rw [h]
 exact (cmpI_ord.by Tm.kind).andThen ((cmpI_ord.by Tm.n).andThen (cmpS_ord.by fun t : Tm => bs t.s))
theorem cmpL_ord {f : Tm → Tm → Int} (hf : Ord3 f) : Ord3 (cmpL f) := by
 refine ⟨?_, ?_⟩
 · intro x
   induction x with
   | nil => intro y; cases y <;> simp [cmpL]
   | cons a x ih =>
     intro y
     cases y with
     | nil => simp [cmpL]
     | cons b y =>
       have h := hf.anti a b
       have := ih y
       simp only [cmpL]
       split <;> split <;> omega
 · intro x
   induction x with
   | nil => intro y z _ _; cases z <;> simp [cmpL]
   | cons a x ih =>
     intro y z h k
     cases y with
     | nil => simp [cmpL] at h
     | cons b y =>
       cases z with
       | nil => simp [cmpL] at k
       | cons d z =>
         have key := (hf.andThen (c := f) (d := fun _ _ => 0) ⟨fun _ _ => rfl, fun _ _ _ _ _ => by simp⟩)
         simp only [cmpL] at *
         by_cases h1 : f a b = 0
         · rw [if_pos h1] at h
           by_cases h2 : f b d = 0
           · rw [if_pos h2] at k
             have e : f a d = 0 := by rcases hf.zero_l (z := d) h1 with e | e | e <;> omega
             rw [if_pos e]
             exact ih y z h k
           · rw [if_neg h2] at k
             have e : f a d < 0 := by rcases hf.zero_l (z := d) h1 with e | e | e <;> omega
             rw [if_neg (by omega)]; omega
         · rw [if_neg h1] at h
           have e : f a d < 0 := by
             by_cases h2 : f b d = 0
             · exact hf.lt_le (y := b) (by omega) (by omega)
             · rw [if_neg h2] at k; exact hf.lt_le (y := b) (by omega) k
           rw [if_neg (by omega)]; omega
theorem cmpT_ord : ∀ d, Ord3 (cmpT d)
 | 0 => by
   have h : cmpT 0 = cmp3 := by funext a b; rfl
   rw [h]; exact cmp3_ord
 | d + 1 => by
   have h : cmpT (d + 1) = thenC cmp3 (fun a b => cmpL (cmpT d) a.l b.l) := by funext a b; rfl
   rw [h]
   exact cmp3_ord.andThen ((cmpL_ord (cmpT_ord d)).by Tm.l)
theorem bs_inj {a b : ByteArray} (h : bs a = bs b) : a = b := by
 have : a.data.toList = b.data.toList := h
 cases a; cases b
 simp only [ByteArray.mk.injEq]
 exact Array.toList_inj.1 this
theorem cmp3_zero {a b : Tm} : cmp3 a b = 0 ↔ a.kind = b.kind ∧ a.n = b.n ∧ a.s = b.s := by
 unfold cmp3
 rw [or3_zero, cmpI_zero, cmpI_zero, cmpS_zero]
 exact ⟨fun ⟨h, k, l⟩ => ⟨h, k, bs_inj l⟩, fun ⟨h, k, l⟩ => ⟨h, k, by rw [l]⟩⟩
def Leaf (t : Tm) : Prop := t.l = []
def Two (t : Tm) : Prop := ∀ x ∈ t.l, Leaf x
theorem leaf_eq {d : Nat} {a b : Tm} (ha : Leaf a) (hb : Leaf b) (h : cmpT d a b = 0) : a = b := by
 have h0 : cmp3 a b = 0 := by
   cases d with
   | zero => exact h
   | succ d =>
     unfold cmpT at h
     by_cases k : cmp3 a b = 0
     · exact k
     · rw [if_neg k] at h; exact absurd h k
 obtain ⟨h1, h2, h3⟩ := cmp3_zero.1 h0
 clear h0 h
 cases a; cases b
 unfold Leaf at ha hb
 simp only at *
 subst h1 h2 h3 ha hb
 rfl
theorem flatMay_leaf {t : Tm} (h : flatMay t = true) : Leaf t := by
 unfold flatMay at h
 rw [Bool.and_eq_true, decide_eq_true_eq] at h
 exact List.eq_nil_of_length_eq_zero h.1
end Go.Proofs.YtiplipdigabidaaGreat
