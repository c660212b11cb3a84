/- Sorting and compacting a slice of strings of the call's own; looking for a string in a sorted slice. -/
import Derived.Test.YtkdonhhbpacgmaaGreatFnRule
import Derived.Shelf.Small.Bits
import Derived.Shelf.Small.Strs
import Derived.Shelf.Small.Wraps
import Derived.Shelf.Strconv.Itoa0
import Derived.Shelf.Strings.Search1
import Derived.Shelf.Strings.Search2
import Derived.Shelf.Strings.Search3
import Derived.Shelf.LaysM
import Derived.Shelf.Strings.Shaped
import Derived.Shelf.Sort.Plain
import Derived.Shelf.Strings.Prefix
import Derived.Shelf.Bits.Mul64
import Derived.Ground.Names2Prog
import Derived.Shelf.Slices.ReverseS
import Derived.Shelf.Slices.CompactS
import Derived.Shelf.Slices.SearchI
import Derived.Shelf.Slices.Cells
import Derived.Shelf.Slices.In.SortNone
import Derived.Test.YtkdonhhbpacgmaaGreatProg
import Derived.Lib.OwnBridge
set_option linter.unusedVariables false
set_option linter.unusedSimpArgs false
namespace Go.Proofs.YtkdonhhbpacgmaaGreat
open Go.ChangeShapes Go.WideShapes Go.ChangeAt Go.RowKit
def mayPredB (p : Pr) : Bool := nameB (bs p.name) && decide (bs p.name ≠ [116, 114, 117, 101]) && decide (bs p.name ≠ [102, 97, 108, 115, 101]) && (decide (p.terms.length ≤ 8) && p.terms.all mayB)
theorem int_le_8 (k : Nat) : ((k : Int) ≤ 8) = (k ≤ 8) := by rw [eq_iff_iff]; omega
theorem int_le_4 (k : Nat) : ((k : Int) ≤ 4) = (k ≤ 4) := by rw [eq_iff_iff]; omega
theorem tells_may {d B : Nat} {w : World} (hB : B ≤ w.heap.size) : Tells Tryz.prog (TmR d) aggOf B w 48 #[] mayB := fun x vs w1 hb hr => by
 obtain ⟨A, c, rfl, _⟩ := RTm.cells hr
 exact may_any (d := d) (B := B) hr (by have := hb.size; omega)
theorem tells_fixed {d B : Nat} {w : World} (hB : B ≤ w.heap.size) : Tells Tryz.prog (TmR d) aggOf B w 49 #[] fixedB := fun x vs w1 hb hr => by
 obtain ⟨A, c, rfl, _⟩ := RTm.cells hr
 exact fixed_any (d := d) (B := B) hr (by have := hb.size; omega)
set_option maxRecDepth 100000 in
set_option maxHeartbeats 1000000 in
theorem mayPred_any {d : Nat} {p : Pr} {vs : List Value} {B : Nat} {w : World} (hp : (PrR d).rd w B p vs) (hB : B ≤ w.heap.size) :
   Calls Tryz.prog 21 #[.agg vs.toArray] w fun e w' => e = .returned (.bool (mayPredB p)) ∧ Below w.heap.size w w' := by
 obtain ⟨_, rfl, hs, A, c, rfl, hc1, hc2, hl⟩ := hp
 have HB := Lib.hid (fun o : Obj => (Below.refl w.heap.size w).alloc (Nat.le_refl _) o)
 have HL := Lib.hid hl
 clear hl
 obtain ⟨name, terms⟩ := p
 dsimp only at *
 simp only [TmR] at hc2
 go_enter Tryz.func21, Tryz.ntmps21
 go_wp2_with (first
   | (go_at_call 46; refine (name_any _ _ (by unfold maxLen; omega)).mono ?_; rintro e w' ⟨rfl, rfl⟩)
   | (go_at_call 47; refine (fewTerm_any d 48 mayB 8 terms A c B _ (ent Tryz.func48 (by kernel_rfl) rfl) (HL.out.keep (HB.out _) hB) (Nat.le_trans hB (HB.out _).size) (by omega) (tells_may (Nat.le_trans hB (HB.out _).size))).mono ?_; rintro e w1 ⟨rfl, hb1⟩))
 all_goals go_ret
 all_goals first
   | refine ⟨ret_bool ?_, HB.out _⟩
   | refine ⟨ret_bool ?_, (HB.out _).trans (hb1.mono (HB.out _).size)⟩
 all_goals
   try simp only [ByteArray.toList_eq] at *
   rw [Bool.eq_iff_iff]
   simp [mayPredB, int_le_8, *]
def mayFactB (p : Pr) : Bool := mayPredB p && (decide (p.terms.length ≤ 8) && p.terms.all fixedB)
set_option maxRecDepth 100000 in
set_option maxHeartbeats 1000000 in
theorem mayFact_any {d : Nat} {p : Pr} {vs : List Value} {B : Nat} {w : World} (hp : (PrR d).rd w B p vs) (hB : B ≤ w.heap.size) :
   Calls Tryz.prog 22 #[.agg vs.toArray] w fun e w' => e = .returned (.bool (mayFactB p)) ∧ Below w.heap.size w w' := by
 have hp0 := hp
 obtain ⟨_, rfl, hs, A, c, rfl, hc1, hc2, hl⟩ := hp
 have HB := Lib.hid (fun o : Obj => (Below.refl w.heap.size w).alloc (Nat.le_refl _) o)
 have HL := Lib.hid hl
 have HP := Lib.hid hp0
 clear hl hp0
 simp only [TmR] at hc2
 by_cases hm : mayPredB p = true
 all_goals
   try rw [Bool.not_eq_true] at hm
   go_enter Tryz.func22, Tryz.ntmps22
   go_wp2_with fail
   refine (mayPred_any (d := d) (B := B) (vs := [_, _]) ((PrR d).keep (HB.out _) hB HP.out) (Nat.le_trans hB (HB.out _).size)).mono ?_
   rintro e w1 ⟨rfl, hb1⟩
   have hc1' : w1.cell? ⟨w.heap.size, 1, none⟩ = some (.slice A p.terms.length c) := (hb1.cell (p := ⟨w.heap.size, 1, none⟩) (by simp)).trans (by go_simp)
   have HW := Lib.hid ((HB.out _).trans (hb1.mono (HB.out _).size))
   clear hb1
   go_wp2_with fail
 · refine (fewTerm_any d 49 fixedB 8 p.terms A c B _ (ent Tryz.func49 (by kernel_rfl) rfl) (HL.out.keep HW.out hB) (Nat.le_trans hB HW.out.size) (by omega) (tells_fixed (Nat.le_trans hB HW.out.size))).mono ?_
   rintro e w2 ⟨rfl, hb2⟩
   have hfin := Lib.hid (HW.out.trans (hb2.mono HW.out.size))
   clear hb2
   go_wp2_with fail
   go_ret
   exact ⟨ret_bool (by simp [mayFactB, hm, int_le_8]), hfin.out⟩
 · go_ret
   exact ⟨ret_bool (by simp [mayFactB, hm]), HW.out⟩
def mayScopeB (s : Sc) : Bool := ((decide (s.kind = 1) || decide (s.kind = 2)) && decide (s.key = ByteArray.empty)) || (decide (s.kind = 3) && decide (s.key.size = 32))
set_option maxRecDepth 100000 in
set_option maxHeartbeats 1000000 in
theorem mayScope_any {s : Sc} {vs : List Value} {B : Nat} {w : World} (hp : ScR.rd w B s vs) :
   Calls Tryz.prog 104 #[.agg vs.toArray] w fun e w' => e = .returned (.bool (mayScopeB s)) ∧ Below w.heap.size w w' := by
 obtain ⟨rfl, hk, hs⟩ := hp
 have HB := Lib.hid (fun o : Obj => (Below.refl w.heap.size w).alloc (Nat.le_refl _) o)
 obtain ⟨kind, key⟩ := s
 dsimp only at *
 have hcases : kind = 1 ∨ kind = 2 ∨ kind = 3 ∨ ((kind == 1) = false ∧ (kind == 2) = false ∧ (kind == 3) = false) := by simp only [beq_eq_false_iff_ne]; omega
 rcases hcases with rfl | rfl | rfl | ⟨k1, k2, k3⟩
 all_goals
   go_enter Tryz.func104, Tryz.ntmps104
   go_wp2_with fail
   all_goals go_ret
   all_goals refine ⟨ret_bool ?_, HB.out _⟩
   all_goals
     try simp only [toList_empty, isEmpty_empty, beq_eq_false_iff_ne] at *
     rw [Bool.eq_iff_iff]
     simp [mayScopeB, isEmpty_empty, *]
     try omega
end Go.Proofs.YtkdonhhbpacgmaaGreat
namespace Go.Proofs
open Go.Shelf
def Tryz.lays125_ren : Go.Shelf.Ren := ⟨fun | 125 => 75 | 128 => 124 | 129 => 125 | n => n, fun | 46 => 113 | 3 => 3 | 51 => 58 | 53 => 154 | 4 => 4 | 5 => 5 | 9 => 9 | n => n, fun | n => n⟩
theorem Tryz.lays125 : Go.Proofs.Lays.n125 Tryz.prog Tryz.lays125_ren := {
 mixed := by kernel_rfl
 f125 := Tryz.func75.trans (congrArg some (by kernel_rfl))
 f128 := Tryz.func124.trans (congrArg some (by kernel_rfl))
 f129 := Tryz.func125.trans (congrArg some (by kernel_rfl))
 t3 := Tryz.underlying3
 a3 := Tryz.isAgg3
 z3 := Tryz.sizeOf3
 v3 := Tryz.zeroValue3
 t4 := Tryz.underlying4
 a4 := Tryz.isAgg4
 z4 := Tryz.sizeOf4
 v4 := Tryz.zeroValue4
 t5 := Tryz.underlying5
 a5 := Tryz.isAgg5
 z5 := Tryz.sizeOf5
 v5 := Tryz.zeroValue5
 t9 := Tryz.underlying9
 a9 := Tryz.isAgg9
 z9 := Tryz.sizeOf9
 v9 := Tryz.zeroValue9
 t46 := Tryz.underlying113
 a46 := Tryz.isAgg113
 z46 := Tryz.sizeOf113
 v46 := Tryz.zeroValue113
 t51 := Tryz.underlying58
 a51 := Tryz.isAgg58
 z51 := Tryz.sizeOf58
 v51 := Tryz.zeroValue58
 t53 := Tryz.underlying154
 a53 := Tryz.isAgg154
 z53 := Tryz.sizeOf154
 v53 := Tryz.zeroValue154 }
theorem Tryz.bits_Len (x : Int) (w : World) (h0 : 0 ≤ x) (h1 : x ≤ 18446744073709551615) :
   Calls Tryz.prog 75 #[.int .u64 x] w fun e w' => e = .returned (.int .i64 (Lib.bitLen x.toNat)) ∧ w' = w := Any.bits_Len Tryz.lays125 x w h0 h1
def Tryz.lays190_ren : Go.Shelf.Ren := ⟨fun | 190 => 110 | 125 => 75 | 258 => 144 | 128 => 124 | 129 => 125 | 302 => 161 | 303 => 162 | 304 => 163 | 305 => 164 | 306 => 165 | 307 => 166 | 308 => 86 | 309 => 167 | 310 => 168 | 333 => 177 | 329 => 147 | 330 => 148 | 334 => 178 | 335 => 179 | 336 => 129 | 344 => 183 | n => n, fun | 31 => 25 | 9 => 9 | 3 => 3 | 46 => 113 | 0 => 0 | 51 => 58 | 53 => 154 | 4 => 4 | 183 => 147 | 182 => 146 | 131 => 92 | 5 => 5 | 218 => 167 | 222 => 171 | 228 => 191 | 229 => 192 | n => n, fun | n => n⟩
theorem Tryz.lays190 : Go.Proofs.Lays.n190 Tryz.prog Tryz.lays190_ren := {
 mixed := by kernel_rfl
 f125 := Tryz.func75.trans (congrArg some (by kernel_rfl))
 f128 := Tryz.func124.trans (congrArg some (by kernel_rfl))
 f129 := Tryz.func125.trans (congrArg some (by kernel_rfl))
 f190 := Tryz.func110.trans (congrArg some (by kernel_rfl))
 f258 := Tryz.func144.trans (congrArg some (by kernel_rfl))
 f302 := Tryz.func161.trans (congrArg some (by kernel_rfl))
 f303 := Tryz.func162.trans (congrArg some (by kernel_rfl))
 f304 := Tryz.func163.trans (congrArg some (by kernel_rfl))
 f305 := Tryz.func164.trans (congrArg some (by kernel_rfl))
 f306 := Tryz.func165.trans (congrArg some (by kernel_rfl))
 f307 := Tryz.func166.trans (congrArg some (by kernel_rfl))
 f308 := Tryz.func86.trans (congrArg some (by kernel_rfl))
 f309 := Tryz.func167.trans (congrArg some (by kernel_rfl))
 f310 := Tryz.func168.trans (congrArg some (by kernel_rfl))
 f329 := Tryz.func147.trans (congrArg some (by kernel_rfl))
 f330 := Tryz.func148.trans (congrArg some (by kernel_rfl))
 f333 := Tryz.func177.trans (congrArg some (by kernel_rfl))
 f334 := Tryz.func178.trans (congrArg some (by kernel_rfl))
 f335 := Tryz.func179.trans (congrArg some (by kernel_rfl))
 f336 := Tryz.func129.trans (congrArg some (by kernel_rfl))
 f344 := Tryz.func183.trans (congrArg some (by kernel_rfl))
 t0 := Tryz.underlying0
 a0 := Tryz.isAgg0
 z0 := Tryz.sizeOf0
 v0 := Tryz.zeroValue0
 t3 := Tryz.underlying3
 a3 := Tryz.isAgg3
 z3 := Tryz.sizeOf3
 v3 := Tryz.zeroValue3
 t4 := Tryz.underlying4
 a4 := Tryz.isAgg4
 z4 := Tryz.sizeOf4
 v4 := Tryz.zeroValue4
 t5 := Tryz.underlying5
 a5 := Tryz.isAgg5
 z5 := Tryz.sizeOf5
 v5 := Tryz.zeroValue5
 t9 := Tryz.underlying9
 a9 := Tryz.isAgg9
 z9 := Tryz.sizeOf9
 v9 := Tryz.zeroValue9
 t31 := Tryz.underlying25
 a31 := Tryz.isAgg25
 z31 := Tryz.sizeOf25
 v31 := Tryz.zeroValue25
 t46 := Tryz.underlying113
 a46 := Tryz.isAgg113
 z46 := Tryz.sizeOf113
 v46 := Tryz.zeroValue113
 t51 := Tryz.underlying58
 a51 := Tryz.isAgg58
 z51 := Tryz.sizeOf58
 v51 := Tryz.zeroValue58
 t53 := Tryz.underlying154
 a53 := Tryz.isAgg154
 z53 := Tryz.sizeOf154
 v53 := Tryz.zeroValue154
 t131 := Tryz.underlying92
 a131 := Tryz.isAgg92
 z131 := Tryz.sizeOf92
 v131 := Tryz.zeroValue92
 t182 := Tryz.underlying146
 a182 := Tryz.isAgg146
 z182 := Tryz.sizeOf146
 v182 := Tryz.zeroValue146
 t183 := Tryz.underlying147
 a183 := Tryz.isAgg147
 z183 := Tryz.sizeOf147
 v183 := Tryz.zeroValue147
 t218 := Tryz.underlying167
 a218 := Tryz.isAgg167
 z218 := Tryz.sizeOf167
 v218 := Tryz.zeroValue167
 t222 := Tryz.underlying171
 a222 := Tryz.isAgg171
 z222 := Tryz.sizeOf171
 v222 := Tryz.zeroValue171
 t228 := Tryz.underlying191
 a228 := Tryz.isAgg191
 z228 := Tryz.sizeOf191
 v228 := Tryz.zeroValue191
 t229 := Tryz.underlying192
 a229 := Tryz.isAgg192
 z229 := Tryz.sizeOf192
 v229 := Tryz.zeroValue192 }
open Go.Sort Go.RowKit in
theorem Tryz.slices_Sort_string (blk off cap : Nat) (ss : List (List UInt8)) (w : World) (hH : Holds encStr w blk off ss.toArray) (hblk : blk < w.heap.size) (hsz : ss.length < 4611686018427387904) :
   Calls Tryz.prog 110 #[.slice (some ⟨blk, off, none⟩) ss.length cap] w fun e w' =>
     e = .returned (.tuple #[]) ∧ ∃ n os, w' = grow (putRow encStr (Sort.ahead w n) blk off (ss.mergeSort fun x y => decide (x ≤ y)).toArray) os := Any.slices_Sort_string Tryz.lays190 blk off cap ss w hH hblk hsz
def Tryz.lays194_ren : Go.Shelf.Ren := ⟨fun | 194 => 111 | n => n, fun | 31 => 25 | 9 => 9 | 3 => 3 | 4 => 4 | 0 => 0 | n => n, fun | n => n⟩
theorem Tryz.lays194 : Go.Proofs.Lays.n194 Tryz.prog Tryz.lays194_ren := {
 mixed := by kernel_rfl
 f194 := Tryz.func111.trans (congrArg some (by kernel_rfl))
 t0 := Tryz.underlying0
 a0 := Tryz.isAgg0
 z0 := Tryz.sizeOf0
 v0 := Tryz.zeroValue0
 t3 := Tryz.underlying3
 a3 := Tryz.isAgg3
 z3 := Tryz.sizeOf3
 v3 := Tryz.zeroValue3
 t4 := Tryz.underlying4
 a4 := Tryz.isAgg4
 z4 := Tryz.sizeOf4
 v4 := Tryz.zeroValue4
 t9 := Tryz.underlying9
 a9 := Tryz.isAgg9
 z9 := Tryz.sizeOf9
 v9 := Tryz.zeroValue9
 t31 := Tryz.underlying25
 a31 := Tryz.isAgg25
 z31 := Tryz.sizeOf25
 v31 := Tryz.zeroValue25 }
open Go.RowKit Go.Lib Go.Sort in
theorem Tryz.slices_Compact_string (blk off cap : Nat) (zs : List (List UInt8)) (w : World) (hH : Holds encStr w blk off zs.toArray) (hsz : zs.length ≤ 9223372036854775807) (hcap : zs.length ≤ cap) :
   Calls Tryz.prog 111 #[.slice (some ⟨blk, off, none⟩) zs.length cap] w fun e w' => e = .returned (.slice (some ⟨blk, off, none⟩) (Lib.compact zs).length cap) ∧ ∃ q, w' = putRow encStr (Sort.ahead w q) blk off (Lib.compact zs ++ List.replicate (zs.length - (Lib.compact zs).length) []).toArray := Any.slices_Compact_string Tryz.lays194 blk off cap zs w hH hsz hcap
open Go.RowKit Go.Lib Go.Sort in
theorem Tryz.slices_Compact_string_empty (a : Option Addr) (cap : Nat) (w : World) :
   Calls Tryz.prog 111 #[.slice a 0 cap] w fun e w' => e = .returned (.slice a 0 cap) ∧ w' = w := Any.slices_Compact_string_empty Tryz.lays194 a cap w
open Go.RowKit Go.Sort in
theorem Tryz.slices_Sort_string_none (p : Option Addr) (cap : Nat) (w : World) :
   Calls Tryz.prog 110 #[.slice p 0 cap] w fun e w' => e = .returned (.tuple #[]) ∧ w' = w := Any.slices_Sort_string_none Tryz.lays190 p cap w
end Go.Proofs
namespace Go.Proofs.YtkdonhhbpacgmaaGreat
open Go.ChangeShapes Go.WideShapes Go.ChangeAt Go.RowKit
theorem encStr_bs (s : ByteArray) : encStr (bs s) = .string s := by simp [encStr]
def mkS (l : List UInt8) : ByteArray := ⟨l.toArray⟩
theorem bs_mkS (l : List UInt8) : bs (mkS l) = l := by simp [mkS, bs]
theorem mkS_bs (s : ByteArray) : mkS (bs s) = s := by cases s; simp [mkS, bs]
def OwnS (w : World) (base : Nat) (v : Value) (L : List (List UInt8)) : Prop := w.ownsRow base 9 1 v L.length (L.map encStr)
theorem ownsRow_grow {w : World} {base : Nat} {e : TypeId} {size n : Nat} {v : Value} {xs : List Value} (h : w.ownsRow base e size v n xs) (os : Array Obj) : (Sort.grow w os).ownsRow base e size v n xs := by
 refine ⟨h.1, ?_⟩
 rcases h.2 with h2 | ⟨g, cap, cur, hv, hg, hh, r⟩
 · exact .inl h2
 · refine .inr ⟨g, cap, cur, hv, hg, ?_, r⟩
   have hlt : g < w.heap.size := by
     rcases Nat.lt_or_ge g w.heap.size with h' | h'
     · exact h'
     · rw [Array.getElem?_eq_none h'] at hh; cases hh
   show (w.heap ++ os)[g]? = _
   rw [Array.getElem?_append_left hlt]
   exact hh
theorem below_grow {B : Nat} {w w' : World} (h : Below B w w') (hB : B ≤ w'.heap.size) (os : Array Obj) : Below B w (Sort.grow w' os) :=
 ⟨h.os, h.tape, h.output, by have := h.size; simp [Sort.grow]; omega, fun k hk => by
   rw [← h.block k hk]
   show (w'.heap ++ os)[k]? = _
   rw [Array.getElem?_append_left (by omega)]⟩
def sortL (L : List (List UInt8)) : List (List UInt8) := L.mergeSort fun x y => decide (x ≤ y)
theorem sortL_length (L : List (List UInt8)) : (sortL L).length = L.length := List.length_mergeSort _
theorem sortS_any (w : World) (base : Nat) (v : Value) (L : List (List UInt8)) (h : OwnS w base v L) (hb : base ≤ w.heap.size) (hn : L.length ≤ 1000000000) :
   Calls Tryz.prog 110 #[v] w fun e w' => e = .returned (.tuple #[]) ∧ OwnS w' base v (sortL L) ∧ Below base w w' := by
 by_cases hv : v = .slice none 0 0
 · subst hv
   have hL : L = [] := by
     rcases h.2 with ⟨_, h2⟩ | ⟨g, cap, cur, hv, _⟩
     · exact List.eq_nil_of_length_eq_zero h2
     · cases hv
   subst hL
   refine (Tryz.slices_Sort_string_none none 0 w).mono fun e w' ⟨he, hw⟩ => ?_
   subst hw
   exact ⟨he, by simpa [sortL, OwnS] using h, Below.refl _ _⟩
 · obtain ⟨g, cap, rfl, hbg, hg, hnc, hm, hl, hH⟩ := Lib.holds_of_ownsRow h hv
   refine (Tryz.slices_Sort_string g 0 cap L w hH hg (by omega)).mono fun e w' ⟨he, n, os, hw⟩ => ?_
   subst hw
   refine ⟨he, ?_, below_grow (Lib.below_putRow (Below.refl _ _) hbg) (by simp [Sort.ahead]; omega) os⟩
   have h1 := Lib.ownsRow_putRow (q := n) (k := L.length) (ys := sortL L) h (sortL_length L) (Nat.le_refl _)
   have h2 := ownsRow_grow h1 os
   unfold OwnS
   rw [sortL_length]
   rw [List.take_of_length_le (by rw [sortL_length]; exact Nat.le_refl _)] at h2
   exact h2
theorem compactS_any (w : World) (base : Nat) (v : Value) (L : List (List UInt8)) (h : OwnS w base v L) (hn : L.length ≤ 1000000000) :
   Calls Tryz.prog 111 #[v] w fun e w' => ∃ v', e = .returned v' ∧ OwnS w' base v' (Lib.compact L) ∧ Below base w w' := by
 by_cases hv : v = .slice none 0 0
 · subst hv
   have hL : L = [] := by
     rcases h.2 with ⟨_, h2⟩ | ⟨g, cap, cur, hv, _⟩
     · exact List.eq_nil_of_length_eq_zero h2
     · cases hv
   subst hL
   refine (Tryz.slices_Compact_string_empty none 0 w).mono fun e w' ⟨he, hw⟩ => ?_
   subst hw
   exact ⟨_, he, by simpa [Lib.compact, Lib.compactUpTo, OwnS] using h, Below.refl _ _⟩
 · obtain ⟨g, cap, rfl, hbg, hg, hnc, hm, hl, hH⟩ := Lib.holds_of_ownsRow h hv
   refine (Tryz.slices_Compact_string g 0 cap L w hH (by omega) hnc).mono fun e w' ⟨he, q, hw⟩ => ?_
   subst hw
   have hc := Lib.compact_length_le L
   refine ⟨_, he, ?_, Lib.below_putRow (Below.refl _ _) hbg⟩
   have h1 := Lib.ownsRow_putRow (q := q) (k := (Lib.compact L).length) (ys := Lib.compact L ++ List.replicate (L.length - (Lib.compact L).length) []) h (by simp; omega) hc
   rw [List.take_left'] at h1
   · exact h1
   · rfl
end Go.Proofs.YtkdonhhbpacgmaaGreat
