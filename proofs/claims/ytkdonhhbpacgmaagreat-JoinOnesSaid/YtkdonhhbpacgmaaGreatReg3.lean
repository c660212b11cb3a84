/- regex.either. -/
import Derived.Test.YtkdonhhbpacgmaaGreatOwn
import Derived.Test.YtkdonhhbpacgmaaGreatJoLaw
import Derived.Test.YtkdonhhbpacgmaaGreatHas
import Derived.Test.YtkdonhhbpacgmaaGreatSort
import Derived.BigQuiet
import Derived.Test.YtkdonhhbpacgmaaGreatSet2
import Derived.Laws.MakeOwn
import Derived.Deep.Cut
import Derived.Deep.CutRange
import Derived.Deep.LoopGhost
set_option linter.unusedVariables false
set_option linter.unusedSimpArgs false
namespace Go.Proofs.YtkdonhhbpacgmaaGreat
open Go.ChangeShapes Go.WideShapes Go.ChangeAt Go.RowKit
section
variable {α : Type} {R : Reader α} {P : Program} {w : World} {e : TypeId} {base : Nat} {v : Value} {xs ys : List α}
def FreshV (w : World) (v v' : Value) : Prop := v'.ownBlock = v.ownBlock ∨ ∃ k, v'.ownBlock = some k ∧ w.heap.size ≤ k
theorem append_fresh (t ty : TypeId) {i : TypeInfo} {z : Value} {bytes : Nat} (ht : P.underlying t = some (.slice e)) (hi : P.info? e = some i) (hz : i.zero = some z)
   (hsize : i.size = R.k) (hby : i.bytes = bytes) (hzs : z.cells.size = R.k) (hsz : 0 < R.k) (hs1 : Single R)
   (hown : OwnR R e w base 0 v xs) {ad : Addr} {m c : Nat} (hsrc : SrcR R w 0 (some ad) ys) (hm : m = ys.length)
   (hbytes : (xs.length + ys.length) * bytes ≤ 140737488355328) (hb1 : 1 ≤ bytes) (hbase : base ≤ w.heap.size) :
   ∃ v' w', (Builtin.append_ #[t, t] ty #[v, .slice (some ad) m c]).run P w = .ok v' w' ∧ OwnR R e w' base 0 v' (xs ++ ys) ∧ w.grownBy w' v.ownBlock ∧ FreshV w v v' := by
 subst hm
 obtain ⟨cells, how, hf⟩ := hown
 obtain ⟨news, hf2, _, hc⟩ := hsrc
 have hle : xs.length + ys.length ≤ (xs.length + ys.length) * bytes := Nat.le_mul_of_pos_right _ hb1
 have hnews := hc ad rfl
 have h63 : xs.length + ys.length ≤ maxLen := by unfold maxLen; omega
 have key := fun (b : Nat) (hb : b ≤ w.heap.size) (ho : w.ownsRow b e R.k v xs.length cells) => run_append_own (P := P) w b t ty e i z R.k bytes ht hi hz hsize hby hzs hsz v xs.length cells ho ad ys.length c news hf2.1 hnews (hf2.single hs1) h63 hbytes hb
 obtain ⟨v', w', hr, ho', hg, _⟩ := key base hbase how
 have hbel : Below 0 w w' := (Below.refl 0 w).grown hg (Nat.zero_le _) (fun k hk => Nat.zero_le _)
 refine ⟨v', w', hr, ⟨cells ++ news, by rw [List.length_append]; exact ho', (hf.append hf2).keep hbel (Nat.le_refl _)⟩, hg, ?_⟩
 rcases how.2 with ⟨rfl, h0⟩ | ⟨g, cap, cur, rfl, hbg, hgb, hnc, hcm, hcs, htake⟩
 · have hcn : cells = [] := List.eq_nil_of_length_eq_zero (by rw [how.1, h0, Nat.zero_mul])
   subst hcn
   obtain ⟨v2, w2, hr2, ho2, _, _⟩ := key w.heap.size (Nat.le_refl _) (by rw [h0]; exact World.ownsRow_nil _ _ _ _)
   rw [hr] at hr2
   simp only [Result.ok.injEq] at hr2
   obtain ⟨rfl, rfl⟩ := hr2
   rcases ho2.2 with ⟨h1, _⟩ | ⟨g, cap, cur, rfl, hbg, _⟩
   · rw [h1]; exact .inl rfl
   · exact .inr ⟨g, rfl, hbg⟩
 · by_cases hroom : xs.length + ys.length ≤ cap
   · have hfit : xs.length * i.size + news.length ≤ cur.size := by rw [hf2.1, hcs, hsize, ← Nat.add_mul]; exact Nat.mul_le_mul_right _ hroom
     have hr2 := run_append_room (P := P) w t ty e i ht hi g xs.length cap cur hgb ad ys.length c news (by rw [hf2.1, hsize]) hnews (hf2.single hs1) hroom hfit
     rw [hr] at hr2
     simp only [Result.ok.injEq] at hr2
     obtain ⟨rfl, rfl⟩ := hr2
     exact .inl rfl
   · have holds : ∀ j u, cells[j]? = some u → w.cell? ((⟨g, 0, none⟩ : Addr).add j) = some u := how.cells (g := g) rfl
     subst hby
     have hr2 := run_append_grow (P := P) w t ty e i z ht hi hz ⟨g, 0, none⟩ xs.length cap cells (by rw [how.1, hsize]) holds ad ys.length c news (by rw [hf2.1, hsize]) hnews (by omega) (by omega) (growslice_fits (by omega) hbytes)
     rw [hr] at hr2
     simp only [Result.ok.injEq] at hr2
     obtain ⟨rfl, rfl⟩ := hr2
     exact .inr ⟨w.heap.size, rfl, Nat.le_refl _⟩
theorem wp_append_F {o : Oper} {a : Act} {K : Act → World → Prop} {Q : Exit → Act → World → Prop} (s x : Operand) (t : TypeId)
   (ho : o.op = .call { callee := .builtin .append, args := #[s, x], argTypes := #[t, t] })
   {i : TypeInfo} {z : Value} {bytes : Nat} (ht : P.underlying t = some (.slice e)) (hi : P.info? e = some i) (hz : i.zero = some z)
   (hsize : i.size = R.k) (hby : i.bytes = bytes) (hzs : z.cells.size = R.k) (hsz : 0 < R.k) (hs1 : Single R)
   (hs : a.eval s = v) (hown : OwnR R e w base 0 v xs) {ad : Addr} {m c : Nat} (hx : a.eval x = .slice (some ad) m c) (hsrc : SrcR R w 0 (some ad) ys) (hm : m = ys.length)
   (hbytes : (xs.length + ys.length) * bytes ≤ 140737488355328) (hb1 : 1 ≤ bytes) (hbase : base ≤ w.heap.size)
   (h : ∀ v' w', OwnR R e w' base 0 v' (xs ++ ys) → w.grownBy w' v.ownBlock → FreshV w v v' → K (a.put o.dst v') w') : o.wp P a w K Q := by
 obtain ⟨v', w', hr, h2, h3, h4⟩ := append_fresh (P := P) t o.type (c := c) ht hi hz hsize hby hzs hsz hs1 hown hsrc hm hbytes hb1 hbase
 unfold Oper.wp execOp
 simp only [ho, resolve, invoke, builtin, Sem.run_bind, Sem.run_pure, Result.andThen_ok, List.map_toArray, List.map_cons, List.map_nil, hs, hx, hr]
 exact h v' w' h2 h3 h4
theorem step_append_F {ops : Array Oper} {o : Oper} {a : Act} {K : Act → World → Prop} {Q : Exit → Act → World → Prop} {E : Prop} (hgd : o.guard = none) (s x : Operand) (t : TypeId)
   (ho : o.op = .call { callee := .builtin .append, args := #[s, x], argTypes := #[t, t] })
   {i : TypeInfo} {z : Value} {bytes : Nat} (ht : P.underlying t = some (.slice e)) (hi : P.info? e = some i) (hz : i.zero = some z)
   (hsize : i.size = R.k) (hby : i.bytes = bytes) (hzs : z.cells.size = R.k) (hsz : 0 < R.k) (hs1 : Single R)
   (hs : a.eval s = v) (hown : OwnR R e w base 0 v xs) {ad : Addr} {m c : Nat} (hx : a.eval x = .slice (some ad) m c) (hsrc : SrcR R w 0 (some ad) ys) (hm : m = ys.length)
   (hbytes : (xs.length + ys.length) * bytes ≤ 140737488355328) (hb1 : 1 ≤ bytes) (hbase : base ≤ w.heap.size)
   (h : ∀ v' w', OwnR R e w' base 0 v' (xs ++ ys) → w.grownBy w' v.ownBlock → FreshV w v v' → K (a.put o.dst v') w') :
   if Region.wanted o (yielded ops a.tmps) = true then Oper.wp P o a w K Q else E := by
 have hw : Region.wanted o (yielded ops a.tmps) = true := by simp [Region.wanted, hgd]
 rw [if_pos hw]
 exact wp_append_F s x t ho ht hi hz hsize hby hzs hsz hs1 hs hown hx hsrc hm hbytes hb1 hbase h
end
open Go.ChangeShapes Go.WideShapes Go.ChangeAt Go.RowKit
theorem infoStrJ : (Tryz.prog.info? 9).map (fun i => (i.zero, i.size, i.bytes)) = some (some (.string ⟨#[]⟩), 1, 16) := by kernel_rfl
theorem single_strJ : Single StrR := fun h u hu => by
 obtain ⟨rfl, _⟩ := h
 simp only [List.mem_cons, List.not_mem_nil, or_false] at hu
 subst hu; rfl
set_option maxRecDepth 100000 in
set_option maxHeartbeats 1000000 in
theorem cloneStr_any {B c : Nat} {xs : List ByteArray} {A : Option Addr} {w : World} (hl : RL StrR w B xs A) (hB : B ≤ w.heap.size) (hn : xs.length * 16 ≤ 140737488351232) :
   Calls Tryz.prog 85 #[.slice A xs.length c] w fun e w' => (∃ v, e = .returned v ∧ OwnR StrR 9 w' w.heap.size B v xs) ∧ Below w.heap.size w w' := by
 obtain ⟨i0, hi0, hz0, hz1, hz2⟩ := info_parts infoStrJ
 have hsrc := Lib.hid (hl.keep ((Below.refl w.heap.size w).alloc (Nat.le_refl _) (.cells #[] 9)) hB).src
 have hown := Lib.hid (OwnR.empty (base := w.heap.size) StrR 9 (w := w.alloc (.cells #[] 9)) (b := w.heap.size) (heap_alloc_new w _) (Nat.le_refl _) B)
 have HA := Lib.hid ((Below.refl w.heap.size w).alloc (Nat.le_refl _) (.cells #[] 9))
 rcases A with _ | a
 · have h0 : xs = [] := by
     rcases xs with _ | ⟨x, xs⟩
     · rfl
     · obtain ⟨_, _, e, _⟩ := hl (by simp)
       cases e
   subst h0
   clear hl
   have he : ∀ wx : World, (binOp BinOp.eql 25 (.slice none 0 c) (.slice none 0 0)).run Tryz.prog wx = .ok (.bool true) wx := fun wx => eql_none_nil 25 9 0 c Tryz.underlying25 wx
   go_enter Tryz.func85, Tryz.ntmps85
   go_wp2_with fail
   go_ret
   exact ⟨⟨_, rfl, OwnR.nil _ _ _ _ _⟩, Below.refl _ _⟩
 · clear hl
   have he : ∀ wx : World, (binOp BinOp.eql 25 (.slice (some a) xs.length c) (.slice none 0 0)).run Tryz.prog wx = .ok (.bool false) wx := fun wx => eql_slice_nil 25 9 a xs.length c Tryz.underlying25 wx
   go_enter Tryz.func85, Tryz.ntmps85
   go_wp2_with ((
      at_builtin
      refine wpList_append_R (R := StrR) (e := 9) rfl (.tmp 5) (.tmp 6) 25 rfl (bytes := 16) Tryz.underlying25 hi0 hz0 hz1 hz2 rfl (show 0 < 1 by omega) single_strJ rfl hown.out rfl hsrc.out rfl hB (by simp only [List.length_nil]; omega) (by omega) HA.out.size ?_
      intro v1 w1 hown1 hb1
      have HO := Lib.hid hown1
      have HB1 := Lib.hid (HA.out.trans hb1)
      clear hown1 hb1))
   go_ret
   exact ⟨⟨_, rfl, HO.out⟩, HB1.out⟩
open Go.ChangeShapes Go.WideShapes Go.ChangeAt Go.RowKit
structure Ins where
 kind : Int
 a : Int
 b : Int
 c : Int
 d : Int
 x : Int
 y : Int
def Ins.put (i : Ins) (j : Nat) (v : Int) : Ins := if j = 0 then { i with a := v } else if j = 1 then { i with b := v } else if j = 2 then { i with c := v } else { i with d := v }
def charI : Ins := ⟨1, 0, 0, 0, 0, 0, 0⟩
structure PS where
 at_ : Nat
 deep : Nat
 e : Int
def byteAt (s : ByteArray) (k : Nat) : Nat := ((bs s)[k]?.map UInt8.toNat).getD 0
def endsP (s : ByteArray) (p : PS) : Bool := decide (p.e ≠ 0) || decide (s.size ≤ p.at_)
def isP (s : ByteArray) (p : PS) (c : Nat) : Bool := !endsP s p && decide (byteAt s p.at_ = c)
def failP (p : PS) (e : Int) : PS := if p.e = 0 then { p with e := e } else p
def PS.step (p : PS) : PS := { p with at_ := p.at_ + 1 }
open Go.ChangeShapes Go.WideShapes Go.ChangeAt Go.RowKit
open Go.ChangeShapes Go.WideShapes Go.ChangeAt Go.RowKit
def remP (s : ByteArray) (p : PS) : Nat := if p.e = 0 then s.size - p.at_ else 0
theorem ends_rem (s : ByteArray) (p : PS) : endsP s p = decide (remP s p = 0) := by
 unfold endsP remP
 by_cases h : p.e = 0
 · simp [h]; omega
 · simp [h]
theorem fail_rem {s : ByteArray} {p : PS} {e : Int} (he : e ≠ 0) : remP s (failP p e) = 0 := by
 unfold failP remP
 by_cases h : p.e = 0
 · simp [h, he]
 · simp [h]
theorem fail_at (p : PS) (e : Int) : (failP p e).at_ = p.at_ := by unfold failP; split <;> rfl
theorem fail_deep (p : PS) (e : Int) : (failP p e).deep = p.deep := by unfold failP; split <;> rfl
structure Less (s : ByteArray) (d : Nat) (p q : PS) : Prop where
 rem : remP s q + d ≤ remP s p ∨ d ≠ 0 ∧ remP s p = 0 ∧ remP s q = 0
 deep : q.deep = p.deep
 at_ : p.at_ ≤ s.size → q.at_ ≤ s.size
 up : p.at_ ≤ q.at_
theorem Less.refl (s : ByteArray) (p : PS) : Less s 0 p p := ⟨.inl (Nat.le_refl _), rfl, id, Nat.le_refl _⟩
theorem Less.zero {s : ByteArray} {d : Nat} {p q : PS} (h : Less s d p q) : Less s 0 p q := ⟨.inl (by rcases h.rem with h | ⟨_, h, k⟩ <;> omega), h.deep, h.at_, h.up⟩
theorem Less.le {s : ByteArray} {d : Nat} {p q : PS} (h : Less s d p q) : remP s q ≤ remP s p := by rcases h.rem with h | ⟨_, h, k⟩ <;> omega
theorem Less.trans {s : ByteArray} {p q r : PS} (h : Less s 0 p q) (k : Less s 0 q r) : Less s 0 p r := ⟨.inl (by have := h.le; have := k.le; omega), k.deep.trans h.deep, fun x => k.at_ (h.at_ x), Nat.le_trans h.up k.up⟩
theorem Less.one {s : ByteArray} {p q r : PS} (h : Less s 1 p q) (k : Less s 0 q r) : Less s 1 p r := ⟨by have := k.le; rcases h.rem with h | ⟨_, h, k⟩ <;> omega, k.deep.trans h.deep, fun x => k.at_ (h.at_ x), Nat.le_trans h.up k.up⟩
theorem Less.fail {s : ByteArray} {d : Nat} {p q : PS} {e : Int} (h : Less s d p q) (he : e ≠ 0) : Less s d p (failP q e) :=
 ⟨by rw [fail_rem he]; rcases h.rem with h | ⟨_, h, k⟩ <;> omega, by rw [fail_deep, h.deep], by rw [fail_at]; exact h.at_, by rw [fail_at]; exact h.up⟩
theorem Less.stepped {s : ByteArray} {p : PS} (h : endsP s p = false) : Less s 1 p p.step := by
 rw [ends_rem] at h
 have h : remP s p ≠ 0 := by simpa using h
 unfold remP at h
 refine ⟨.inl ?_, rfl, fun hx => ?_, by simp [PS.step]⟩
 · unfold remP PS.step
   split at h
   · rename_i he
     simp [he]
     omega
   · exact absurd rfl h
 · unfold PS.step
   split at h
   · simp; omega
   · exact absurd rfl h
theorem is_ends {s : ByteArray} {p : PS} {c : Nat} (h : isP s p c = true) : endsP s p = false := by
 unfold isP at h
 rw [Bool.and_eq_true] at h
 simpa using h.1
theorem Less.byte {s : ByteArray} {p : PS} {c : Nat} (h : isP s p c = true) : Less s 1 p p.step := Less.stepped (is_ends h)
theorem Less.lt {s : ByteArray} {p q : PS} (h : Less s 1 p q) (hp : remP s p ≠ 0) : remP s q + 1 ≤ remP s p := by rcases h.rem with h | ⟨_, h, k⟩ <;> omega
open Go.ChangeShapes Go.WideShapes Go.ChangeAt Go.RowKit
section
variable {α : Type} {R : Reader α} {e : TypeId} {w : World} {base B : Nat} {v : Value} {xs : List α} {A : Option Addr} {c : Nat}
theorem addr_add (b off j : Nat) : (⟨b, off, none⟩ : Addr).add j = ⟨b, off + j, none⟩ := by
 unfold Addr.add
 split
 · rename_i h; subst h; rfl
 · rfl
theorem OwnR.src (h : OwnR R e w base B (.slice A xs.length c) xs) : SrcR R w B A xs := by
 obtain ⟨cells, h, hf⟩ := h
 rcases h.2 with ⟨h1, h2⟩ | ⟨g, cap, cur, hv, hg, hh, k1, k2, k3, k4⟩
 · have : xs = [] := List.eq_nil_of_length_eq_zero h2
   subst this
   refine ⟨[], Flat.nil, fun _ => rfl, fun a _ j u hu => by simp at hu⟩
 · simp only [Value.slice.injEq] at hv
   obtain ⟨rfl, _, rfl⟩ := hv
   refine ⟨cells, hf, fun e => (by cases e), fun a ha j u hu => ?_⟩
   simp only [Option.some.injEq] at ha
   subst ha
   rw [← k4, List.getElem?_take] at hu
   split at hu
   · rw [addr_add]
     show w.cell? ⟨g, 0 + j, none⟩ = _
     rw [cell_of_row w g _ cur e (0, 0) hh, Nat.zero_add]
     simpa using hu
   · cases hu
theorem Flat.take {news : List Value} (h : Flat R w B xs news) (k : Nat) : Flat R w B (xs.take k) (news.take (k * R.k)) := by
 refine ⟨?_, fun i hi => ?_⟩
 · rw [List.length_take, List.length_take, h.1]
   rcases Nat.le_total k xs.length with hk | hk
   · rw [Nat.min_eq_left hk, Nat.min_eq_left (Nat.mul_le_mul_right _ hk)]
   · rw [Nat.min_eq_right hk, Nat.min_eq_right (Nat.mul_le_mul_right _ hk)]
 · rw [List.length_take] at hi
   have hik : i < k := by omega
   have h1 : (i + 1) * R.k ≤ k * R.k := Nat.mul_le_mul_right _ hik
   rw [Nat.add_mul, Nat.one_mul] at h1
   have := h.2 i (by omega)
   rw [List.getElem_take, List.drop_take, List.take_take, Nat.min_eq_left (by omega)]
   exact this
theorem Flat.drop {news : List Value} (h : Flat R w B xs news) (k : Nat) : Flat R w B (xs.drop k) (news.drop (k * R.k)) := by
 refine ⟨?_, fun i hi => ?_⟩
 · rw [List.length_drop, List.length_drop, h.1, Nat.sub_mul]
 · rw [List.length_drop] at hi
   have := h.2 (k + i) (by omega)
   rw [List.getElem_drop, List.drop_drop]
   rw [show k * R.k + i * R.k = (k + i) * R.k by rw [Nat.add_mul]]
   exact this
theorem SrcR.take (h : SrcR R w B A xs) (k : Nat) : SrcR R w B A (xs.take k) := by
 obtain ⟨cells, hf, h1, h2⟩ := h
 refine ⟨_, hf.take k, fun e => (by rw [h1 e]; simp), fun a ha j u hu => ?_⟩
 rw [List.getElem?_take] at hu
 split at hu
 · exact h2 a ha j u hu
 · cases hu
theorem SrcR.drop {b off : Nat} (h : SrcR R w B (some ⟨b, off, none⟩) xs) (k : Nat) : SrcR R w B (some ⟨b, off + k * R.k, none⟩) (xs.drop k) := by
 obtain ⟨cells, hf, h1, h2⟩ := h
 refine ⟨_, hf.drop k, fun e => (by cases e), fun a ha j u hu => ?_⟩
 rw [List.getElem?_drop] at hu
 simp only [Option.some.injEq] at ha
 subst ha
 have := h2 _ rfl _ _ hu
 rw [addr_add] at this ⊢
 rw [Nat.add_assoc]; exact this
theorem SrcR.none {A : Option Addr} {ys : List α} (h : ys = []) : SrcR R w B A ys := by
 subst h; exact ⟨[], Flat.nil, fun _ => rfl, fun a _ j u hu => by simp at hu⟩
end
section
variable {α : Type} {c : α → α → Int} {t : α}
end
open Go.ChangeShapes Go.WideShapes Go.ChangeAt Go.RowKit
def insC (i : Ins) : List Value := [.int .i64 i.kind, .int .u64 i.a, .int .u64 i.b, .int .u64 i.c, .int .u64 i.d, .int .i64 i.x, .int .i64 i.y]
def InsR : Reader Ins where
 k := 7
 rd := fun _ _ i vs => vs = insC i
 keep := fun _ _ h => h
 wide := fun _ h => h
 len := fun h => by subst h; rfl
def BlkT (w : World) (b : Nat) (vs : Array Value) (T : TypeId) : Prop := w.heap[b]? = some (.cells vs T (0, 0))
section
variable {w w' : World} {b c : Nat} {vs : Array Value} {T : TypeId}
theorem BlkT.blk (h : BlkT w b vs T) : Blk w b vs := ⟨T, h⟩
theorem BlkT.keep {B : Nat} (h : BlkT w b vs T) (hb : Below B w w') (hB : b < B) : BlkT w' b vs T := (hb.block b hB).trans h
theorem BlkT.later (h : BlkT w b vs T) (hb : Below w.heap.size w w') : BlkT w' b vs T := h.keep hb h.blk.lt
theorem BlkT.set_ (h : BlkT w b vs T) (i : Nat) (u : Value) : BlkT (w.setCell ⟨b, i, none⟩ u) b (vs.setIfInBounds i u) T := by
 unfold BlkT at h ⊢
 simp [World.setCell, Array.getElem?_modify, h]
theorem BlkT.far (h : BlkT w b vs T) (hne : b ≠ c) (i : Nat) (u : Value) : BlkT (w.setCell ⟨c, i, none⟩ u) b vs T := (Below.heap_setCell w ⟨c, i, none⟩ u b hne).trans h
theorem BlkT.drew (h : BlkT w b vs T) : BlkT w.drew b vs T := h
theorem BlkT.own {α : Type} {R : Reader α} {base B n : Nat} {xs : List α} {cells : List Value} (h : BlkT w b cells.toArray T) (hf : Flat R w B xs cells) (hb : base ≤ b) (hn : xs.length = n) (hlen : n ≤ maxLen) : OwnR R T w base B (.slice (some ⟨b, 0, none⟩) n n) xs := by
 subst hn
 refine ⟨cells, ⟨hf.1, .inr ⟨b, xs.length, cells.toArray, rfl, hb, h, Nat.le_refl _, hlen, ?_, ?_⟩⟩, hf⟩
 · simp [hf.1]
 · simp
   exact List.take_of_length_le (by rw [hf.1]; exact Nat.le_refl _)
end
open Go.ChangeShapes Go.WideShapes Go.ChangeAt Go.RowKit
theorem OwnR.rows {w : World} {base n c : Nat} {A : Option Addr} {xs : List Ins} (h : OwnR InsR 239 w base 0 (.slice A n c) xs) (hn : xs.length ≤ 1000000) : RL InsR w w.heap.size xs A := by
 obtain ⟨A3, c3, e3, r1, r2, r3⟩ := h.reads (Nat.zero_le _) (by show xs.length * (8 * 7) ≤ _; omega)
 simp only [Value.slice.injEq] at e3
 obtain ⟨rfl, _, rfl⟩ := e3
 exact r3
theorem OwnR.low {w : World} {base b0 : Nat} {v : Value} {xs : List Ins} (h : OwnR InsR 239 w base 0 v xs) (hb : b0 ≤ base) : OwnR InsR 239 w b0 0 v xs := by
 obtain ⟨cells, h, hf⟩ := h
 refine ⟨cells, ⟨h.1, ?_⟩, hf⟩
 rcases h.2 with h2 | ⟨g, cap, cur, hv, hg, r⟩
 · exact .inl h2
 · exact .inr ⟨g, cap, cur, hv, Nat.le_trans hb hg, r⟩
end Go.Proofs.YtkdonhhbpacgmaaGreat
