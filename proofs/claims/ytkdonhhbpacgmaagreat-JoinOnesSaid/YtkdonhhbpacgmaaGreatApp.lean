/- Appending to a slice of the call's own, in a region that draws its order: which row is written; blocks that no append writes. -/
import Derived.Test.YtkdonhhbpacgmaaGreatReg3
import Derived.Test.YtkdonhhbpacgmaaGreatTmAt
import Derived.RegionTactic
import Derived.Deep.RegionHeld3
import Derived.Deep.RegionLaw
import Derived.Deep.DeepCutAuto
set_option linter.unusedVariables false
set_option linter.unusedSimpArgs false
namespace Go.Proofs.YtkdonhhbpacgmaaGreat
open Go.ChangeShapes Go.WideShapes Go.ChangeAt Go.RowKit
section
variable {α : Type} {R : Reader α} {P : Program} {w : World} {e : TypeId} {base B : Nat} {v : Value} {xs ys : List α}
theorem append_freshB (t ty : TypeId) {i : TypeInfo} {z : Value} {bytes : Nat} (ht : P.underlying t = some (.slice e)) (hi : P.info? e = some i) (hz : i.zero = some z)
   (hsize : i.size = R.k) (hby : i.bytes = bytes) (hzs : z.cells.size = R.k) (hsz : 0 < R.k) (hs1 : Single R)
   (hown : OwnR R e w base B v xs) {A : Option Addr} {m c : Nat} (hsrc : SrcR R w B A ys) (hm : m = ys.length) (hB : B ≤ base)
   (hbytes : (xs.length + ys.length) * bytes ≤ 140737488355328) (hb1 : 1 ≤ bytes) (hbase : base ≤ w.heap.size) :
   ∃ v' w', (Builtin.append_ #[t, t] ty #[v, .slice A m c]).run P w = .ok v' w' ∧ OwnR R e w' base B v' (xs ++ ys) ∧ Below base w w' ∧ w.grownBy w' v.ownBlock ∧ FreshV w v v' := by
 subst hm
 obtain ⟨cells, how, hf⟩ := hown
 obtain ⟨news, hf2, hnil, hc⟩ := hsrc
 have hle : xs.length + ys.length ≤ (xs.length + ys.length) * bytes := Nat.le_mul_of_pos_right _ hb1
 rcases A with _ | ad
 · obtain rfl := hnil rfl
   refine ⟨v, w, run_append_nothing (P := P) t ty e ht hi how c, ?_, Below.refl _ _, World.grownBy.refl w _, .inl rfl⟩
   rw [List.append_nil]
   exact ⟨cells, how, hf⟩
 have hnews := hc ad rfl
 have h63 : xs.length + ys.length ≤ maxLen := by unfold maxLen; omega
 have key := fun (b : Nat) (hb : b ≤ w.heap.size) (ho : w.ownsRow b e R.k v xs.length cells) => run_append_own (P := P) w b t ty e i z R.k bytes ht hi hz hsize hby hzs hsz v xs.length cells ho ad ys.length c news hf2.1 hnews (hf2.single hs1) h63 hbytes hb
 obtain ⟨v', w', hr, ho', hg, _⟩ := key base hbase how
 have hbel : Below base w w' := (Below.refl base w).grown hg hbase (fun k hk => (how.lt k hk).1)
 refine ⟨v', w', hr, ⟨cells ++ news, by rw [List.length_append]; exact ho', (hf.append hf2).keep hbel hB⟩, hbel, hg, ?_⟩
 rcases how.2 with ⟨rfl, h0⟩ | ⟨g, cap, cur, rfl, hbg, hgb, hnc, hcm, hcs, htake⟩
 · have hcn : cells = [] := List.eq_nil_of_length_eq_zero (by rw [how.1, h0, Nat.zero_mul])
   subst hcn
   obtain ⟨v2, w2, hr2, ho2, _, _⟩ := key w.heap.size (Nat.le_refl _) (by rw [h0]; exact World.ownsRow_nil _ _ _ _)
   rw [hr] at hr2
   simp only [Result.ok.injEq] at hr2
   obtain ⟨rfl, rfl⟩ := hr2
   rcases ho2.2 with ⟨h1, _⟩ | ⟨g, cap, cur, rfl, hbg, _⟩
   · rw [h1]; exact .inl rfl
   · exact .inr ⟨g, rfl, hbg⟩
 · by_cases hroom : xs.length + ys.length ≤ cap
   · have hfit : xs.length * i.size + news.length ≤ cur.size := by rw [hf2.1, hcs, hsize, ← Nat.add_mul]; exact Nat.mul_le_mul_right _ hroom
     have hr2 := run_append_room (P := P) w t ty e i ht hi g xs.length cap cur hgb ad ys.length c news (by rw [hf2.1, hsize]) hnews (hf2.single hs1) hroom hfit
     rw [hr] at hr2
     simp only [Result.ok.injEq] at hr2
     obtain ⟨rfl, rfl⟩ := hr2
     exact .inl rfl
   · have holds : ∀ j u, cells[j]? = some u → w.cell? ((⟨g, 0, none⟩ : Addr).add j) = some u := how.cells (g := g) rfl
     subst hby
     have hr2 := run_append_grow (P := P) w t ty e i z ht hi hz ⟨g, 0, none⟩ xs.length cap cells (by rw [how.1, hsize]) holds ad ys.length c news (by rw [hf2.1, hsize]) hnews (by omega) (by omega) (growslice_fits (by omega) hbytes)
     rw [hr] at hr2
     simp only [Result.ok.injEq] at hr2
     obtain ⟨rfl, rfl⟩ := hr2
     exact .inr ⟨w.heap.size, rfl, Nat.le_refl _⟩
theorem wp_append_FB {o : Oper} {a : Act} {K : Act → World → Prop} {Q : Exit → Act → World → Prop} (s x : Operand) (t : TypeId)
   (ho : o.op = .call { callee := .builtin .append, args := #[s, x], argTypes := #[t, t] })
   {i : TypeInfo} {z : Value} {bytes : Nat} (ht : P.underlying t = some (.slice e)) (hi : P.info? e = some i) (hz : i.zero = some z)
   (hsize : i.size = R.k) (hby : i.bytes = bytes) (hzs : z.cells.size = R.k) (hsz : 0 < R.k) (hs1 : Single R)
   (hs : a.eval s = v) (hown : OwnR R e w base B v xs) {A : Option Addr} {m c : Nat} (hx : a.eval x = .slice A m c) (hsrc : SrcR R w B A ys) (hm : m = ys.length) (hB : B ≤ base)
   (hbytes : (xs.length + ys.length) * bytes ≤ 140737488355328) (hb1 : 1 ≤ bytes) (hbase : base ≤ w.heap.size)
   (h : ∀ v' w', OwnR R e w' base B v' (xs ++ ys) → Below base w w' → w.grownBy w' v.ownBlock → FreshV w v v' → K (a.put o.dst v') w') : o.wp P a w K Q := by
 obtain ⟨v', w', hr, h2, h3, h4, h5⟩ := append_freshB (P := P) t o.type (c := c) ht hi hz hsize hby hzs hsz hs1 hown hsrc hm hB hbytes hb1 hbase
 unfold Oper.wp execOp
 simp only [ho, resolve, invoke, builtin, Sem.run_bind, Sem.run_pure, Result.andThen_ok, List.map_toArray, List.map_cons, List.map_nil, hs, hx, hr]
 exact h v' w' h2 h3 h4 h5
theorem step_append_FB {ops : Array Oper} {o : Oper} {a : Act} {K : Act → World → Prop} {Q : Exit → Act → World → Prop} {E : Prop} (hgd : o.guard = none) (s x : Operand) (t : TypeId)
   (ho : o.op = .call { callee := .builtin .append, args := #[s, x], argTypes := #[t, t] })
   {i : TypeInfo} {z : Value} {bytes : Nat} (ht : P.underlying t = some (.slice e)) (hi : P.info? e = some i) (hz : i.zero = some z)
   (hsize : i.size = R.k) (hby : i.bytes = bytes) (hzs : z.cells.size = R.k) (hsz : 0 < R.k) (hs1 : Single R)
   (hs : a.eval s = v) (hown : OwnR R e w base B v xs) {A : Option Addr} {m c : Nat} (hx : a.eval x = .slice A m c) (hsrc : SrcR R w B A ys) (hm : m = ys.length) (hB : B ≤ base)
   (hbytes : (xs.length + ys.length) * bytes ≤ 140737488355328) (hb1 : 1 ≤ bytes) (hbase : base ≤ w.heap.size)
   (h : ∀ v' w', OwnR R e w' base B v' (xs ++ ys) → Below base w w' → w.grownBy w' v.ownBlock → FreshV w v v' → K (a.put o.dst v') w') :
   if Region.wanted o (yielded ops a.tmps) = true then Oper.wp P o a w K Q else E := by
 have hw : Region.wanted o (yielded ops a.tmps) = true := by simp [Region.wanted, hgd]
 rw [if_pos hw]
 exact wp_append_FB s x t ho ht hi hz hsize hby hzs hsz hs1 hs hown hx hsrc hm hB hbytes hb1 hbase h
end
def KeepB (w : World) (v : Value) (k : Nat) (cs : Array Value) (T : TypeId) : Prop := w.heap[k]? = some (.cells cs T (0, 0)) ∧ v.ownBlock ≠ some k
section
variable {w w' : World} {v v' : Value} {k : Nat} {cs : Array Value} {T : TypeId} {o : Obj}
theorem KeepB.lt (h : KeepB w v k cs T) : k < w.heap.size := (Array.getElem?_eq_some_iff.1 h.1).1
theorem KeepB.mk' (h1 : w.heap[k]? = some (.cells cs T (0, 0))) (h2 : v.ownBlock ≠ some k) : KeepB w v k cs T := ⟨h1, h2⟩
theorem KeepB.below (h : KeepB w v k cs T) (hb : Below w.heap.size w w') : KeepB w' v k cs T := by
 have hb2 : Blk w k cs := ⟨T, h.1⟩
 refine ⟨?_, h.2⟩
 exact (hb.block k h.lt).trans h.1
theorem KeepB.app (h : KeepB w v k cs T) (hg : w.grownBy w' v.ownBlock) (hf : FreshV w v v') : KeepB w' v' k cs T := by
 refine ⟨(hg.block k h.lt (Ne.symm h.2)).trans h.1, ?_⟩
 rcases hf with e | ⟨g, e, hge⟩
 · rw [e]; exact h.2
 · rw [e]; have := h.lt; simp; omega
theorem KeepB.blk (h : KeepB w v k cs T) : Blk w k cs := ⟨T, h.1⟩
end
theorem OwnR.own_lt {α : Type} {R : Reader α} {e : TypeId} {w : World} {base B k : Nat} {v : Value} {xs : List α} (h : OwnR R e w base B v xs) (hk : w.heap.size ≤ k) : v.ownBlock ≠ some k := by
 obtain ⟨cells, h, _⟩ := h
 intro e
 have := (h.lt k e).2
 omega
theorem KeepB.new {α : Type} {R : Reader α} {e T : TypeId} {w : World} {base B : Nat} {v : Value} {xs : List α} {cs : Array Value} (h : OwnR R e w base B v xs) : KeepB (w.alloc (.cells cs T)) v w.heap.size cs T := ⟨heap_alloc_new w _, h.own_lt (Nat.le_refl _)⟩
theorem Blk.srcs {α : Type} {R : Reader α} {w : World} {B b : Nat} {xs : List α} {vs : Array Value} (h : Blk w b vs) (hf : Flat R w B xs vs.toList) : SrcR R w B (some ⟨b, 0, none⟩) xs := by
 refine ⟨vs.toList, hf, fun e => by (cases e), fun a ha j u hu => ?_⟩
 simp only [Option.some.injEq] at ha
 subst ha
 have := h.cell j
 rw [← Array.getElem?_toList, hu] at this
 unfold Addr.add
 split
 · rename_i hj; subst hj; exact this
 · simpa using this
theorem OwnR.fresh {α : Type} {R : Reader α} {e : TypeId} {w : World} {base B k : Nat} {v : Value} {xs : List α} (h : OwnR R e w base B v xs) (hk : w.heap.size ≤ k) : some k ≠ v.ownBlock := by
 obtain ⟨cells, h, _⟩ := h
 intro e
 have := (h.lt k e.symm).2
 omega
section
variable {α : Type} {R : Reader α} {w : World} {B b : Nat} {xs : List α} {vs : Array Value} {T : TypeId} {o2 : Obj}
end
section
variable {α : Type} {R : Reader α} {w : World} {B b : Nat} {xs : List α} {vs : Array Value} {T : TypeId} {o2 : Obj}
theorem src0 (h : w.heap[b]? = some (.cells vs T)) (hf : Flat R w B xs vs.toList) : SrcR R w B (some ⟨b, 0, none⟩) xs := Blk.srcs ⟨_, h⟩ hf
end
theorem src_hp {α : Type} {R : Reader α} {w : World} {b B : Nat} {cs : Array Value} {T : TypeId} {xs : List α} (h : w.heap[b]? = some (.cells cs T)) (hf : Flat R w B xs cs.toList) : SrcR R w B (some ⟨b, 0, none⟩) xs := Blk.srcs ⟨T, h⟩ hf
end Go.Proofs.YtkdonhhbpacgmaaGreat
