/- The arguments of a statement, opened to plain data. -/
import Derived.Test.YtkdonhhbpacgmaaGreatRule4
import Derived.Deep.Slices
import Derived.Deep.Fields
import Derived.ChangeSame
import Derived.SizedLaws
import Derived.Below
set_option linter.unusedVariables false
set_option linter.unusedSimpArgs false
namespace Go.Proofs.YtkdonhhbpacgmaaGreat
open Go.ChangeShapes Go.WideShapes Go.ChangeAt Go.RowKit
theorem RTm.deep {w : World} {B : Nat} : ∀ {d : Nat} {t : Tm} {vs : List Value}, RTm w B d t vs → RTm w B (d + 1) t vs
 | 0, _, _, h => h.elim
 | d + 1, t, vs, ⟨A, c, e, h1, h2, h3, h4, h5, h6⟩ => ⟨A, c, e, h1, h2, h3, h4, h5, h6.mono fun i vs _ ⟨x, hx, hr⟩ => ⟨x, hx, RTm.deep hr⟩⟩
theorem RTm.deeper {w : World} {B : Nat} {d D : Nat} {t : Tm} {vs : List Value} (hd : d ≤ D) (h : RTm w B d t vs) : RTm w B D t vs := by
 induction D with
 | zero => have : d = 0 := by omega
           subst this; exact h
 | succ D ih =>
   by_cases he : d = D + 1
   · subst he; exact h
   · exact RTm.deep (ih (by omega))
theorem exists_list {α : Type} : ∀ (n : Nat) (P : Nat → α → Prop), (∀ i, i < n → ∃ a, P i a) → ∃ xs : List α, xs.length = n ∧ ∀ i, i < n → ∃ a, xs[i]? = some a ∧ P i a
 | 0, _, _ => ⟨[], rfl, fun _ h => by omega⟩
 | n + 1, P, h => by
   obtain ⟨xs, hl, hx⟩ := exists_list n P (fun i hi => h i (by omega))
   obtain ⟨a, ha⟩ := h n (by omega)
   refine ⟨xs ++ [a], by simp [hl], fun i hi => ?_⟩
   by_cases hin : i < n
   · obtain ⟨b, hb, hp⟩ := hx i hin
     exact ⟨b, by rw [List.getElem?_append_left (by omega)]; exact hb, hp⟩
   · have : i = n := by omega
     subst this
     exact ⟨a, by rw [List.getElem?_append_right (by omega)]; simp [hl], ha⟩
def Ok {H : Type} (P : Program) (t : TypeId) (d : DataW H) : Prop := ∀ n ∈ d.weights P t, n ≤ reachBytes
section
variable {H : Type} {enc : TypeId × Value → H} {P : Program} {w : World} {base : Nat} {held : Bool}
theorem open_fields {t : TypeId} {fs : Array Field} {fuel : Nat} {cs : List Value} {x : DataW H × List MemPlace} (ht : P.underlying t = some (.struct fs)) (h : DataW.trod enc P w base (fun _ => true) held fuel t cs = some x) (ho : Ok P t x.1) :
   cs.length = P.cellsOf t ∧ ∃ n, fuel = n + 1 ∧ ∀ (j : Nat) (f : Field) (ty : TypeId) (off C : Nat), fs[j]? = some f → f.type = ty → f.offset = off → P.cellsOf ty = C → ∃ y, DataW.trod enc P w base (fun _ => true) held n ty ((cs.drop off).take C) = some y ∧ Ok P ty y.1 := by
 obtain ⟨xs, n, hn, hx, hc, hl, hf⟩ := DataW.trod_struct ht h
 refine ⟨hc, n, hn, fun j f ty off C hj h1 h2 h3 => ?_⟩
 subst h1 h2 h3
 have hjl : j < fs.size := (Array.getElem?_eq_some_iff.1 hj).1
 have hys : xs[j]? = some (xs[j]'(by omega)) := List.getElem?_eq_getElem (by omega)
 refine ⟨_, (hf j f hj).trans hys, fun m hm => ho m ?_⟩
 rw [hx]
 simp only [DataW.weights, ht]
 refine DataW.weights_mem_each (j := j) (t := f.type) (d := (xs[j]'(by omega)).1) ?_ ?_ m hm
 · rw [List.getElem?_map, Array.getElem?_toList, hj]; rfl
 · rw [List.getElem?_map, hys]; rfl
theorem weightsAll_mem {e : TypeId} : ∀ {l : List (DataW H)} {d : DataW H}, d ∈ l → ∀ n ∈ d.weights P e, n ∈ DataW.weightsAll P e l
 | a :: l, d, hd, n, hn => by
   simp only [DataW.weightsAll, List.mem_append]
   rcases List.mem_cons.1 hd with rfl | hd
   · exact .inl hn
   · exact .inr (weightsAll_mem hd n hn)
theorem open_int {t : TypeId} {fuel : Nat} {cs : List Value} {x : DataW H × List MemPlace} (ht : P.underlying t = some (.int .i64)) (h : DataW.trod enc P w base (fun _ => true) held fuel t cs = some x) : ∃ n, cs = [.int .i64 n] ∧ I64 n := by
 obtain ⟨n, hcs, _, hwf⟩ := DataW.trod_int ht h
 refine ⟨n, hcs, ?_⟩
 simp only [Lit.wf] at hwf
 unfold I64
 revert hwf
 have e1 : IntKind.i64.signed = true := rfl
 have e2 : IntKind.i64.bits = 64 := rfl
 simp [IntKind.min, IntKind.max, e1, e2]
theorem open_string {t : TypeId} {fuel : Nat} {cs : List Value} {x : DataW H × List MemPlace} (ht : P.underlying t = some .string) (h : DataW.trod enc P w base (fun _ => true) held fuel t cs = some x) (ho : Ok P t x.1) : ∃ s : ByteArray, cs = [.string s] ∧ s.size ≤ 140737488351232 := by
 obtain ⟨s, hcs, hx, _⟩ := DataW.trod_string ht h
 refine ⟨s, hcs, ?_⟩
 have := ho s.data.toList.length (by rw [hx]; simp [DataW.weights])
 simpa [reachBytes] using this
theorem open_row' {α : Type} (R : Reader α) {D : Nat} {t e : TypeId} {fuel : Nat} {cs : List Value} {x : DataW H × List MemPlace} (ht : P.underlying t = some (.slice e)) (hC : P.cellsOf e = R.k) (hk : 0 < R.k) {B : Nat} (hb1 : P.bytesOf e = B)
   (h : DataW.trod enc P w base (fun _ => true) held fuel t cs = some x) (ho : Ok P t x.1) (hD : fuel ≤ D + 1)
   (hel : ∀ n, n ≤ D → ∀ cs x, DataW.trod enc P w base (fun _ => true) held n e cs = some x → Ok P e x.1 → ∃ a, R.rd w w.heap.size a cs) :
   ∃ (xs : List α) (A : Option Addr) (c : Nat), cs = [.slice A xs.length c] ∧ xs.length ≤ c ∧ c * B ≤ 140737488351232 ∧ RL R w w.heap.size xs A := by
 rcases DataW.trod_slice ht h with ⟨hcs, _⟩ | ⟨a, len, cap, elems, rest, n, hn, hcs, hx, _, hl, _, hlen, hat, hsp, _⟩
 · exact ⟨[], none, 0, hcs, by simp, by simp, fun h0 => by simp at h0⟩
 have hrl := (hsp rfl).1
 have hcap : cap * P.bytesOf e ≤ reachBytes := by
   have := ho ((elems.length + rest.length) * P.bytesOf e) (by rw [hx]; simp [DataW.weights, ht])
   have e1 : elems.length + rest.length = cap := by omega
   rwa [e1] at this
 have hcapk : cap * B ≤ 140737488351232 := by rw [hb1] at hcap; exact hcap
 have hE : ∀ i, i < len → ∃ a' : α, ∃ cs', w.cells? base (a.add (i * P.cellsOf e)) (P.cellsOf e) = some cs' ∧ R.rd w w.heap.size a' cs' := by
   intro i hi
   have h1 := hat i hi
   have hg : elems[i]? = some (elems[i]'(by omega)) := List.getElem?_eq_getElem (by omega)
   rw [hg] at h1
   cases hc : w.cells? base (a.add (i * P.cellsOf e)) (P.cellsOf e) with
   | none => rw [hc] at h1; simp at h1
   | some cs' =>
     rw [hc] at h1
     simp only [Option.bind_some] at h1
     obtain ⟨a', ha'⟩ := hel n (by omega) cs' _ h1 (fun m hm => ho m (by
       rw [hx]
       simp only [DataW.weights, ht, List.mem_cons, List.mem_append]
       exact .inr (.inl (weightsAll_mem (List.mem_map.2 ⟨_, List.getElem_mem (by omega), rfl⟩) m hm))))
     exact ⟨a', cs', rfl, ha'⟩
 obtain ⟨xs, hxl, hxs⟩ := exists_list len _ hE
 refine ⟨xs, some a, cap, by rw [hcs, hxl], by omega, hcapk, fun h0 => ?_⟩
 rw [hxl] at h0
 obtain ⟨a0, _, cs0, hc0, hr0⟩ := hxs 0 h0
 obtain ⟨_, hcl0, hat0⟩ := World.cells?_some hc0
 have hcell0 := hat0 0 (by omega)
 have e0 : cs0[0]? = some (cs0[0]'(by omega)) := List.getElem?_eq_getElem (by omega)
 rw [e0] at hcell0
 have hsz : a.block < w.heap.size := by
   have := block_lt_of_cell hcell0
   simpa [Addr.add] using this
 have hspot : a.spot = none := by simpa [Addr.add] using World.cell?_spot hcell0
 obtain ⟨b, off, spot⟩ := a
 dsimp only at hspot hsz
 subst hspot
 refine ⟨b, off, rfl, hsz, fun i hi => ?_⟩
 rw [hxl] at hi
 obtain ⟨ai, hai, csi, hci, hri⟩ := hxs i hi
 obtain ⟨_, hcl, hati⟩ := World.cells?_some hci
 refine ⟨csi, by omega, ⟨ai, hai, hri⟩, fun j v hj => ?_⟩
 have hjl : j < csi.length := (List.getElem?_eq_some_iff.1 hj).1
 have := hati j (by omega)
 rw [hj] at this
 rw [← this, hC]
 congr 1
 simp only [Addr.add]
 split <;> split <;> simp_all <;> omega
theorem open_row {α : Type} (R : Reader α) {D : Nat} {t e : TypeId} {fuel : Nat} {cs : List Value} {x : DataW H × List MemPlace} (ht : P.underlying t = some (.slice e)) (hC : P.cellsOf e = R.k) (hk : 0 < R.k) {B : Nat} (hb0 : 8 * R.k ≤ B) (hb1 : P.bytesOf e = B)
   (h : DataW.trod enc P w base (fun _ => true) held fuel t cs = some x) (ho : Ok P t x.1) (hD : fuel ≤ D + 1)
   (hel : ∀ n, n ≤ D → ∀ cs x, DataW.trod enc P w base (fun _ => true) held n e cs = some x → Ok P e x.1 → ∃ a, R.rd w w.heap.size a cs) :
   ∃ xs v, cs = [v] ∧ RSl R w w.heap.size xs v := by
 obtain ⟨xs, A, c, e1, h1, h2, h3⟩ := open_row' R ht hC hk hb1 h ho hD hel
 exact ⟨xs, _, e1, A, c, rfl, h1, ⟨Nat.le_trans (Nat.mul_le_mul h1 hb0) h2, by
   have := Nat.le_mul_of_pos_right c (show 0 < B by omega)
   omega⟩, h3⟩
theorem cells_int : Tryz.prog.cellsOf 3 = 1 := by kernel_rfl
theorem cells_int64 : Tryz.prog.cellsOf 2 = 1 := by kernel_rfl
theorem cells_string : Tryz.prog.cellsOf 9 = 1 := by kernel_rfl
theorem cells_Terms : Tryz.prog.cellsOf 22 = 1 := by kernel_rfl
theorem cells_Term : Tryz.prog.cellsOf 44 = 4 := by kernel_rfl
theorem cells_Pred : Tryz.prog.cellsOf 24 = 2 := by kernel_rfl
set_option maxRecDepth 100000 in
theorem tm_open : ∀ (n : Nat) (cs : List Value) (x : DataW H × List MemPlace), DataW.trod enc Tryz.prog w base (fun _ => true) held n 44 cs = some x → Ok Tryz.prog 44 x.1 → ∃ t, RTm w w.heap.size n t cs
 | 0, cs, x, h, _ => by simp [DataW.trod] at h
 | n + 1, cs, x, h, ho => by
   obtain ⟨hc, n', hn, hf⟩ := open_fields (Tryz.underlying44) h ho
   have hn' : n' = n := by omega
   subst hn'
   have hc4 : cs.length = 4 := hc.trans cells_Term
   match cs, hc4 with
   | [c0, c1, c2, c3], _ =>
     obtain ⟨_, h0, _⟩ := hf 0 _ _ _ _ rfl rfl rfl cells_int
     obtain ⟨_, h1, _⟩ := hf 1 _ _ _ _ rfl rfl rfl cells_int64
     obtain ⟨_, h2, o2⟩ := hf 2 _ _ _ _ rfl rfl rfl cells_string
     obtain ⟨_, h3, o3⟩ := hf 3 _ _ _ _ rfl rfl rfl cells_Terms
     obtain ⟨k0, e0, i0⟩ := open_int (Tryz.underlying3) h0
     obtain ⟨k1, e1, i1⟩ := open_int (Tryz.underlying2) h1
     obtain ⟨s2, e2, i2⟩ := open_string (Tryz.underlying9) h2 o2
     obtain ⟨xs, A, c, e3, g1, g2, hrl⟩ := open_row' (TmR n') (D := n') (B := 56) (Tryz.underlying22) cells_Term (by simp [TmR]) (by kernel_rfl) h3 o3 (by omega) (fun m hm cs x hx ho => by
       obtain ⟨t, ht⟩ := tm_open m cs x hx ho
       exact ⟨t, RTm.deeper hm ht⟩)
     replace e0 : [c0] = _ := e0
     replace e1 : [c1] = _ := e1
     replace e2 : [c2] = _ := e2
     replace e3 : [c3] = _ := e3
     simp only [List.cons.injEq, and_true] at e0 e1 e2 e3
     subst e0 e1 e2 e3
     exact ⟨⟨k0, k1, s2, xs⟩, A, c, rfl, g1, (show xs.length * 40 ≤ 140737488351232 ∧ c ≤ 9223372036854775807 from ⟨by omega, by omega⟩), i2, i0, i1, hrl⟩
theorem terms_open {n D : Nat} {cs : List Value} {x : DataW H × List MemPlace} (h : DataW.trod enc Tryz.prog w base (fun _ => true) held n 22 cs = some x) (ho : Ok Tryz.prog 22 x.1) (hD : n ≤ D) : ∃ ts v, cs = [v] ∧ RSl (TmR D) w w.heap.size ts v :=
 open_row (TmR D) (D := D) (B := 56) (Tryz.underlying22) cells_Term (by simp [TmR]) (by simp [TmR]) (by kernel_rfl) h ho (by omega) (fun m hm cs x hx ho => by
   obtain ⟨t, ht⟩ := tm_open m cs x hx ho
   exact ⟨t, RTm.deeper hm ht⟩)
set_option maxRecDepth 100000 in
theorem pred_open {n D : Nat} {cs : List Value} {x : DataW H × List MemPlace} (h : DataW.trod enc Tryz.prog w base (fun _ => true) held n 24 cs = some x) (ho : Ok Tryz.prog 24 x.1) (hD : n ≤ D) : ∃ p, (PrR D).rd w w.heap.size p cs := by
 obtain ⟨hc, n', hn, hf⟩ := open_fields (Tryz.underlying24) h ho
 have hcl := hc.trans cells_Pred
 match cs, hcl with
 | [c0, c1], _ =>
   obtain ⟨_, h0, o0⟩ := hf 0 _ _ _ _ rfl rfl rfl cells_string
   obtain ⟨_, h1, o1⟩ := hf 1 _ _ _ _ rfl rfl rfl cells_Terms
   obtain ⟨s0, e0, i0⟩ := open_string (Tryz.underlying9) h0 o0
   obtain ⟨xs, v, e1, g1⟩ := terms_open (D := D) h1 o1 (by omega)
   replace e0 : [c0] = _ := e0
   replace e1 : [c1] = _ := e1
   simp only [List.cons.injEq, and_true] at e0 e1
   subst e0 e1
   exact ⟨⟨s0, xs⟩, _, rfl, i0, g1⟩
end
end Go.Proofs.YtkdonhhbpacgmaaGreat
