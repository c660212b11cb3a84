/- The document's own answers on names (viaticumref6): as the program's. -/
import Derived.Test.YtiplipdigabidaaGreatSingle
import Derived.Deep.Slices
import Derived.Deep.Fields
import Derived.ChangeSame
import Derived.SizedLaws
import Derived.Below
import Derived.Test.YtiplipdigabidaaGreatSet2
import Derived.Test.YtiplipdigabidaaGreatSetLaw
import Derived.Test.YtiplipdigabidaaGreatRead
set_option linter.unusedVariables false
set_option linter.unusedSimpArgs false
namespace Go.Proofs.YtiplipdigabidaaGreat
open Go.ChangeShapes Go.WideShapes Go.ChangeAt Go.RowKit
theorem RTm.deep {w : World} {B : Nat} : ∀ {d : Nat} {t : Tm} {vs : List Value}, RTm w B d t vs → RTm w B (d + 1) t vs
 | 0, _, _, h => h.elim
 | d + 1, t, vs, ⟨A, c, e, h1, h2, h3, h4, h5, h6⟩ => ⟨A, c, e, h1, h2, h3, h4, h5, h6.mono fun i vs _ ⟨x, hx, hr⟩ => ⟨x, hx, RTm.deep hr⟩⟩
theorem RTm.deeper {w : World} {B : Nat} {d D : Nat} {t : Tm} {vs : List Value} (hd : d ≤ D) (h : RTm w B d t vs) : RTm w B D t vs := by
 induction D with
 | zero => have : d = 0 := by omega
           subst this; exact h
 | succ D ih =>
   by_cases he : d = D + 1
   · subst he; exact h
   · exact RTm.deep (ih (by omega))
theorem exists_list {α : Type} : ∀ (n : Nat) (P : Nat → α → Prop), (∀ i, i < n → ∃ a, P i a) → ∃ xs : List α, xs.length = n ∧ ∀ i, i < n → ∃ a, xs[i]? = some a ∧ P i a
 | 0, _, _ => ⟨[], rfl, fun _ h => by omega⟩
 | n + 1, P, h => by
   obtain ⟨xs, hl, hx⟩ := exists_list n P (fun i hi => h i (by omega))
   obtain ⟨a, ha⟩ := h n (by omega)
   refine ⟨xs ++ [a], by simp [hl], fun i hi => ?_⟩
   by_cases hin : i < n
   · obtain ⟨b, hb, hp⟩ := hx i hin
     exact ⟨b, by rw [List.getElem?_append_left (by omega)]; exact hb, hp⟩
   · have : i = n := by omega
     subst this
     exact ⟨a, by rw [List.getElem?_append_right (by omega)]; simp [hl], ha⟩
def Ok {H : Type} (P : Program) (t : TypeId) (d : DataW H) : Prop := ∀ n ∈ d.weights P t, n ≤ reachBytes
section
variable {H : Type} {enc : TypeId × Value → H} {P : Program} {w : World} {base : Nat} {held : Bool}
theorem open_fields {t : TypeId} {fs : Array Field} {fuel : Nat} {cs : List Value} {x : DataW H × List MemPlace} (ht : P.underlying t = some (.struct fs)) (h : DataW.trod enc P w base (fun _ => true) held fuel t cs = some x) (ho : Ok P t x.1) :
   cs.length = P.cellsOf t ∧ ∃ n, fuel = n + 1 ∧ ∀ (j : Nat) (f : Field) (ty : TypeId) (off C : Nat), fs[j]? = some f → f.type = ty → f.offset = off → P.cellsOf ty = C → ∃ y, DataW.trod enc P w base (fun _ => true) held n ty ((cs.drop off).take C) = some y ∧ Ok P ty y.1 := by
 obtain ⟨xs, n, hn, hx, hc, hl, hf⟩ := DataW.trod_struct ht h
 refine ⟨hc, n, hn, fun j f ty off C hj h1 h2 h3 => ?_⟩
 subst h1 h2 h3
 have hjl : j < fs.size := (Array.getElem?_eq_some_iff.1 hj).1
 have hys : xs[j]? = some (xs[j]'(by omega)) := List.getElem?_eq_getElem (by omega)
 refine ⟨_, (hf j f hj).trans hys, fun m hm => ho m ?_⟩
 rw [hx]
 simp only [DataW.weights, ht]
 refine DataW.weights_mem_each (j := j) (t := f.type) (d := (xs[j]'(by omega)).1) ?_ ?_ m hm
 · rw [List.getElem?_map, Array.getElem?_toList, hj]; rfl
 · rw [List.getElem?_map, hys]; rfl
theorem weightsAll_mem {e : TypeId} : ∀ {l : List (DataW H)} {d : DataW H}, d ∈ l → ∀ n ∈ d.weights P e, n ∈ DataW.weightsAll P e l
 | a :: l, d, hd, n, hn => by
   simp only [DataW.weightsAll, List.mem_append]
   rcases List.mem_cons.1 hd with rfl | hd
   · exact .inl hn
   · exact .inr (weightsAll_mem hd n hn)
theorem open_int {t : TypeId} {fuel : Nat} {cs : List Value} {x : DataW H × List MemPlace} (ht : P.underlying t = some (.int .i64)) (h : DataW.trod enc P w base (fun _ => true) held fuel t cs = some x) : ∃ n, cs = [.int .i64 n] ∧ I64 n := by
 obtain ⟨n, hcs, _, hwf⟩ := DataW.trod_int ht h
 refine ⟨n, hcs, ?_⟩
 simp only [Lit.wf] at hwf
 unfold I64
 revert hwf
 have e1 : IntKind.i64.signed = true := rfl
 have e2 : IntKind.i64.bits = 64 := rfl
 simp [IntKind.min, IntKind.max, e1, e2]
theorem open_string {t : TypeId} {fuel : Nat} {cs : List Value} {x : DataW H × List MemPlace} (ht : P.underlying t = some .string) (h : DataW.trod enc P w base (fun _ => true) held fuel t cs = some x) (ho : Ok P t x.1) : ∃ s : ByteArray, cs = [.string s] ∧ s.size ≤ 140737488351232 := by
 obtain ⟨s, hcs, hx, _⟩ := DataW.trod_string ht h
 refine ⟨s, hcs, ?_⟩
 have := ho s.data.toList.length (by rw [hx]; simp [DataW.weights])
 simpa [reachBytes] using this
theorem open_row' {α : Type} (R : Reader α) {D : Nat} {t e : TypeId} {fuel : Nat} {cs : List Value} {x : DataW H × List MemPlace} (ht : P.underlying t = some (.slice e)) (hC : P.cellsOf e = R.k) (hk : 0 < R.k) {B : Nat} (hb1 : P.bytesOf e = B)
   (h : DataW.trod enc P w base (fun _ => true) held fuel t cs = some x) (ho : Ok P t x.1) (hD : fuel ≤ D + 1)
   (hel : ∀ n, n ≤ D → ∀ cs x, DataW.trod enc P w base (fun _ => true) held n e cs = some x → Ok P e x.1 → ∃ a, R.rd w w.heap.size a cs) :
   ∃ (xs : List α) (A : Option Addr) (c : Nat), cs = [.slice A xs.length c] ∧ xs.length ≤ c ∧ c * B ≤ 140737488351232 ∧ RL R w w.heap.size xs A := by
 rcases DataW.trod_slice ht h with ⟨hcs, _⟩ | ⟨a, len, cap, elems, rest, n, hn, hcs, hx, _, hl, _, hlen, hat, hsp, _⟩
 · exact ⟨[], none, 0, hcs, by simp, by simp, fun h0 => by simp at h0⟩
 have hrl := (hsp rfl).1
 have hcap : cap * P.bytesOf e ≤ reachBytes := by
   have := ho ((elems.length + rest.length) * P.bytesOf e) (by rw [hx]; simp [DataW.weights, ht])
   have e1 : elems.length + rest.length = cap := by omega
   rwa [e1] at this
 have hcapk : cap * B ≤ 140737488351232 := by rw [hb1] at hcap; exact hcap
 have hE : ∀ i, i < len → ∃ a' : α, ∃ cs', w.cells? base (a.add (i * P.cellsOf e)) (P.cellsOf e) = some cs' ∧ R.rd w w.heap.size a' cs' := by
   intro i hi
   have h1 := hat i hi
   have hg : elems[i]? = some (elems[i]'(by omega)) := List.getElem?_eq_getElem (by omega)
   rw [hg] at h1
   cases hc : w.cells? base (a.add (i * P.cellsOf e)) (P.cellsOf e) with
   | none => rw [hc] at h1; simp at h1
   | some cs' =>
     rw [hc] at h1
     simp only [Option.bind_some] at h1
     obtain ⟨a', ha'⟩ := hel n (by omega) cs' _ h1 (fun m hm => ho m (by
       rw [hx]
       simp only [DataW.weights, ht, List.mem_cons, List.mem_append]
       exact .inr (.inl (weightsAll_mem (List.mem_map.2 ⟨_, List.getElem_mem (by omega), rfl⟩) m hm))))
     exact ⟨a', cs', rfl, ha'⟩
 obtain ⟨xs, hxl, hxs⟩ := exists_list len _ hE
 refine ⟨xs, some a, cap, by rw [hcs, hxl], by omega, hcapk, fun h0 => ?_⟩
 rw [hxl] at h0
 obtain ⟨a0, _, cs0, hc0, hr0⟩ := hxs 0 h0
 obtain ⟨_, hcl0, hat0⟩ := World.cells?_some hc0
 have hcell0 := hat0 0 (by omega)
 have e0 : cs0[0]? = some (cs0[0]'(by omega)) := List.getElem?_eq_getElem (by omega)
 rw [e0] at hcell0
 have hsz : a.block < w.heap.size := by
   have := block_lt_of_cell hcell0
   simpa [Addr.add] using this
 have hspot : a.spot = none := by simpa [Addr.add] using World.cell?_spot hcell0
 obtain ⟨b, off, spot⟩ := a
 dsimp only at hspot hsz
 subst hspot
 refine ⟨b, off, rfl, hsz, fun i hi => ?_⟩
 rw [hxl] at hi
 obtain ⟨ai, hai, csi, hci, hri⟩ := hxs i hi
 obtain ⟨_, hcl, hati⟩ := World.cells?_some hci
 refine ⟨csi, by omega, ⟨ai, hai, hri⟩, fun j v hj => ?_⟩
 have hjl : j < csi.length := (List.getElem?_eq_some_iff.1 hj).1
 have := hati j (by omega)
 rw [hj] at this
 rw [← this, hC]
 congr 1
 simp only [Addr.add]
 split <;> split <;> simp_all <;> omega
theorem open_row {α : Type} (R : Reader α) {D : Nat} {t e : TypeId} {fuel : Nat} {cs : List Value} {x : DataW H × List MemPlace} (ht : P.underlying t = some (.slice e)) (hC : P.cellsOf e = R.k) (hk : 0 < R.k) {B : Nat} (hb0 : 8 * R.k ≤ B) (hb1 : P.bytesOf e = B)
   (h : DataW.trod enc P w base (fun _ => true) held fuel t cs = some x) (ho : Ok P t x.1) (hD : fuel ≤ D + 1)
   (hel : ∀ n, n ≤ D → ∀ cs x, DataW.trod enc P w base (fun _ => true) held n e cs = some x → Ok P e x.1 → ∃ a, R.rd w w.heap.size a cs) :
   ∃ xs v, cs = [v] ∧ RSl R w w.heap.size xs v := by
 obtain ⟨xs, A, c, e1, h1, h2, h3⟩ := open_row' R ht hC hk hb1 h ho hD hel
 exact ⟨xs, _, e1, A, c, rfl, h1, ⟨Nat.le_trans (Nat.mul_le_mul h1 hb0) h2, by
   have := Nat.le_mul_of_pos_right c (show 0 < B by omega)
   omega⟩, h3⟩
theorem cells_int : Tryz.prog.cellsOf 3 = 1 := by kernel_rfl
theorem cells_int64 : Tryz.prog.cellsOf 2 = 1 := by kernel_rfl
theorem cells_string : Tryz.prog.cellsOf 9 = 1 := by kernel_rfl
theorem cells_Terms : Tryz.prog.cellsOf 26 = 1 := by kernel_rfl
theorem cells_Term : Tryz.prog.cellsOf 33 = 4 := by kernel_rfl
set_option maxRecDepth 100000 in
theorem tm_open : ∀ (n : Nat) (cs : List Value) (x : DataW H × List MemPlace), DataW.trod enc Tryz.prog w base (fun _ => true) held n 33 cs = some x → Ok Tryz.prog 33 x.1 → ∃ t, RTm w w.heap.size n t cs
 | 0, cs, x, h, _ => by simp [DataW.trod] at h
 | n + 1, cs, x, h, ho => by
   obtain ⟨hc, n', hn, hf⟩ := open_fields (Tryz.underlying33) h ho
   have hn' : n' = n := by omega
   subst hn'
   have hc4 : cs.length = 4 := hc.trans cells_Term
   match cs, hc4 with
   | [c0, c1, c2, c3], _ =>
     obtain ⟨_, h0, _⟩ := hf 0 _ _ _ _ rfl rfl rfl cells_int
     obtain ⟨_, h1, _⟩ := hf 1 _ _ _ _ rfl rfl rfl cells_int64
     obtain ⟨_, h2, o2⟩ := hf 2 _ _ _ _ rfl rfl rfl cells_string
     obtain ⟨_, h3, o3⟩ := hf 3 _ _ _ _ rfl rfl rfl cells_Terms
     obtain ⟨k0, e0, i0⟩ := open_int (Tryz.underlying3) h0
     obtain ⟨k1, e1, i1⟩ := open_int (Tryz.underlying2) h1
     obtain ⟨s2, e2, i2⟩ := open_string (Tryz.underlying9) h2 o2
     obtain ⟨xs, A, c, e3, g1, g2, hrl⟩ := open_row' (TmR n') (D := n') (B := 56) (Tryz.underlying26) cells_Term (by simp [TmR]) (by kernel_rfl) h3 o3 (by omega) (fun m hm cs x hx ho => by
       obtain ⟨t, ht⟩ := tm_open m cs x hx ho
       exact ⟨t, RTm.deeper hm ht⟩)
     replace e0 : [c0] = _ := e0
     replace e1 : [c1] = _ := e1
     replace e2 : [c2] = _ := e2
     replace e3 : [c3] = _ := e3
     simp only [List.cons.injEq, and_true] at e0 e1 e2 e3
     subst e0 e1 e2 e3
     exact ⟨⟨k0, k1, s2, xs⟩, A, c, rfl, g1, (show xs.length * 40 ≤ 140737488351232 ∧ c ≤ 9223372036854775807 from ⟨by omega, by omega⟩), i2, i0, i1, hrl⟩
theorem terms_open {n D : Nat} {cs : List Value} {x : DataW H × List MemPlace} (h : DataW.trod enc Tryz.prog w base (fun _ => true) held n 26 cs = some x) (ho : Ok Tryz.prog 26 x.1) (hD : n ≤ D) : ∃ ts v, cs = [v] ∧ RSl (TmR D) w w.heap.size ts v :=
 open_row (TmR D) (D := D) (B := 56) (Tryz.underlying26) cells_Term (by simp [TmR]) (by simp [TmR]) (by kernel_rfl) h ho (by omega) (fun m hm cs x hx ho => by
   obtain ⟨t, ht⟩ := tm_open m cs x hx ho
   exact ⟨t, RTm.deeper hm ht⟩)
end
theorem RL.one {α : Type} {R : Reader α} {w : World} {B b : Nat} {x : α} {vs : List Value} (hb : b < B) (h : R.rd w B x vs) (hc : ∀ j v, vs[j]? = some v → w.cell? ⟨b, j, none⟩ = some v) : RL R w B [x] (some ⟨b, 0, none⟩) := by
 intro _
 refine ⟨b, 0, rfl, hb, fun i hi => ?_⟩
 have hi0 : i = 0 := by simp at hi; omega
 subst hi0
 refine ⟨vs, R.len h, ⟨x, rfl, h⟩, fun j v hv => ?_⟩
 have e : 0 + 0 * R.k + j = j := by omega
 rw [e]
 exact hc j v hv
open Go.ChangeShapes Go.WideShapes Go.ChangeAt Go.RowKit
structure MeetInv (d B R O S base : Nat) (bc : Array Value) (wr : World) (out : List Tm) (A : Option Addr) (c : Nat) : Prop where
 res : Blk wr R zero4
 side : Blk wr S bc
 set_ : Blk wr O (set4 A out.length c)
 own : OwnR (TmR d) 33 wr base B (.slice A out.length c) out
theorem MeetInv.later {d B R O S base c : Nat} {bc : Array Value} {w w' : World} {out : List Tm} {A : Option Addr} (h : MeetInv d B R O S base bc w out A c) (hb : Below w.heap.size w w') (hB : B ≤ w.heap.size) : MeetInv d B R O S base bc w' out A c :=
 ⟨h.res.later hb, h.side.later hb, h.set_.later hb, h.own.later hb hB⟩
theorem filter_take {p : Tm → Bool} {l : List Tm} {k : Nat} {x : Tm} (h : l[k]? = some x) : (l.take (k + 1)).filter p = (l.take k).filter p ++ (if p x then [x] else []) := by
 obtain ⟨hk, e⟩ := List.getElem?_eq_some_iff.1 h
 rw [List.take_succ_eq_append_getElem hk, List.filter_append, e]
 cases hp : p x <;> simp [List.filter_cons, hp]
set_option maxRecDepth 100000 in
set_option maxHeartbeats 4000000 in
theorem meet_any {d d' B : Nat} {a b : Tm} {vs ws : List Value} {w : World} (ha : RTm w B (d + 1) a vs) (hb : RTm w B (d' + 1) b ws) (hB : B ≤ w.heap.size) (hn : a.l.length ≤ 16) (hlf : ∀ x ∈ a.l, Leaf x) :
   Calls Tryz.prog 91 #[.agg vs.toArray, .agg ws.toArray] w fun e w' => TermE d w w' (meetT a b, 0) e := by
 obtain ⟨i0, hi0, hz0, hz1, hz2⟩ := info_parts infoTm
 have HS := Lib.hid hb
 obtain ⟨As, cs, rfl, _⟩ := hb.cells
 obtain ⟨A, c, rfl, q1, q2, q3, q4, q5, hl⟩ := ha
 have HL : Hid (RL (TmR d) w B a.l A) := Lib.hid hl
 have HN := Lib.hid hn
 clear hl hb hn
 go_enter Tryz.func91, Tryz.ntmps91
 go_wp2_with fail
 generalize hW : World.alloc _ _ = w1
 obtain ⟨hb, hz⟩ := al4 hW
 have b_s := n42 hW
 have b_r := n43 hW
 have b_o := n44 hW
 have HB1 := Lib.hid hb
 have HZ1 := Lib.hid hz
 clear hW hz hb
 have hB1 := Nat.le_trans hB HB1.out.size
 have HINV := Lib.hid (show MeetInv d B (w.heap.size + 2) (w.heap.size + 3) (w.heap.size + 1) w1.heap.size _ w1 [] none 0 from ⟨b_r, b_s, b_o, OwnR.nil _ _ _ _ _⟩)
 clear b_s b_r b_o
 go_loopw [13] (fun i wr => ∃ (k : Nat) (A2 : Option Addr) (c2 : Nat), k ≤ a.l.length ∧ i = .int .i64 k ∧ Hid (Below w.heap.size w wr) ∧ w1.heap.size ≤ wr.heap.size ∧ Hid (MeetInv d B (w.heap.size + 2) (w.heap.size + 3) (w.heap.size + 1) w1.heap.size #[.int .i64 b.kind, .int .i64 b.n, .string b.s, .slice As b.l.length cs] wr ((a.l.take k).filter (hasB b)) A2 c2)) (fun i _ => a.l.length - (intOf i).toNat)
 case atStart => exact ⟨0, none, 0, Nat.zero_le _, rfl, HB1, Nat.le_refl _, HINV⟩
 case round =>
   obtain ⟨k, A2, c2, hk, rfl, HBW, hsz, HI⟩ := hrel
   have hBr := Nat.le_trans hB1 hsz
   have hzw := HZ1.out
   by_cases hlt : k < a.l.length
   · have HLr := Lib.hid (HL.out.keep HBW.out hB)
     obtain ⟨b_, off, rfl, hob⟩ := HLr.out.base (Below.refl _ _) hBr (by omega)
     obtain ⟨x, vs, hx, hlen, hcell, hr⟩ := HLr.out.at_ (Below.refl _ _) hBr hlt
     obtain ⟨Ax, cx, rfl, g1, g2, g3, g4, g5, _⟩ := RTm.cells (show RTm wr B d x vs from hr)
     have c0 : wr.cell? ⟨b_, off + k * 4, none⟩ = some (.int .i64 x.kind) := hcell 0 _ rfl
     have c1 : wr.cell? ⟨b_, off + k * 4 + 1, none⟩ = some (.int .i64 x.n) := hcell 1 _ rfl
     have c2 : wr.cell? ⟨b_, off + k * 4 + 2, none⟩ = some (.string x.s) := hcell 2 _ rfl
     have c3 : wr.cell? ⟨b_, off + k * 4 + 3, none⟩ = some (.slice Ax x.l.length cx) := hcell 3 _ rfl
     have HX := Lib.hid hx
     have HR : Hid (RTm wr B d x _) := Lib.hid hr
     have kt := HI.out.side.cell
     have lt := HI.out.side.lt
     clear hcell hlen hx hr
     go_wp2_with fail
     generalize hW : World.alloc _ _ = W
     obtain ⟨hb1, hz⟩ := al1 hW
     have bx := n11 hW
     have HBa := Lib.hid hb1
     have HIa := Lib.hid (HI.out.later hb1 hBr)
     have kt3 := HIa.out.side.cell
     have hBa := Nat.le_trans hBr hb1.size
     have HRa := Lib.hid (HR.out.below hb1 hBr)
     clear hW hb1 hz c0 c1 c2 c3 kt lt
     go_wp2_with fail
     refine (has_any (d := d') (d' := d) (s := b) (t := x) (B := B) (vs := [_, _, _, _]) (ws := [_, _, _, _]) (HS.out.below (bthen HBW.out HBa.out) hB) (HRa.out) hBa).mono ?_
     rintro e w3 ⟨rfl, hb3⟩
     have HI3 := Lib.hid (HIa.out.later hb3 hBa)
     have bx3 := bx.later hb3
     have HR3 := Lib.hid (HRa.out.below hb3 hBa)
     have HB3 := Lib.hid (bthen HBW.out (bthen HBa.out hb3))
     have hsz3 := Nat.le_trans hsz (Nat.le_trans HBa.out.size hb3.size)
     have hB3 := Nat.le_trans hBa hb3.size
     clear hb3 kt3 bx
     by_cases hm : hasB b x = true
     · have HT : Hid ((a.l.take (k + 1)).filter (hasB b) = (a.l.take k).filter (hasB b) ++ [x]) := Lib.hid (by rw [filter_take HX.out, if_pos hm])
       rw [hm]
       clear hm
       generalize hout : (a.l.take k).filter (hasB b) = out at *
       have HLN : Hid (out.length ≤ 16) := Lib.hid (by rw [← hout]; exact Nat.le_trans (List.length_filter_le _ _) (by rw [List.length_take]; have := HN.out; omega))
       clear hout
       have k_o := HI3.out.set_.cell
       have k_x := bx3.cell
       have l_o := HI3.out.set_.lt
       have l_x := bx3.lt
       have HOW := Lib.hid (And.intro (HI3.out.own.later ((Below.refl _ w3).alloc (Nat.le_refl _) (.cells #[.int .i64 x.kind, .int .i64 x.n, .string x.s, .slice Ax x.l.length cx] 33)) hB3) (Blk.src (R := TmR d) (B := B) (x := x) (Blk.new w3 #[.int .i64 x.kind, .int .i64 x.n, .string x.s, .slice Ax x.l.length cx] 33) ((HR3.out.below ((Below.refl _ w3).alloc (Nat.le_refl _) (.cells #[.int .i64 x.kind, .int .i64 x.n, .string x.s, .slice Ax x.l.length cx] 33)) hB3))))
       go_wp2_with ((
         at_builtin
         refine wpList_append_R (R := TmR d) (e := 33) (base := w1.heap.size) (B := B) (xs := out) (ys := [x]) rfl (.tmp 21) (.tmp 23) 26 rfl (bytes := 56) Tryz.underlying26 hi0 hz0 hz1 hz2 rfl (show 0 < 4 by omega) (single_tm d) rfl HOW.out.1 rfl HOW.out.2 rfl (by omega) (by have := HLN.out; simp only [List.length_cons, List.length_nil]; omega) (by omega) (by rw [World.size_alloc]; omega) ?_
         intro v2 w7 hown2 hb2
         obtain ⟨A3, c3, rfl⟩ := hown2.form
         have hb3 := ((Below.refl w1.heap.size w3).alloc hsz3 (.cells #[.int .i64 x.kind, .int .i64 x.n, .string x.s, .slice Ax x.l.length cx] 33)).trans hb2
         have b_o_7 := HI3.out.set_.keep hb3 (by omega)
         have H7 := Lib.hid (And.intro hown2 hb3)
         have B7 := Lib.hid b_o_7
         have f_7 := b_o_7.free
         have k_7 := b_o_7.cell
         clear hown2 hb2 hb3 b_o_7 k_o k_x l_o l_x bx3))
       go_roundw
       case rel =>
         have hb3 := H7.out.2
         have hle := hb3.size
         have hw1 : w.heap.size + 3 < w1.heap.size := by omega
         refine ⟨k + 1, A3, c3, by omega, by go_num, Lib.hid ((HB3.out.trans (hb3.mono (by omega))).setCell (by show w.heap.size ≤ w.heap.size + 3; omega) _), by simp only [World.size_setCell]; omega, Lib.hid ?_⟩
         rw [HT.out]
         refine ⟨(HI3.out.res.keep hb3 (by omega)).far (by omega) _ _, (HI3.out.side.keep hb3 (by omega)).far (by omega) _ _, ?_, ?_⟩
         · rw [List.length_append]; exact B7.out.set_ 3 _
         · have h9 := H7.out.1.far (c := w.heap.size + 3) (i := 3) hw1 (by omega) (.slice A3 (out ++ [x]).length c3)
           first
             | exact h9
             | (simp only [List.length_append, List.length_cons, List.length_nil, Nat.zero_add] at h9 ⊢; exact h9)
       case measure => simp [intOf]; omega
     · simp only [Bool.not_eq_true] at hm
       have HT : Hid ((a.l.take (k + 1)).filter (hasB b) = (a.l.take k).filter (hasB b)) := Lib.hid (by rw [filter_take HX.out, hm]; simp)
       rw [hm]
       clear hm
       go_wp2_with fail
       go_roundw
       case rel => exact ⟨k + 1, A2, _, by omega, by go_num, HB3, hsz3, Lib.hid (by rw [HT.out]; exact HI3.out)⟩
       case measure => simp [intOf]; omega
   · have HT : Hid ((a.l.take k).filter (hasB b) = (meetT a b).l) := Lib.hid (by rw [List.take_of_length_le (by omega)]; rfl)
     have HLN : Hid ((meetT a b).l.length ≤ 16) := Lib.hid (Nat.le_trans (List.length_filter_le _ _) HN.out)
     rw [HT.out] at HI
     generalize hout : (meetT a b).l = out at *
     have HO := Lib.hid hout
     clear hout
     have kO := HI.out.set_.cell
     have kR := HI.out.res.cell
     have fR := HI.out.res.free
     go_wp2_with fail
     have hbr := put4b HI.out.res (.int .i64 7) (.int .i64 0) (.string ⟨#[]⟩) (.slice A2 out.length c2)
     have how := (((HI.out.own.far (c := w.heap.size + 2) (i := 0) (by omega) (by omega) (.int .i64 7)).far (c := w.heap.size + 2) (i := 1) (by omega) (by omega) (.int .i64 0)).far (c := w.heap.size + 2) (i := 2) (by omega) (by omega) (.string ⟨#[]⟩)).far (c := w.heap.size + 2) (i := 3) (by omega) (by omega) (.slice A2 out.length c2)
     refine bodyPost_ret (ret_tm2 rfl rfl hbr rfl) rfl ?_
     have hlm : (meetT a b).l = out := HO.out
     have hgl : ∀ t ∈ (meetT a b).l, Leaf t := fun t ht => hlf t (List.mem_filter.1 ht).1
     refine ⟨⟨A2, c2, ?_, ?_, by simp [I64, meetT], by simp [I64, meetT], by show emptyS.size ≤ _; decide, by have := HLN.out; rw [hlm]; omega⟩, put4u HBW.out (by omega) _ _ _ _⟩
     · rw [hlm]; rfl
     · rw [hlm] at hgl ⊢; exact (how.leaves hgl).lower (by omega)
open Go.ChangeShapes Go.WideShapes Go.ChangeAt Go.RowKit
set_option maxHeartbeats 400000 in
theorem refSign_any (b : Bool) (w : World) :
   Calls Tryz.prog 95 #[.bool b] w fun e w' => e = .returned (.int .i64 (if b then -1 else 1)) ∧ w = w' := by
 cases b
 all_goals
   go_enter Tryz.func95, Tryz.ntmps95
   go_wp2_with fail
   go_ret
   exact ⟨rfl, rfl⟩
set_option maxHeartbeats 400000 in
theorem refLetter_any (c : Int) (w : World) (h0 : 0 ≤ c) (h1 : c ≤ 255) :
   Calls Tryz.prog 79 #[.int .u8 c] w fun e w' => e = .returned (.bool (letterB c)) ∧ w = w' := by
 have hc : (97 ≤ c ∧ c ≤ 122) ∨ (65 ≤ c ∧ c ≤ 90) ∨ (c < 65) ∨ (90 < c ∧ c < 97) ∨ 122 < c := by omega
 rcases hc with h | h | h | h | h
 all_goals
   go_enter Tryz.func79, Tryz.ntmps79
   go_wp2_with fail
   go_ret
   refine ⟨ret_bool ?_, rfl⟩
   rw [Bool.eq_iff_iff, letterB_iff]
   simp
   try omega
set_option maxHeartbeats 1000000 in
theorem refInner_any (c : Int) (w : World) (h0 : 0 ≤ c) (h1 : c ≤ 255) :
   Calls Tryz.prog 80 #[.int .u8 c] w fun e w' => e = .returned (.bool (nameAt 1 c)) ∧ w = w' := by
 by_cases hl : letterB c = true
 · go_enter Tryz.func80, Tryz.ntmps80
   go_wp2_with fail
   refine (refLetter_any c w h0 h1).mono ?_
   rintro e w1 ⟨rfl, rfl⟩
   rw [hl]
   go_wp2_with fail
   go_ret
   exact ⟨ret_bool (by simp [nameAt, hl]), rfl⟩
 · simp only [Bool.not_eq_true] at hl
   have hc : (48 ≤ c ∧ c ≤ 57) ∨ c = 95 ∨ c = 58 ∨ c < 48 ∨ (58 < c ∧ c < 95) ∨ 95 < c := by omega
   rcases hc with h | rfl | rfl | h | h | h
   all_goals
     go_enter Tryz.func80, Tryz.ntmps80
     go_wp2_with fail
     refine (refLetter_any _ w h0 h1).mono ?_
     rintro e w1 ⟨rfl, rfl⟩
     rw [hl]
     go_wp2_with fail
     go_ret
     refine ⟨ret_bool ?_, rfl⟩
     rw [Bool.eq_iff_iff, nameAt_iff]
     have hl2 := hl
     rw [Bool.eq_false_iff, ne_eq, letterB_iff] at hl2
     simp
     try omega
theorem nameB_not {s : ByteArray} (h : ¬ (((∀ i, (h : i < s.size) → nameAt i s[i].toNat = true) ∧ 1 ≤ s.size ∧ s.size ≤ 32) ∧ Lib.hasPrefix (bs s) (bs hexB) = false)) : false = nameB (bs s) := by
 rw [eq_comm, Bool.eq_false_iff, ne_eq, nameB_iff]
 exact h
theorem refName_short (s : ByteArray) (w : World) (hs : s.size ≤ maxLen) (t1 : ¬ (1 ≤ s.size ∧ s.size ≤ 32)) :
   Calls Tryz.prog 52 #[.string s] w fun e w' => e = .returned (.bool (nameB (bs s))) ∧ w = w' := by
 unfold maxLen at hs
 go_enter Tryz.func52, Tryz.ntmps52
 go_wp2_with fail
 all_goals
   go_ret
   exact ⟨ret_bool (nameB_not (by omega)), rfl⟩
theorem hexQ {s : ByteArray} (h : 4 ≤ s.size) : ((s.extract 0 4).toList == [104, 101, 120, 58]) = Lib.hasPrefix (bs s) (bs hexB) := by
 rw [← Lib.hasPrefix_of_take, ← Lib.size_eq, ← Lib.size_eq]
 have e : hexB.toList = [104, 101, 120, 58] := by rw [ByteArray.toList_eq]; rfl
 have h4 : hexB.size = 4 := rfl
 rw [← e, same_iff, Bool.eq_iff_iff]
 simp [h4, h, Lib.extract_data]
theorem hexN {s : ByteArray} (h : s.size < 4) : Lib.hasPrefix (bs s) (bs hexB) = false := by
 rw [← Lib.hasPrefix_of_take, ← Lib.size_eq, ← Lib.size_eq]
 have h4 : hexB.size = 4 := rfl
 simp [h4]
 omega
set_option maxRecDepth 100000 in
set_option maxHeartbeats 2000000 in
theorem refName_any (s : ByteArray) (w : World) (hs : s.size ≤ maxLen) :
   Calls Tryz.prog 52 #[.string s] w fun e w' => e = .returned (.bool (nameB (bs s))) ∧ w = w' := by
 by_cases t1 : 1 ≤ s.size ∧ s.size ≤ 32
 rotate_left
 · exact refName_short s w hs t1
 unfold maxLen at hs
 have hb : (s[0].toNat : Int) ≤ 255 := by have := s[0].toNat_lt; omega
 by_cases hl : letterB s[0].toNat = true
 rotate_left
 · simp only [Bool.not_eq_true] at hl
   go_enter Tryz.func52, Tryz.ntmps52
   go_wp2_with fail
   refine (refLetter_any _ w (by omega) (by omega)).mono ?_
   rintro e w1 ⟨rfl, rfl⟩
   rw [hl]
   go_wp2_with fail
   go_ret
   refine ⟨ret_bool (nameB_not fun h => ?_), rfl⟩
   have := h.1.1 0 (by omega)
   rw [nameAt, hl] at this
   simp at this
 have HL0 := Lib.hid hl
 have key : (4 ≤ s.size ∧ ((s.extract 0 4).toList == [104, 101, 120, 58]) = true) ∨ (Lib.hasPrefix (bs s) (bs hexB) = false ∧ 4 ≤ s.size ∧ ((s.extract 0 4).toList == [104, 101, 120, 58]) = false) ∨ (Lib.hasPrefix (bs s) (bs hexB) = false ∧ s.size < 4) := by
   by_cases t4 : 4 ≤ s.size
   · cases hx : ((s.extract 0 4).toList == [104, 101, 120, 58])
     · exact .inr (.inl ⟨by rw [← hexQ t4, hx], t4, rfl⟩)
     · exact .inl ⟨t4, rfl⟩
   · exact .inr (.inr ⟨hexN (by omega), by omega⟩)
 rcases key with ⟨t4, hx⟩ | hk
 · have HX := Lib.hid hx
   go_enter Tryz.func52, Tryz.ntmps52
   go_wp2_with fail
   refine (refLetter_any _ w (by omega) (by omega)).mono ?_
   rintro e w1 ⟨rfl, rfl⟩
   rw [hl]
   go_wp2_with fail
   go_ret
   refine ⟨ret_bool (nameB_not fun h => ?_), rfl⟩
   have h2 := h.2
   rw [← hexQ t4, HX.out] at h2
   cases h2
 have HP := Lib.hid (show Lib.hasPrefix (bs s) (bs hexB) = false by rcases hk with h | h <;> exact h.1)
 have hk' : (4 ≤ s.size ∧ ((s.extract 0 4).toList == [104, 101, 120, 58]) = false) ∨ s.size < 4 := by rcases hk with h | h <;> simp [h.2]
 clear hk
 rcases hk' with ⟨t4, hx⟩ | t4
 all_goals
   go_enter Tryz.func52, Tryz.ntmps52
   go_wp2_with fail
   refine (refLetter_any _ w (by omega) (by omega)).mono ?_
   rintro e w1 ⟨rfl, rfl⟩
   rw [hl]
   go_wp2_with fail
   go_loop [30] (fun i => ∃ k : Nat, k ≤ s.size ∧ i = .int .i64 k ∧ (∀ i, (h : i < k) → (h' : i < s.size) → nameAt i s[i].toNat = true)) (fun i => s.size - (intOf i).toNat)
   case atStart => exact ⟨0, Nat.zero_le _, rfl, fun i h => by omega⟩
   case round =>
     obtain ⟨k, hk, rfl, hall⟩ := hrel
     have HA := Lib.hid hall
     clear hall
     by_cases hlt : k < s.size
     · have hbk : (s[k].toNat : Int) ≤ 255 := by have := s[k].toNat_lt; omega
       have HN : Hid (nameAt 1 s[k].toNat = true → nameAt k s[k].toNat = true) := by
         intro h1
         rcases Nat.eq_zero_or_pos k with rfl | hk0
         · simp [nameAt, HL0.out]
         · rw [nameAt_iff] at h1 ⊢
           rcases h1 with h1 | h1
           · exact .inl h1
           · exact .inr ⟨by omega, h1.2⟩
       have HM : Hid (nameAt 1 s[k].toNat = false → ¬ nameAt k s[k].toNat = true) := by
         intro h1
         rw [Bool.eq_false_iff, ne_eq, nameAt_iff] at h1
         rw [nameAt_iff]
         intro h2
         apply h1
         rcases h2 with h2 | h2
         · exact .inl h2
         · exact .inr ⟨by omega, h2.2⟩
       go_wp2_with fail
       refine (refInner_any _ w (by omega) (by omega)).mono ?_
       rintro e w1 ⟨rfl, rfl⟩
       by_cases hn : nameAt 1 s[k].toNat = true
       · have HN2 := Lib.hid (HN.out hn)
         rw [hn]
         go_wp2_with fail
         go_round
         case rel => exact ⟨k + 1, by omega, by go_num, fun i h h' => by
            rcases Nat.lt_or_ge i k with h1 | h1
            · exact HA.out i h1 h'
            · obtain rfl : i = k := by omega
              exact HN2.out⟩
         case measure => simp [intOf]; omega
       · simp only [Bool.not_eq_true] at hn
         have HN2 := Lib.hid (HM.out hn)
         rw [hn]
         go_wp2_with fail
         go_ret
         exact ⟨ret_bool (nameB_not fun h => HN2.out (h.1.1 k hlt)), rfl⟩
     · go_wp2_with fail
       go_ret
       refine ⟨ret_bool ?_, rfl⟩
       show true = _
       rw [eq_comm, nameB_iff]
       exact ⟨⟨fun i hi => HA.out i (by omega) hi, by omega, by omega⟩, HP.out⟩
end Go.Proofs.YtiplipdigabidaaGreat
