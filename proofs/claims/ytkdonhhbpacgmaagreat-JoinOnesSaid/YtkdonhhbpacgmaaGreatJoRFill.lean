/- viaticumref18.Fill. -/
import Derived.Test.YtkdonhhbpacgmaaGreatJoFill
import Derived.Test.YtkdonhhbpacgmaaGreatJoSame
import Derived.Test.YtkdonhhbpacgmaaGreatRe2
set_option linter.unusedVariables false
set_option linter.unusedSimpArgs false
namespace Go.Proofs.YtkdonhhbpacgmaaGreat
open Go.ChangeShapes Go.WideShapes Go.ChangeAt Go.RowKit
theorem TmAt.keep2 {D : Nat} {w w' : World} {x : SV} (h : TmAt D w x) (hb : Below 0 w w') (he : x.t.l ≠ [] → ∀ a, x.a = some a → w'.heap[a.block]? = w.heap[a.block]?) : TmAt D w' x := by
 by_cases hn : x.t.l = []
 · obtain ⟨⟨A, c, e, h1, h2, h3, h4, h5, h6⟩, hl⟩ := h
   exact ⟨⟨A, c, e, h1, h2, h3, h4, h5, fun h0 => absurd h0 (by rw [hn]; simp)⟩, hl⟩
 · exact h.keep hb (he hn)
structure StkB (base B D : Nat) (w : World) (xs : List SV) (A : Option Addr) (c : Nat) : Prop where
 own : OwnR SvR 44 w base 0 (.slice A xs.length c) xs
 tms : ∀ x ∈ xs, TmAt D w x
 sep : ∀ x ∈ xs, x.t.l ≠ [] → ∀ a, x.a = some a → ∀ b, A = some b → a.block ≠ b.block
 lt : ∀ x ∈ xs, x.t.l ≠ [] → ∀ a, x.a = some a → (a.block < B ∨ base ≤ a.block) ∧ a.block < w.heap.size
section
variable {base B D c : Nat} {w w' w2 : World} {xs : List SV} {x y : SV} {A : Option Addr}
theorem StkB.nil (base B D : Nat) (w : World) : StkB base B D w [] none 0 := ⟨OwnR.nil _ _ _ _ _, by simp, by simp, by simp⟩
theorem StkB.later (h : StkB base B D w xs A c) (hb : Below w.heap.size w w') : StkB base B D w' xs A c :=
 ⟨h.own.later hb (Nat.zero_le _), fun x hx => (h.tms x hx).later hb, h.sep, fun x hx hn a ha => ⟨(h.lt x hx hn a ha).1, Nat.lt_of_lt_of_le (h.lt x hx hn a ha).2 hb.size⟩⟩
theorem StkB.row (h : StkB base B D w xs A c) : ∀ b, A = some b → base ≤ b.block ∧ b.block < w.heap.size := by
 intro b hb
 subst hb
 obtain ⟨cells, how, _⟩ := h.own
 exact how.lt b.block rfl
theorem StkB.app (h : StkB base B D w xs A c) (hx : TmAt D w x) (hap : x.t.l ≠ [] → ∀ a, x.a = some a → ∀ b, A = some b → a.block ≠ b.block) (hlt : x.t.l ≠ [] → ∀ a, x.a = some a → (a.block < B ∨ base ≤ a.block) ∧ a.block < w.heap.size) (hbase : base ≤ w.heap.size)
   {A2 : Option Addr} {c2 : Nat} (ho : OwnR SvR 44 w2 base 0 (.slice A2 (xs.length + 1) c2) (xs ++ [x])) (hg : w.grownBy w2 (Value.slice A xs.length c).ownBlock) (hf : FreshV w (.slice A xs.length c) (.slice A2 (xs.length + 1) c2)) :
   StkB base B D w2 (xs ++ [x]) A2 c2 ∧ Below base w w2 := by
 have hb : Below base w w2 := (Below.refl base w).grown hg hbase (fun k hk => by
   obtain ⟨cells, how, _⟩ := h.own
   exact (how.lt k hk).1)
 have hb0 : Below 0 w w2 := hb.mono (Nat.zero_le _)
 have key : ∀ y, TmAt D w y → (y.t.l ≠ [] → ∀ a, y.a = some a → ∀ b, A = some b → a.block ≠ b.block) → (y.t.l ≠ [] → ∀ a, y.a = some a → (a.block < B ∨ base ≤ a.block) ∧ a.block < w.heap.size) → TmAt D w2 y ∧ (y.t.l ≠ [] → ∀ a, y.a = some a → ((a.block < B ∨ base ≤ a.block) ∧ a.block < w2.heap.size) ∧ ∀ b, A2 = some b → a.block ≠ b.block) := by
   intro y hy hs hl
   refine ⟨hy.keep2 hb0 fun hn a ha => hg.block _ (hl hn a ha).2 ?_, fun hn a ha => ⟨⟨(hl hn a ha).1, Nat.lt_of_lt_of_le (hl hn a ha).2 hb.size⟩, fun b hb2 e => ?_⟩⟩
   · intro e
     rcases hA : A with _ | b
     · rw [hA] at e; cases e
     · rw [hA] at e
       simp only [Value.ownBlock, Option.some.injEq] at e
       exact hs hn a ha b hA e
   · subst hb2
     rcases hf with hf | ⟨k, hk, hk2⟩
     · rcases hA : A with _ | a2
       · rw [hA] at hf; simp [Value.ownBlock] at hf
       · rw [hA] at hf
         simp only [Value.ownBlock, Option.some.injEq] at hf
         exact hs hn a ha a2 hA (e.trans hf)
     · simp only [Value.ownBlock, Option.some.injEq] at hk
       have := (hl hn a ha).2
       omega
 have hall : ∀ y ∈ xs ++ [x], TmAt D w2 y ∧ (y.t.l ≠ [] → ∀ a, y.a = some a → ((a.block < B ∨ base ≤ a.block) ∧ a.block < w2.heap.size) ∧ ∀ b, A2 = some b → a.block ≠ b.block) := by
   intro y hy
   rcases List.mem_append.1 hy with h1 | h1
   · exact key y (h.tms y h1) (h.sep y h1) (h.lt y h1)
   · rw [List.mem_singleton] at h1
     subst h1
     exact key y hx hap hlt
 refine ⟨⟨?_, fun y hy => (hall y hy).1, fun y hy hn a ha => ((hall y hy).2 hn a ha).2, fun y hy hn a ha => ((hall y hy).2 hn a ha).1⟩, hb⟩
 rw [List.length_append, List.length_singleton]
 exact ho
theorem StkB.far {g : Nat} (h : StkB base B D w xs A c) (hB : B ≤ g) (hg : g < base) (i : Nat) (u : Value) : StkB base B D (w.setCell ⟨g, i, none⟩ u) xs A c :=
 ⟨h.own.far hg (Nat.zero_le _) u, fun x hx => (h.tms x hx).keep2 ((Below.refl 0 w).setCell (p := ⟨g, i, none⟩) (Nat.zero_le _) u) fun hn a ha => Below.heap_setCell w ⟨g, i, none⟩ u a.block (by have := (h.lt x hx hn a ha).1; show a.block ≠ g; omega), h.sep, fun x hx hn a ha => by rw [World.size_setCell]; exact h.lt x hx hn a ha⟩
def StkLB (g : Nat) (xs : List SV) (A : Option Addr) : Prop := (∀ b, A = some b → b.block < g) ∧ ∀ x ∈ xs, x.t.l ≠ [] → ∀ a, x.a = some a → a.block < g
theorem StkB.low {g : Nat} (h : StkB base B D w xs A c) (hg : w.heap.size ≤ g) : StkLB g xs A :=
 ⟨fun b hb => Nat.lt_of_lt_of_le (h.row b hb).2 hg, fun x hx hn a ha => Nat.lt_of_lt_of_le (h.lt x hx hn a ha).2 hg⟩
theorem StkB.up {g : Nat} (h : StkB base B D w xs A c) (hl : StkLB g xs A) (i : Nat) (u : Value) : StkB base B D (w.setCell ⟨g, i, none⟩ u) xs A c := by
 refine ⟨h.own.farN (fun e => ?_) i u, fun x hx => (h.tms x hx).keep2 ((Below.refl 0 w).setCell (p := ⟨g, i, none⟩) (Nat.zero_le _) u) fun hn a ha => Below.heap_setCell w ⟨g, i, none⟩ u a.block (by have := hl.2 x hx hn a ha; show a.block ≠ g; omega), h.sep, fun x hx hn a ha => by rw [World.size_setCell]; exact h.lt x hx hn a ha⟩
 rcases hA : A with _ | b
 · rw [hA] at e; cases e
 · rw [hA] at e
   simp only [Value.ownBlock, Option.some.injEq] at e
   have := hl.1 b hA
   omega
theorem StkB.reads (h : StkB base B D w xs A c) (hn : xs.length ≤ 1000000) : RSl (TmR (D + 1)) w w.heap.size (xs.map SV.t) (.slice A xs.length c) := by
 obtain ⟨A3, c3, e3, h1, h2, r3⟩ := h.own.reads (Nat.zero_le _) (by show xs.length * (8 * 4) ≤ _; omega)
 simp only [Value.slice.injEq] at e3
 obtain ⟨rfl, _, rfl⟩ := e3
 refine ⟨A, c, by rw [List.length_map], by rw [List.length_map]; exact h1, ⟨by rw [List.length_map]; show xs.length * (8 * 4) ≤ _; omega, h2.2⟩, ?_⟩
 intro h0
 rw [List.length_map] at h0
 obtain ⟨b, off, e, hb, hc⟩ := r3 h0
 refine ⟨b, off, e, hb, fun i hi => ?_⟩
 rw [List.length_map] at hi
 obtain ⟨vs, hl, ⟨x, hx, hr⟩, hv⟩ := hc i hi
 obtain rfl : vs = x.cs := hr
 exact ⟨x.cs, hl, ⟨x.t, by rw [List.getElem?_map, hx]; rfl, (h.tms x (List.mem_of_getElem? hx)).1⟩, hv⟩
end
def FillRE (d : Nat) (w w' : World) (r : Option Pr) (z : Ending) : Prop := (∃ A c, z = .returned (.tuple #[.agg #[.string (r.getD noPr).name, .slice A (r.getD noPr).terms.length c], .bool r.isSome]) ∧ RSl (TmR (d + 1)) w' w'.heap.size (r.getD noPr).terms (.slice A (r.getD noPr).terms.length c)) ∧ Below w.heap.size w w'
theorem FillRE.no {d : Nat} {w w' : World} (h : Below w.heap.size w w') : FillRE d w w' none (.returned (.tuple #[.agg #[.string ⟨#[]⟩, .slice none 0 0], .bool false])) :=
 ⟨⟨none, 0, rfl, none, 0, rfl, by simp [noPr], by simp [noPr], fun h => absurd h (by simp [noPr])⟩, h⟩
set_option maxRecDepth 100000 in
set_option maxHeartbeats 8000000 in
theorem refFill_any {d B cn ct : Nat} {p : Pr} {b : Bd} {vp : List Value} {An At : Option Addr} {w : World} (hp : (PrR (d + 1)).rd w B p vp) (hn : RL StrR w B (b.names.map mkS) An) (ht : RL (TmR (d + 1)) w B b.terms At) (hB : B ≤ w.heap.size) :
   Calls Tryz.prog 11 #[.agg vp.toArray, .agg (bdV An b.names.length cn At b.terms.length ct)] w fun z w' => FillRE d w w' (fillR p b) z := by
 have HP := Lib.hid hp
 have HN := Lib.hid hn
 have HT := Lib.hid ht
 obtain ⟨_, rfl, hps, Ap, cp, rfl, hp1, hp2, hpl⟩ := hp
 have HPL := Lib.hid hpl
 obtain ⟨i0, hi0, hz0, hz1, hz2⟩ := info_parts infoTm
 clear hn ht hpl
 unfold bdV
 go_enter Tryz.func11, Tryz.ntmps11
 go_wp2_with fail
 generalize hW : World.alloc _ _ = w1
 obtain ⟨hb, hz⟩ := al3 hW
 have b_p_1 := n31 hW
 have b_b_1 := n32 hW
 have b_r_1 := n33 hW
 have HB1 := Lib.hid hb
 clear hW hz hb
 refine (refMayPred_any (d := d + 1) (vs := [_, _]) ((PrR (d + 1)).keep HB1.out hB HP.out) (Nat.le_trans hB HB1.out.size)).mono ?_
 rintro x w2 ⟨rfl, hb⟩
 have b_p_2 := b_p_1.later hb
 have b_b_2 := b_b_1.later hb
 have b_r_2 := b_r_1.later hb
 have HB2 := Lib.hid (bthen HB1.out hb)
 clear b_p_1 b_b_1 b_r_1
 clear hb
 by_cases h1 : mayPredB p = true
 · have H1 := Lib.hid h1
   rw [h1]
   clear h1
   have k_p := b_p_2.cell
   have l_p := b_p_2.lt
   have k_b := b_b_2.cell
   have l_b := b_b_2.lt
   have k_r := b_r_2.cell
   have l_r := b_r_2.lt
   go_wp2_with fail
   clear k_p l_p k_b l_b k_r l_r
   refine (refMayBind_any (d := d) (cn := cn) (ct := ct) (HN.out.keep HB2.out hB) (HT.out.keep HB2.out hB) (Nat.le_trans hB HB2.out.size)).mono ?_
   rintro x w3 ⟨rfl, hb⟩
   have b_p_3 := b_p_2.later hb
   have b_b_3 := b_b_2.later hb
   have b_r_3 := b_r_2.later hb
   have HB3 := Lib.hid (bthen HB2.out hb)
   clear b_p_2 b_b_2 b_r_2
   clear hb
   by_cases h2 : bindB b = true
   · have H2 := Lib.hid h2
     rw [h2]
     clear h2
     have HMT := Lib.hid (may_terms H1.out)
     have hp8 := HMT.out.1
     have HOKN := Lib.hid (bindB_iff.1 H2.out)
     have hn32 := HOKN.out.2
     have HYES : Hid (∀ zs, fillL b p.terms = some zs → fillR p b = some ⟨p.name, zs⟩) := Lib.hid (fun zs hz => by unfold fillR; rw [if_pos ⟨H1.out, H2.out⟩, hz])
     have HNON : Hid (fillL b p.terms = none → fillR p b = none) := Lib.hid (fun hz => by unfold fillR; rw [if_pos ⟨H1.out, H2.out⟩, hz])
     have k_p := b_p_3.cell
     have l_p := b_p_3.lt
     have k_b := b_b_3.cell
     have l_b := b_b_3.lt
     have k_r := b_r_3.cell
     have l_r := b_r_3.lt
     go_upto_region 4 with fail
     clear k_p l_p k_b l_b k_r l_r
     have hlr3 := b_r_3.lt
     generalize hW : World.alloc _ _ = w4
     obtain ⟨hb, hz⟩ := al1 hW
     have b_o_4 := n11 hW
     have b_p_4 := b_p_3.later hb
     have b_b_4 := b_b_3.later hb
     have b_r_4 := b_r_3.later hb
     have HB4 := Lib.hid (bthen HB3.out hb)
     clear b_p_3 b_b_3 b_r_3
     clear hW hz hb
     have k_p := b_p_4.cell
     have l_p := b_p_4.lt
     have k_b := b_b_4.cell
     have l_b := b_b_4.lt
     have k_r := b_r_4.cell
     have l_r := b_r_4.lt
     have k_o := b_o_4.cell
     have l_o := b_o_4.lt
     go_upto_region 5 with fail
     clear k_p l_p k_b l_b k_r l_r k_o l_o
     have HBB := Lib.hid b_b_4
     have HBR := Lib.hid b_r_4
     have HBO := Lib.hid b_o_4
     have HW := Lib.hid HB4.out
     have hlo := b_o_4.lt
     have hlr := b_r_4.lt
     have hsp := HB3.out.size
     clear b_p_4 b_b_4 b_r_4 b_o_4
     go_loopw [26] (fun i wr => ∃ (k : Nat) (xs : List SV) (A : Option Addr) (c : Nat), k ≤ p.terms.length ∧ i = .int .i64 k ∧ xs.length = k ∧ Hid (fillL b (p.terms.take k) = some (xs.map SV.t)) ∧ Hid (Below w.heap.size w wr) ∧ Hid (w4.heap.size ≤ wr.heap.size) ∧ Hid (Blk wr (w.heap.size + 1) #[.slice An b.names.length cn, .slice At b.terms.length ct]) ∧ Hid (Blk wr (w.heap.size + 1 + 1) #[.string ⟨#[]⟩, .slice none 0 0]) ∧ Hid (Blk wr w3.heap.size #[.string p.name, .slice A k c]) ∧ Hid (StkB w4.heap.size B d wr xs A c)) (fun i _ => p.terms.length - (intOf i).toNat)
     case atStart => exact ⟨0, [], none, 0, Nat.zero_le _, rfl, rfl, Lib.hid rfl, HW, Lib.hid (Nat.le_refl _), HBB, HBR, HBO, Lib.hid (StkB.nil _ _ _ _)⟩
     case round =>
       clear HBB HBR HBO
       obtain ⟨k, xs, A, c, hk, rfl, hxl, HXT, HWR, HSZ, HBB, HBR, HBO, HST⟩ := hrel
       subst hxl
       have hszr := HWR.out.size
       have hszw := HSZ.out
       have hBr : B ≤ wr.heap.size := by omega
       by_cases hlt : xs.length < p.terms.length
       · have HPL1 := Lib.hid (HPL.out.keep HWR.out hB)
         obtain ⟨b_, off, rfl, hob⟩ := HPL1.out.base (Below.refl _ _) hBr (by omega)
         obtain ⟨x, vs, hx, hlen, hcell, hr⟩ := HPL1.out.at_ (Below.refl _ _) hBr hlt
         have HX := Lib.hid hr
         obtain ⟨Ax, cx, rfl, g1, g2, g3, g4, g5, g6⟩ := RTm.cells (show RTm wr B (d + 1) x vs from hr)
         have HXA : Hid (∀ a, Ax = some a → x.l ≠ [] → a.block < B) := Lib.hid (fun a ha hne => by
           obtain ⟨b9, o9, e9, h9, _⟩ := g6 (List.length_pos_iff.2 hne)
           rw [ha] at e9
           simp only [Option.some.injEq] at e9
           subst e9; exact h9)
         have c0 : wr.cell? ⟨b_, off + xs.length * 4, none⟩ = some (.int .i64 x.kind) := hcell 0 _ rfl
         have c1 : wr.cell? ⟨b_, off + xs.length * 4 + 1, none⟩ = some (.int .i64 x.n) := hcell 1 _ rfl
         have c2 : wr.cell? ⟨b_, off + xs.length * 4 + 2, none⟩ = some (.string x.s) := hcell 2 _ rfl
         have c3 : wr.cell? ⟨b_, off + xs.length * 4 + 3, none⟩ = some (.slice Ax x.l.length cx) := hcell 3 _ rfl
         have HXE : Hid (p.terms[xs.length] = x) := Lib.hid (by rw [List.getElem?_eq_getElem hlt] at hx; simpa using hx)
         have HXI : Hid (x ∈ p.terms) := Lib.hid (List.mem_of_getElem? hx)
         have HXM : Hid (mayB x = true) := Lib.hid (HMT.out.2 x HXI.out)
         clear hcell hlen hx hr g1 g2 g3 g4 g5 g6
         go_upto_region 7 with fail
         generalize hW : World.alloc _ _ = v4
         obtain ⟨hb4, hz4⟩ := al1 hW
         have HBT4 := Lib.hid (n11 hW)
         have HLB := Lib.hid (HST.out.low (Nat.le_refl _))
         have HW4 := Lib.hid hb4
         have HB4 : Hid (Below w.heap.size w v4) := Lib.hid (HWR.out.trans (hb4.mono hszr))
         have HBB4 := Lib.hid (HBB.out.later hb4)
         have HBR4 := Lib.hid (HBR.out.later hb4)
         have HBO4 := Lib.hid (HBO.out.later hb4)
         have HST4 := Lib.hid (HST.out.later hb4)
         have HX4 := Lib.hid (RTm.below hb4 hBr HX.out)
         have hB4 : B ≤ v4.heap.size := by omega
         have hsz4 := hb4.size
         have hlt4 := HBT4.out.lt
         have HLQ := Lib.hid hlt4
         clear hW hb4 hz4 c0 c1 c2 c3
         by_cases hv : x.kind = 1
         rotate_left
         · have hk1 : (x.kind == 1) = false := by simpa using hv
           have HFX : Hid (fixedB x = true) := Lib.hid (by unfold fixedB; rw [HXM.out]; simpa using hv)
           have HFILL : Hid (fill1 b p.terms[xs.length] = some x) := Lib.hid (by rw [HXE.out]; unfold fill1; rw [if_neg hv])
           clear hv
           have HTA : Hid (TmAt d v4 ⟨x, Ax, cx⟩) := Lib.hid ⟨RTm.more hB4 HX4.out, (fixed_leaves HFX.out).1⟩
           have HLT : Hid (x.l ≠ [] → ∀ a, Ax = some a → (a.block < B ∨ w4.heap.size ≤ a.block) ∧ a.block < v4.heap.size) := Lib.hid (fun hn a ha => ⟨.inl (HXA.out a ha hn), by have := HXA.out a ha hn; omega⟩)
           have HAPT : Hid (x.l ≠ [] → ∀ a, Ax = some a → ∀ b, A = some b → a.block ≠ b.block) := Lib.hid (fun hn a ha b hb => by
             have h1 := HXA.out a ha hn
             have h2 := (HST.out.row b hb).1
             omega)
           have HBT := HBT4
           have HBO := HBO4
           have HBB := HBB4
           have HBR := HBR4
           have HST := HST4
           have HB := HB4
           have HSW := Lib.hid hsz4
           have k_t := HBT4.out.cell
           have l_t := HBT4.out.lt
           go_upto_region 12 with fail
           clear k_t l_t
           have k_t := HBT.out.cell
           have l_t := HBT.out.lt
           have k_o := HBO.out.cell
           have l_o := HBO.out.lt
           have hszW := HSW.out
           have HB8 := Lib.hid ((Below.refl v4.heap.size v4).alloc (Nat.le_refl _) (.cells #[.int .i64 x.kind, .int .i64 x.n, .string x.s, .slice Ax x.l.length cx] 44 (0, 0)))
           go_wp2_with ((
             at_builtin
             refine wpList_append_F (R := SvR) (e := 44) (base := w4.heap.size) (xs := xs) (ys := [⟨x, Ax, cx⟩]) rfl (.tmp 45) (.tmp 47) 22 rfl (bytes := 56) Tryz.underlying22 hi0 hz0 hz1 hz2 rfl (show 0 < 4 by omega) single_sv rfl (HST.out.own.later HB8.out (Nat.zero_le _)) rfl (sv_src (x := ⟨x, Ax, cx⟩) hp11) rfl (by simp only [List.length_cons, List.length_nil]; omega) (by omega) (by rw [World.size_alloc]; omega) ?_
             intro v wn_ hown hg hf
             obtain ⟨An2, cn2, hv⟩ : ∃ A c, v = .slice A (xs.length + 1) c := by have := hown.form; rwa [List.length_append, List.length_singleton] at this
             subst hv
             have happ := (HST.out.later HB8.out).app (x := ⟨x, Ax, cx⟩) (HTA.out.later HB8.out) HAPT.out (fun hn a ha => ⟨(HLT.out hn a ha).1, Nat.lt_of_lt_of_le (HLT.out hn a ha).2 HB8.out.size⟩) (by rw [World.size_alloc]; omega) hown hg hf
             have HAP := Lib.hid happ.1
             have hne : ∀ g, g < w4.heap.size → some g ≠ (Value.slice A xs.length c).ownBlock := fun g hg => (HST.out.own.own_ge hg).symm
             have HBO9 := Lib.hid ((HBO.out.later HB8.out).grown hg (hne _ (by omega)))
             have HBB9 := Lib.hid ((HBB.out.later HB8.out).grown hg (hne _ (by omega)))
             have HBR9 := Lib.hid ((HBR.out.later HB8.out).grown hg (hne _ (by omega)))
             have HWR9 : Hid (Below w.heap.size w wn_) := Lib.hid ((HB.out.trans (HB8.out.mono (by omega))).trans (happ.2.mono (by omega)))
             have HSZ9 : Hid (w4.heap.size ≤ wn_.heap.size) := Lib.hid (by have h := happ.2.size; rw [World.size_alloc] at h; omega)
             have f_o := HBO9.out.free
             have k_o9 := HBO9.out.cell
             clear hown hg hf happ hne))
           go_roundw
           case rel => exact ⟨xs.length + 1, xs ++ [⟨x, Ax, cx⟩], An2, cn2, by omega, by go_num, by rw [List.length_append, List.length_singleton], Lib.hid (by rw [List.map_append, List.map_singleton, ← List.take_append_getElem hlt]; exact fillL_snoc HXT.out HFILL.out), Lib.hid (HWR9.out.setCell (p := ⟨w3.heap.size, 1, none⟩) (by omega) _), Lib.hid (by rw [World.size_setCell]; exact HSZ9.out), Lib.hid (HBB9.out.far (c := w3.heap.size) (by omega) 1 _), Lib.hid (HBR9.out.far (c := w3.heap.size) (by omega) 1 _), Lib.hid (HBO9.out.set_ 1 _), Lib.hid (HAP.out.far (by omega) (by omega) 1 _)⟩
           case measure => simp [intOf]; omega
         have hk1 : (x.kind == 1) = true := by simpa using hv
         have HV := Lib.hid hv
         clear hv
         have k_t := HBT4.out.cell
         have l_t := HBT4.out.lt
         have k_b := HBB4.out.cell
         have l_b := HBB4.out.lt
         go_wp2_with fail
         refine (refLook_any (d := d) (cn := cn) (ct := ct) (HN.out.keep HB4.out hB) (HT.out.keep HB4.out hB) hB4 (by omega)).mono ?_
         rintro e v5 ⟨⟨Au, cu, rfl, htm⟩, hb5⟩
         have HTM := Lib.hid htm
         have HB5 := Lib.hid (bthen HB4.out hb5)
         have HBT5 := Lib.hid (HBT4.out.later hb5)
         have HBB5 := Lib.hid (HBB4.out.later hb5)
         have HBR5 := Lib.hid (HBR4.out.later hb5)
         have HBO5 := Lib.hid (HBO4.out.later hb5)
         have HST5 := Lib.hid (HST4.out.later hb5)
         have hsz5 := hb5.size
         clear k_t l_t k_b l_b htm hb5
         have HLK : Hid (fill1 b x = lookR b (bs x.s)) := Lib.hid (by unfold fill1; rw [if_pos HV.out])
         rw [if_pos H2.out] at HTM ⊢
         rcases hl : lookR b (bs x.s) with _ | u
         · have HNO : Hid (fillR p b = none) := Lib.hid (HNON.out (fillL_none HXI.out (HLK.out.trans hl)))
           rw [hl] at HTM
           clear HTM hl
           simp only [Option.getD_none, Option.isSome_none]
           go_upto_region 9 with fail
           generalize hW : World.alloc _ _ = v6
           obtain ⟨hb6, hz6⟩ := al1 hW
           have HB6 := Lib.hid (bthen HB5.out hb6)
           have HBR6 := Lib.hid (HBR5.out.later hb6)
           clear hW hb6 hz6
           have k_r := HBR6.out.cell
           have l_r := HBR6.out.lt
           have f_r := HBR6.out.free
           go_wp2_with fail
           refine bodyPost_ret (ret_pr2 rfl rfl (put2b HBR6.out (.string ⟨#[]⟩) (.slice none 0 0)) rfl) rfl ?_
           rw [HNO.out]
           exact FillRE.no (put2u HB6.out (by omega) _ _)
         · rw [hl] at HTM
           have HFILL : Hid (fill1 b p.terms[xs.length] = some u) := Lib.hid (by rw [HXE.out]; exact HLK.out.trans hl)
           clear hl
           simp only [Option.getD_some, Option.isSome_some] at HTM ⊢
           go_upto_region 9 with fail
           generalize hW : World.alloc _ _ = v6
           obtain ⟨hb6, hz6⟩ := al1 hW
           have HBU6 := Lib.hid (n11 hW)
           have HB6 := Lib.hid (bthen HB5.out hb6)
           have HTM6 := Lib.hid (HTM.out.later hb6)
           have HBT6 := Lib.hid (HBT5.out.later hb6)
           have HBB6 := Lib.hid (HBB5.out.later hb6)
           have HBR6 := Lib.hid (HBR5.out.later hb6)
           have HBO6 := Lib.hid (HBO5.out.later hb6)
           have HST6 := Lib.hid (HST5.out.later hb6)
           have hsz6 := hb6.size
           clear hW hb6 hz6
           have k_t := HBT6.out.cell
           have l_t := HBT6.out.lt
           have f_t := HBT6.out.free
           have k_u := HBU6.out.cell
           have l_u := HBU6.out.lt
           go_upto_region 12 with fail
           clear k_t l_t f_t k_u l_u
           have HBT := Lib.hid (put4b HBT6.out (.int .i64 u.kind) (.int .i64 u.n) (.string u.s) (.slice Au u.l.length cu))
           have HBO := Lib.hid ((((HBO6.out.far (c := wr.heap.size) (by omega) 0 (.int .i64 u.kind)).far (c := wr.heap.size) (by omega) 1 (.int .i64 u.n)).far (c := wr.heap.size) (by omega) 2 (.string u.s)).far (c := wr.heap.size) (by omega) 3 (.slice Au u.l.length cu))
           have HBB := Lib.hid ((((HBB6.out.far (c := wr.heap.size) (by omega) 0 (.int .i64 u.kind)).far (c := wr.heap.size) (by omega) 1 (.int .i64 u.n)).far (c := wr.heap.size) (by omega) 2 (.string u.s)).far (c := wr.heap.size) (by omega) 3 (.slice Au u.l.length cu))
           have HBR := Lib.hid ((((HBR6.out.far (c := wr.heap.size) (by omega) 0 (.int .i64 u.kind)).far (c := wr.heap.size) (by omega) 1 (.int .i64 u.n)).far (c := wr.heap.size) (by omega) 2 (.string u.s)).far (c := wr.heap.size) (by omega) 3 (.slice Au u.l.length cu))
           have HB : Hid (Below w.heap.size w ((((v6.setCell ⟨wr.heap.size, 0, none⟩ (.int .i64 u.kind)).setCell ⟨wr.heap.size, 1, none⟩ (.int .i64 u.n)).setCell ⟨wr.heap.size, 2, none⟩ (.string u.s)).setCell ⟨wr.heap.size, 3, none⟩ (.slice Au u.l.length cu))) := Lib.hid (put4u HB6.out (by omega) (.int .i64 u.kind) (.int .i64 u.n) (.string u.s) (.slice Au u.l.length cu))
           have HST : Hid (StkB w4.heap.size B d ((((v6.setCell ⟨wr.heap.size, 0, none⟩ (.int .i64 u.kind)).setCell ⟨wr.heap.size, 1, none⟩ (.int .i64 u.n)).setCell ⟨wr.heap.size, 2, none⟩ (.string u.s)).setCell ⟨wr.heap.size, 3, none⟩ (.slice Au u.l.length cu)) xs A c) := Lib.hid ((((HST6.out.up HLB.out 0 _).up HLB.out 1 _).up HLB.out 2 _).up HLB.out 3 _)
           have HTM7 := Lib.hid (HTM6.out.put4 (g := wr.heap.size) (by omega) (.int .i64 u.kind) (.int .i64 u.n) (.string u.s) (.slice Au u.l.length cu))
           have HTA : Hid (TmAt d ((((v6.setCell ⟨wr.heap.size, 0, none⟩ (.int .i64 u.kind)).setCell ⟨wr.heap.size, 1, none⟩ (.int .i64 u.n)).setCell ⟨wr.heap.size, 2, none⟩ (.string u.s)).setCell ⟨wr.heap.size, 3, none⟩ (.slice Au u.l.length cu)) ⟨u, Au, cu⟩) := Lib.hid HTM7.out.at_
           have HLT : Hid (u.l ≠ [] → ∀ a, Au = some a → (a.block < B ∨ w4.heap.size ≤ a.block) ∧ a.block < (((((v6.setCell ⟨wr.heap.size, 0, none⟩ (.int .i64 u.kind)).setCell ⟨wr.heap.size, 1, none⟩ (.int .i64 u.n)).setCell ⟨wr.heap.size, 2, none⟩ (.string u.s)).setCell ⟨wr.heap.size, 3, none⟩ (.slice Au u.l.length cu))).heap.size) := Lib.hid (fun hn a ha => ⟨.inr (by have := (HTM7.out.blk a ha).1; omega), (HTM7.out.blk a ha).2⟩)
           have HAPT : Hid (u.l ≠ [] → ∀ a, Au = some a → ∀ b, A = some b → a.block ≠ b.block) := Lib.hid (fun hn a ha b hb => by
             have h1 := (HTM7.out.blk a ha).1
             have h2 := HLB.out.1 b hb
             omega)
           have HSW : Hid (wr.heap.size ≤ (((((v6.setCell ⟨wr.heap.size, 0, none⟩ (.int .i64 u.kind)).setCell ⟨wr.heap.size, 1, none⟩ (.int .i64 u.n)).setCell ⟨wr.heap.size, 2, none⟩ (.string u.s)).setCell ⟨wr.heap.size, 3, none⟩ (.slice Au u.l.length cu))).heap.size) := Lib.hid (by simp only [World.size_setCell]; omega)
           generalize ((((v6.setCell ⟨wr.heap.size, 0, none⟩ (.int .i64 u.kind)).setCell ⟨wr.heap.size, 1, none⟩ (.int .i64 u.n)).setCell ⟨wr.heap.size, 2, none⟩ (.string u.s)).setCell ⟨wr.heap.size, 3, none⟩ (.slice Au u.l.length cu)) = v7 at *
           have k_t := HBT.out.cell
           have l_t := HBT.out.lt
           have k_o := HBO.out.cell
           have l_o := HBO.out.lt
           have hszW := HSW.out
           have HB8 := Lib.hid ((Below.refl v7.heap.size v7).alloc (Nat.le_refl _) (.cells #[.int .i64 u.kind, .int .i64 u.n, .string u.s, .slice Au u.l.length cu] 44 (0, 0)))
           go_wp2_with ((
             at_builtin
             refine wpList_append_F (R := SvR) (e := 44) (base := w4.heap.size) (xs := xs) (ys := [⟨u, Au, cu⟩]) rfl (.tmp 45) (.tmp 47) 22 rfl (bytes := 56) Tryz.underlying22 hi0 hz0 hz1 hz2 rfl (show 0 < 4 by omega) single_sv rfl (HST.out.own.later HB8.out (Nat.zero_le _)) rfl (sv_src (x := ⟨u, Au, cu⟩) hp11) rfl (by simp only [List.length_cons, List.length_nil]; omega) (by omega) (by rw [World.size_alloc]; omega) ?_
             intro v wn_ hown hg hf
             obtain ⟨An2, cn2, hv⟩ : ∃ A c, v = .slice A (xs.length + 1) c := by have := hown.form; rwa [List.length_append, List.length_singleton] at this
             subst hv
             have happ := (HST.out.later HB8.out).app (x := ⟨u, Au, cu⟩) (HTA.out.later HB8.out) HAPT.out (fun hn a ha => ⟨(HLT.out hn a ha).1, Nat.lt_of_lt_of_le (HLT.out hn a ha).2 HB8.out.size⟩) (by rw [World.size_alloc]; omega) hown hg hf
             have HAP := Lib.hid happ.1
             have hne : ∀ g, g < w4.heap.size → some g ≠ (Value.slice A xs.length c).ownBlock := fun g hg => (HST.out.own.own_ge hg).symm
             have HBO9 := Lib.hid ((HBO.out.later HB8.out).grown hg (hne _ (by omega)))
             have HBB9 := Lib.hid ((HBB.out.later HB8.out).grown hg (hne _ (by omega)))
             have HBR9 := Lib.hid ((HBR.out.later HB8.out).grown hg (hne _ (by omega)))
             have HWR9 : Hid (Below w.heap.size w wn_) := Lib.hid ((HB.out.trans (HB8.out.mono (by omega))).trans (happ.2.mono (by omega)))
             have HSZ9 : Hid (w4.heap.size ≤ wn_.heap.size) := Lib.hid (by have h := happ.2.size; rw [World.size_alloc] at h; omega)
             have f_o := HBO9.out.free
             have k_o9 := HBO9.out.cell
             clear hown hg hf happ hne))
           go_roundw
           case rel => exact ⟨xs.length + 1, xs ++ [⟨u, Au, cu⟩], An2, cn2, by omega, by go_num, by rw [List.length_append, List.length_singleton], Lib.hid (by rw [List.map_append, List.map_singleton, ← List.take_append_getElem hlt]; exact fillL_snoc HXT.out HFILL.out), Lib.hid (HWR9.out.setCell (p := ⟨w3.heap.size, 1, none⟩) (by omega) _), Lib.hid (by rw [World.size_setCell]; exact HSZ9.out), Lib.hid (HBB9.out.far (c := w3.heap.size) (by omega) 1 _), Lib.hid (HBR9.out.far (c := w3.heap.size) (by omega) 1 _), Lib.hid (HBO9.out.set_ 1 _), Lib.hid (HAP.out.far (by omega) (by omega) 1 _)⟩
           case measure => simp [intOf]; omega
       · have HXL : Hid (xs.length = p.terms.length) := Lib.hid (by omega)
         have HRS : Hid (fillR p b = some ⟨p.name, xs.map SV.t⟩) := Lib.hid (HYES.out _ (by have := HXT.out; rw [HXL.out, List.take_length] at this; exact this))
         have k_o := HBO.out.cell
         have l_o := HBO.out.lt
         have k_r := HBR.out.cell
         have f_r := HBR.out.free
         have l_r := HBR.out.lt
         go_wp2_with fail
         refine bodyPost_ret (ret_pr2 rfl rfl (put2b HBR.out (.string p.name) (.slice A xs.length c)) rfl) rfl ?_
         rw [HRS.out]
         have hS := ((HST.out.far (g := w.heap.size + 1 + 1) (by omega) (by omega) 0 (.string p.name)).far (g := w.heap.size + 1 + 1) (by omega) (by omega) 1 (.slice A xs.length c)).reads (by omega)
         refine ⟨⟨A, c, by simp, ?_⟩, put2u HWR.out (by omega) _ _⟩
         have e : ((some (⟨p.name, xs.map SV.t⟩ : Pr)).getD noPr).terms = xs.map SV.t := rfl
         rw [e, List.length_map]
         exact hS
   · simp only [Bool.not_eq_true] at h2
     rw [h2]
     have HNO : Hid (fillR p b = none) := Lib.hid (by unfold fillR; rw [if_neg]; rintro ⟨q1, q2⟩; simp [h2] at *)
     have k_p := b_p_3.cell
     have l_p := b_p_3.lt
     have k_b := b_b_3.cell
     have l_b := b_b_3.lt
     have k_r := b_r_3.cell
     have l_r := b_r_3.lt
     have f_r := b_r_3.free
     have b_R := Lib.hid b_r_3
     go_wp2_with fail
     refine bodyPost_ret (ret_pr2 rfl rfl (put2b b_R.out (.string ⟨#[]⟩) (.slice none 0 0)) rfl) rfl ?_
     rw [HNO.out]
     exact FillRE.no (put2u HB3.out (by omega) _ _)
 · simp only [Bool.not_eq_true] at h1
   rw [h1]
   have HNO : Hid (fillR p b = none) := Lib.hid (by unfold fillR; rw [if_neg]; rintro ⟨q1, q2⟩; simp [h1] at *)
   have k_p := b_p_2.cell
   have l_p := b_p_2.lt
   have k_b := b_b_2.cell
   have l_b := b_b_2.lt
   have k_r := b_r_2.cell
   have l_r := b_r_2.lt
   have f_r := b_r_2.free
   have b_R := Lib.hid b_r_2
   go_wp2_with fail
   refine bodyPost_ret (ret_pr2 rfl rfl (put2b b_R.out (.string ⟨#[]⟩) (.slice none 0 0)) rfl) rfl ?_
   rw [HNO.out]
   exact FillRE.no (put2u HB2.out (by omega) _ _)
end Go.Proofs.YtkdonhhbpacgmaaGreat
