/- viaticumlaw12.ExprNots. -/
import Derived.Test.YtiplipdigabidaaGreatAwake12
import Derived.Test.YtiplipdigabidaaGreatLight12
import Derived.RegionTactic
import Derived.Deep.RegionHeld3
import Derived.Deep.RegionLaw
import Derived.Deep.DeepCutAuto
set_option linter.unusedVariables false
set_option linter.unusedSimpArgs false
namespace Go.Proofs.YtiplipdigabidaaGreat
open Go.ChangeShapes Go.WideShapes Go.ChangeAt Go.RowKit

theorem true_cases {r : Tm × Int} {x : Bool} {f : Int} (h : trueT r = (x, f)) : (f ≠ 0 ∧ x = false ∧ (r.2 = f ∨ (r.2 = 0 ∧ f = 7))) ∨ (f = 0 ∧ r.2 = 0 ∧ r.1.kind = 6 ∧ x = decide (r.1.n = 1)) := by
  unfold trueT at h
  split at h
  · rename_i h1
    simp only [Prod.mk.injEq] at h
    exact .inl ⟨h.2 ▸ h1, h.1.symm, .inl h.2⟩
  · rename_i h1
    have h1 : r.2 = 0 := by simpa using h1
    split at h
    · simp only [Prod.mk.injEq] at h
      exact .inl ⟨by omega, h.1.symm, .inr ⟨h1, h.2.symm⟩⟩
    · rename_i h2
      simp only [Prod.mk.injEq] at h
      exact .inr ⟨h.2.symm, h1, by simpa using h2, h.1.symm⟩
theorem evalE_of {b : Bd} {l : List OpD} (h : mayExprB l = true) (hb : bindB b = true) : evalE b l = evalT b l := by unfold evalE; rw [h, hb]; rfl
theorem nots_lawE {b : Bd} {l : List OpD} (hb : bindB b = true) (h : mayExprB l = true) (h30 : l.length ≤ 30) : trueT (evalE b (l ++ [notO, notO])) = trueT (evalE b l) := by
  rw [evalE_of h hb, evalE_of (may_nots h h30) hb]
  exact nots_law hb h h30
theorem hp31 {w : World} {o1 o2 o3 : Obj} : (((w.alloc o1).alloc o2).alloc o3).heap[w.heap.size]? = some o1 := (Below.heap_alloc _ _ _ (by simp; omega)).trans hp21
theorem hp32 {w : World} {o1 o2 o3 : Obj} : (((w.alloc o1).alloc o2).alloc o3).heap[w.heap.size + 1]? = some o2 := (Below.heap_alloc _ _ _ (by simp)).trans hp22
theorem hp33 {w : World} {o1 o2 o3 : Obj} : (((w.alloc o1).alloc o2).alloc o3).heap[w.heap.size + 2]? = some o3 := by
  have := hp11 (w := (w.alloc o1).alloc o2) (o1 := o3)
  rwa [World.size_alloc, World.size_alloc] at this
theorem infoOp : (Tryz.prog.info? 35).map (fun i => (i.zero, i.size, i.bytes)) = some (some (.agg #[.int .i64 0, .int .i64 0, .int .i64 0, .string ⟨#[]⟩, .slice none 0 0, .int .i64 0, .int .i64 0]), 7, 80) := by kernel_rfl
theorem Blk.srcs {α : Type} {R : Reader α} {w : World} {B b : Nat} {xs : List α} {vs : Array Value} (h : Blk w b vs) (hf : Flat R w B xs vs.toList) : SrcR R w B (some ⟨b, 0, none⟩) xs := by
  refine ⟨vs.toList, hf, fun e => by (cases e), fun a ha j u hu => ?_⟩
  simp only [Option.some.injEq] at ha
  subst ha
  have := h.cell j
  rw [← Array.getElem?_toList, hu] at this
  unfold Addr.add
  split
  · rename_i hj; subst hj; exact this
  · simpa using this
theorem OwnR.farB {α : Type} {R : Reader α} {e T : TypeId} {w : World} {base B D : Nat} {v : Value} {xs : List α} {vs : Array Value} (h : OwnR R e w base B v xs) (hD : BlkT w D vs T) (hT : T ≠ e) (hB : B ≤ D) (i : Nat) (u : Value) : OwnR R e (w.setCell ⟨D, i, none⟩ u) base B v xs := by
  have hne := h.ne hD hT
  obtain ⟨cells, h, hf⟩ := h
  refine ⟨cells, ⟨h.1, ?_⟩, hf.keep ((Below.refl B w).setCell (p := ⟨D, i, none⟩) hB u) (Nat.le_refl _)⟩
  rcases h.2 with h2 | ⟨g, cap, cur, hv, hg, hh, r⟩
  · exact .inl h2
  · refine .inr ⟨g, cap, cur, hv, hg, ?_, r⟩
    rw [hv] at hne
    simp only [Value.ownBlock, ne_eq, Option.some.injEq] at hne
    exact (Below.heap_setCell w ⟨D, i, none⟩ u g hne).trans hh
theorem OwnR.fresh {α : Type} {R : Reader α} {e : TypeId} {w : World} {base B k : Nat} {v : Value} {xs : List α} (h : OwnR R e w base B v xs) (hk : w.heap.size ≤ k) : some k ≠ v.ownBlock := by
  obtain ⟨cells, h, _⟩ := h
  intro e
  have := (h.lt k e.symm).2
  omega
theorem hp11d {w : World} {o1 : Obj} : (w.alloc o1).drew.heap[w.heap.size]? = some o1 := hp11
theorem hp21d {w : World} {o1 o2 : Obj} : ((w.alloc o1).alloc o2).drew.heap[w.heap.size]? = some o1 := hp21
theorem hp22d {w : World} {o1 o2 : Obj} : ((w.alloc o1).alloc o2).drew.heap[w.heap.size + 1]? = some o2 := hp22
theorem hp31d {w : World} {o1 o2 o3 : Obj} : (((w.alloc o1).alloc o2).alloc o3).drew.heap[w.heap.size]? = some o1 := hp31
theorem hp32d {w : World} {o1 o2 o3 : Obj} : (((w.alloc o1).alloc o2).alloc o3).drew.heap[w.heap.size + 1]? = some o2 := hp32
theorem hp33d {w : World} {o1 o2 o3 : Obj} : (((w.alloc o1).alloc o2).alloc o3).drew.heap[w.heap.size + 1 + 1]? = some o3 := hp33
section
variable {α : Type} {R : Reader α} {w : World} {B b : Nat} {xs : List α} {vs : Array Value} {T : TypeId} {o2 : Obj}
theorem src11d (hf : Flat R (w.alloc (.cells vs T)).drew B xs vs.toList) : SrcR R (w.alloc (.cells vs T)).drew B (some ⟨w.heap.size, 0, none⟩) xs := Blk.srcs ⟨_, hp11d⟩ hf
theorem src21d (hf : Flat R ((w.alloc (.cells vs T)).alloc o2).drew B xs vs.toList) : SrcR R ((w.alloc (.cells vs T)).alloc o2).drew B (some ⟨w.heap.size, 0, none⟩) xs := Blk.srcs ⟨_, hp21d⟩ hf
theorem src22d (hf : Flat R ((w.alloc o2).alloc (.cells vs T)).drew B xs vs.toList) : SrcR R ((w.alloc o2).alloc (.cells vs T)).drew B (some ⟨w.heap.size + 1, 0, none⟩) xs := Blk.srcs ⟨_, hp22d⟩ hf
theorem srcd (h : w.heap[b]? = some (.cells vs T)) (hf : Flat R w.drew B xs vs.toList) : SrcR R w.drew B (some ⟨b, 0, none⟩) xs := Blk.srcs ⟨_, h⟩ hf
theorem srcald (h : w.heap[b]? = some (.cells vs T)) (hf : Flat R (w.alloc o2).drew B xs vs.toList) : SrcR R (w.alloc o2).drew B (some ⟨b, 0, none⟩) xs :=
  Blk.srcs ((Blk.later (⟨_, h⟩ : Blk w b vs) ((Below.refl _ _).alloc (Nat.le_refl _) o2)).drew) hf
end
section
variable {α : Type} {R : Reader α} {w : World} {B b : Nat} {xs : List α} {vs : Array Value} {T : TypeId} {o2 : Obj}
theorem src11 (hf : Flat R (w.alloc (.cells vs T)) B xs vs.toList) : SrcR R (w.alloc (.cells vs T)) B (some ⟨w.heap.size, 0, none⟩) xs := Blk.srcs ⟨_, hp11⟩ hf
theorem src21 (hf : Flat R ((w.alloc (.cells vs T)).alloc o2) B xs vs.toList) : SrcR R ((w.alloc (.cells vs T)).alloc o2) B (some ⟨w.heap.size, 0, none⟩) xs := Blk.srcs ⟨_, hp21⟩ hf
theorem src22 (hf : Flat R ((w.alloc o2).alloc (.cells vs T)) B xs vs.toList) : SrcR R ((w.alloc o2).alloc (.cells vs T)) B (some ⟨w.heap.size + 1, 0, none⟩) xs := Blk.srcs ⟨_, hp22⟩ hf
theorem src0 (h : w.heap[b]? = some (.cells vs T)) (hf : Flat R w B xs vs.toList) : SrcR R w B (some ⟨b, 0, none⟩) xs := Blk.srcs ⟨_, h⟩ hf
theorem srcal (h : w.heap[b]? = some (.cells vs T)) (hf : Flat R (w.alloc o2) B xs vs.toList) : SrcR R (w.alloc o2) B (some ⟨b, 0, none⟩) xs :=
  Blk.srcs (Blk.later (⟨_, h⟩ : Blk w b vs) ((Below.refl _ _).alloc (Nat.le_refl _) o2)) hf
end
theorem cell_d {w : World} {p : Addr} {v : Value} (h : w.cell? p = some v) : w.drew.cell? p = some v := h
theorem ex_ne : (24 : TypeId) ≠ 35 := by decide
theorem notO_rd {w : World} {B : Nat} (d : Nat) : (OpR (d + 1)).rd w B notO (opV 2 ⟨0, 0, ⟨#[]⟩, []⟩ 1 0) :=
  op_rd (o := notO) d (i64_lit (by simp [notO]) (by simp [notO])) (i64_lit (by simp [notO]) (by simp [notO])) (i64_lit (by simp [notO]) (by simp [notO])) (i64_lit (by simp [notO]) (by simp [notO])) (i64_lit (by simp [notO]) (by simp [notO])) (show (0 : Nat) ≤ 140737488351232 by omega) rfl
theorem nots_flat {w : World} {B d : Nat} : Flat (OpR (d + 1)) w B [notO, notO] [.int .i64 2, .int .i64 0, .int .i64 0, .string ⟨#[]⟩, .slice none 0 0, .int .i64 1, .int .i64 0, .int .i64 2, .int .i64 0, .int .i64 0, .string ⟨#[]⟩, .slice none 0 0, .int .i64 1, .int .i64 0] := (Flat.one (notO_rd d)).append (Flat.one (notO_rd d))
theorem cell_al1 {w : World} {p : Addr} {v : Value} {o1 : Obj} (h : w.cell? p = some v) : (w.alloc o1).cell? p = some v := (World.cell?_alloc_some w p o1 (by rw [h]; rfl)).trans h
theorem cell_al2 {w : World} {p : Addr} {v : Value} {o1 o2 : Obj} (h : w.cell? p = some v) : ((w.alloc o1).alloc o2).cell? p = some v := cell_al1 (cell_al1 h)
theorem cell_al3 {w : World} {p : Addr} {v : Value} {o1 o2 o3 : Obj} (h : w.cell? p = some v) : (((w.alloc o1).alloc o2).alloc o3).cell? p = some v := cell_al1 (cell_al2 h)
theorem cell_al1d {w : World} {p : Addr} {v : Value} {o1 : Obj} (h : w.cell? p = some v) : (w.alloc o1).drew.cell? p = some v := cell_al1 (o1 := o1) h
theorem cell_al2d {w : World} {p : Addr} {v : Value} {o1 o2 : Obj} (h : w.cell? p = some v) : ((w.alloc o1).alloc o2).drew.cell? p = some v := cell_al2 (o1 := o1) (o2 := o2) h
theorem cell_al3d {w : World} {p : Addr} {v : Value} {o1 o2 o3 : Obj} (h : w.cell? p = some v) : (((w.alloc o1).alloc o2).alloc o3).drew.cell? p = some v := cell_al3 (o1 := o1) (o2 := o2) (o3 := o3) h
theorem cell_set {w : World} {b o : Nat} {v u : Value} {g i : Nat} (hne : b ≠ g) (h : w.cell? ⟨b, o, none⟩ = some v) : (w.setCell ⟨g, i, none⟩ u).cell? ⟨b, o, none⟩ = some v :=
  (World.cell?_setCell_far w ⟨g, i, none⟩ ⟨b, o, none⟩ u (Ne.symm hne)).trans h
theorem ne_own {k g o n c : Nat} (h : k ≠ g) : some k ≠ (Value.slice (some ⟨g, o, none⟩) n c).ownBlock := fun e => h (by simpa [Value.ownBlock] using e)

theorem nots_end {w6 w8 : World} {e T : TypeId} {B g d : Nat} {v' : Value} {xs : List OpD} (B6 : BlkT w8 g #[.slice none 0 0] T) (ho : OwnR (OpR d) e w8 w6.heap.size B v' xs) (hT : T ≠ e) (hB : B ≤ w6.heap.size) (hb : Below w6.heap.size w6 w8) (hg : w6.heap.size ≤ g) :
    ∃ (g' : Nat) (u : Value), Value.pointer (some ⟨g, 0, none⟩) = .pointer (some ⟨g', 0, none⟩) ∧ Blk (w8.setCell ⟨g, 0, none⟩ v') g' #[u] ∧ OwnR (OpR d) e (w8.setCell ⟨g, 0, none⟩ v') w6.heap.size B u xs ∧ Below w6.heap.size w6 (w8.setCell ⟨g, 0, none⟩ v') ∧ w6.heap.size ≤ g' :=
  ⟨g, v', rfl, B6.blk.set_ 0 v', ho.farB B6 hT (Nat.le_trans hB hg) 0 v', hb.setCell hg _, hg⟩

set_option maxRecDepth 100000 in
set_option maxHeartbeats 8000000 in
theorem exprNots_any {D B cn ct : Nat} {ops : List OpD} {evs : List Value} {b : Bd} {An At : Option Addr} {w : World} {m : Int} (he : (ExR (D + 1)).rd w B ops evs) (hn : RL StrR w B (b.names.map mkS) An) (ht : RL (TmR (D + 1)) w B b.terms At) (hn1 : b.names.length * 8 ≤ 140737488351232) (ht1 : b.terms.length * 32 ≤ 140737488351232) (hB : B ≤ w.heap.size) (hm : w.cell? ⟨0, 0, none⟩ = some (.int .i64 m)) (h0 : 0 < w.heap.size) :
    Calls Tryz.prog 5 #[.agg evs.toArray, .agg (bdV An b.names.length cn At b.terms.length ct)] w fun z w' => z = .returned (.bool true) ∧ Below w.heap.size w w' := by
  have HE := Lib.hid he
  have HN := Lib.hid hn
  have HT := Lib.hid ht
  have HM := Lib.hid hm
  have HN1 := Lib.hid hn1
  have HT1 := Lib.hid ht1
  obtain ⟨_, rfl, Ao, co, rfl, hc1, hc2, hl⟩ := he
  have HL := Lib.hid hl
  simp only [OpR] at hc2
  clear hl hn ht hm hn1 ht1
  unfold bdV
  go_enter Tryz.func5, Tryz.ntmps5
  go_wp2_with fail
  generalize hW : World.alloc _ _ = w1
  obtain ⟨hb, hz⟩ := al2 hW
  have b_e_1 := n21 hW
  have b_b_1 := n22 hW
  have HB1 := Lib.hid hb
  clear hW hz hb
  refine (light12_any (vs := [_]) ((ExR (D + 1)).keep HB1.out hB HE.out) (Nat.le_trans hB HB1.out.size)).mono ?_
  rintro x w2 ⟨⟨q1, rfl⟩, hb⟩
  have b_e_2 := b_e_1.later hb
  have b_b_2 := b_b_1.later hb
  have HB2 := Lib.hid (bthen HB1.out hb)
  clear b_e_1 b_b_1
  clear hb
  cases q1
  · have k_e := b_e_2.cell
    have l_e := b_e_2.lt
    have k_b := b_b_2.cell
    have l_b := b_b_2.lt
    go_wp2_with fail
    clear k_e l_e k_b l_b
    refine (awake12_any ((HB2.out.cell (p := ⟨0, 0, none⟩) h0).trans HM.out) (Nat.lt_of_lt_of_le h0 HB2.out.size)).mono ?_
    rintro x w3 ⟨rfl, hb⟩
    have b_e_3 := b_e_2.later hb
    have b_b_3 := b_b_2.later hb
    have HB3 := Lib.hid (bthen HB2.out hb)
    clear b_e_2 b_b_2
    clear hb
    have k_e := b_e_3.cell
    have l_e := b_e_3.lt
    have k_b := b_b_3.cell
    have l_b := b_b_3.lt
    go_wp2_with fail
    clear k_e l_e k_b l_b
    go_ret
    exact ⟨rfl, HB3.out⟩
  · have k_e := b_e_2.cell
    have l_e := b_e_2.lt
    have k_b := b_b_2.cell
    have l_b := b_b_2.lt
    go_wp2_with fail
    clear k_e l_e k_b l_b
    refine (lightBind_any (cn := cn) (ct := ct) (d := D + 1) HN1.out (HT.out.keep HB2.out hB) HT1.out (Nat.le_trans hB HB2.out.size)).mono ?_
    rintro x w3 ⟨⟨q2, rfl⟩, hb⟩
    have b_e_3 := b_e_2.later hb
    have b_b_3 := b_b_2.later hb
    have HB3 := Lib.hid (bthen HB2.out hb)
    clear b_e_2 b_b_2
    clear hb
    cases q2
    · have k_e := b_e_3.cell
      have l_e := b_e_3.lt
      have k_b := b_b_3.cell
      have l_b := b_b_3.lt
      go_wp2_with fail
      clear k_e l_e k_b l_b
      refine (awake12_any ((HB3.out.cell (p := ⟨0, 0, none⟩) h0).trans HM.out) (Nat.lt_of_lt_of_le h0 HB3.out.size)).mono ?_
      rintro x w4 ⟨rfl, hb⟩
      have b_e_4 := b_e_3.later hb
      have b_b_4 := b_b_3.later hb
      have HB4 := Lib.hid (bthen HB3.out hb)
      clear b_e_3 b_b_3
      clear hb
      have k_e := b_e_4.cell
      have l_e := b_e_4.lt
      have k_b := b_b_4.cell
      have l_b := b_b_4.lt
      go_wp2_with fail
      clear k_e l_e k_b l_b
      go_ret
      exact ⟨rfl, HB4.out⟩
    · have k_e := b_e_3.cell
      have l_e := b_e_3.lt
      have k_b := b_b_3.cell
      have l_b := b_b_3.lt
      go_wp2_with fail
      clear k_e l_e k_b l_b
      refine (mayExpr_any (vs := [_]) ((ExR (D + 1)).keep HB3.out hB HE.out) (Nat.le_trans hB HB3.out.size)).mono ?_
      rintro x w4 ⟨rfl, hb⟩
      have b_e_4 := b_e_3.later hb
      have b_b_4 := b_b_3.later hb
      have HB4 := Lib.hid (bthen HB3.out hb)
      clear b_e_3 b_b_3
      clear hb
      by_cases hm1 : mayExprB ops = true
      · have HM1 := Lib.hid hm1
        rw [hm1]
        clear hm1
        by_cases h30 : ops.length ≤ 30
        · have HL30 := Lib.hid h30
          have g30 : decide ((ops.length : Int) > 30) = false := by simp; omega
          have k_e := b_e_4.cell
          have l_e := b_e_4.lt
          have k_b := b_b_4.cell
          have l_b := b_b_4.lt
          go_wp2_with fail
          clear k_e l_e k_b l_b
          refine (maybind_any (cn := cn) (ct := ct) (d := D) (HN.out.keep HB4.out hB) (HT.out.keep HB4.out hB) (Nat.le_trans hB HB4.out.size)).mono ?_
          rintro x w5 ⟨rfl, hb⟩
          have b_e_5 := b_e_4.later hb
          have b_b_5 := b_b_4.later hb
          have HB5 := Lib.hid (bthen HB4.out hb)
          clear b_e_4 b_b_4
          clear hb
          by_cases hb1 : bindB b = true
          · have HB_ := Lib.hid hb1
            rw [hb1]
            clear hb1
            have k_e := b_e_5.cell
            have l_e := b_e_5.lt
            have k_b := b_b_5.cell
            have l_b := b_b_5.lt
            go_upto_region 4 with fail
            clear k_e l_e k_b l_b
            generalize hW : World.alloc _ _ = w6
            obtain ⟨hb, hz⟩ := al1 hW
            have b_o_6 := n11 hW
            have b_e_6 := b_e_5.later hb
            have b_b_6 := b_b_5.later hb
            have HB6 := Lib.hid (bthen HB5.out hb)
            clear b_e_5 b_b_5
            clear hW hz hb
            obtain ⟨i0, hi0, hz0, hz1, hz2⟩ := info_parts infoOp
            have HCn := Lib.hid (show B ≤ w6.heap.size from Nat.le_trans hB HB6.out.size)
            have HLk := Lib.hid (HL.out.keep HB6.out hB)
            have hle30 := HL30.out
            have be := Lib.hid b_e_6
            have bo := Lib.hid b_o_6
            have hbo := b_o_6.lt
            have hbe := b_e_6.lt
            have k_e := b_e_6.cell
            have k_o := b_o_6.cell
            go_wp2_with fail
            go_cut [6] (fun v6 wx => ∃ (g : Nat) (v' : Value), v6 = .pointer (some ⟨g, 0, none⟩) ∧ Blk wx g #[v'] ∧ OwnR (OpR (D + 1)) 35 wx w6.heap.size B v' (ops ++ [notO, notO]) ∧ Below w6.heap.size w6 wx ∧ w6.heap.size ≤ g)
            case first =>
              have s0 : w6.cell? ⟨w.heap.size, 0, none⟩ = some (.slice Ao ops.length co) := k_e 0
              have s1 : w6.cell? ⟨w5.heap.size, 0, none⟩ = some (.int .i64 2) := k_o 0
              have s2 : w6.cell? ⟨w5.heap.size, 1, none⟩ = some (.int .i64 0) := k_o 1
              have s3 : w6.cell? ⟨w5.heap.size, 2, none⟩ = some (.int .i64 0) := k_o 2
              have s4 : w6.cell? ⟨w5.heap.size, 3, none⟩ = some (.string ⟨#[]⟩) := k_o 3
              have s5 : w6.cell? ⟨w5.heap.size, 4, none⟩ = some (.slice none 0 0) := k_o 4
              have s6 : w6.cell? ⟨w5.heap.size, 5, none⟩ = some (.int .i64 1) := k_o 5
              have s7 : w6.cell? ⟨w5.heap.size, 6, none⟩ = some (.int .i64 0) := k_o 6
              clear k_e k_o
              have tok1 : True := trivial
              go_region_held3 (fun w' => w'.cell? ⟨w.heap.size, 0, none⟩ = some (.slice Ao ops.length co) ∧ w'.cell? ⟨w5.heap.size, 0, none⟩ = some (.int .i64 2) ∧ w'.cell? ⟨w5.heap.size, 1, none⟩ = some (.int .i64 0) ∧ w'.cell? ⟨w5.heap.size, 2, none⟩ = some (.int .i64 0) ∧ w'.cell? ⟨w5.heap.size, 3, none⟩ = some (.string ⟨#[]⟩) ∧ w'.cell? ⟨w5.heap.size, 4, none⟩ = some (.slice none 0 0) ∧ w'.cell? ⟨w5.heap.size, 5, none⟩ = some (.int .i64 1) ∧ w'.cell? ⟨w5.heap.size, 6, none⟩ = some (.int .i64 0)) (first | (with_reducible exact ⟨s80, s81, s82, s83, s84, s85, s86, s87⟩) | (with_reducible exact ⟨cell_al1d s80, cell_al1d s81, cell_al1d s82, cell_al1d s83, cell_al1d s84, cell_al1d s85, cell_al1d s86, cell_al1d s87⟩) | (with_reducible exact ⟨cell_al1 s80, cell_al1 s81, cell_al1 s82, cell_al1 s83, cell_al1 s84, cell_al1 s85, cell_al1 s86, cell_al1 s87⟩) | (with_reducible exact ⟨cell_al2d s80, cell_al2d s81, cell_al2d s82, cell_al2d s83, cell_al2d s84, cell_al2d s85, cell_al2d s86, cell_al2d s87⟩) | (with_reducible exact ⟨cell_al2 s80, cell_al2 s81, cell_al2 s82, cell_al2 s83, cell_al2 s84, cell_al2 s85, cell_al2 s86, cell_al2 s87⟩) | (with_reducible exact ⟨cell_set (by omega) s80, cell_set (by omega) s81, cell_set (by omega) s82, cell_set (by omega) s83, cell_set (by omega) s84, cell_set (by omega) s85, cell_set (by omega) s86, cell_set (by omega) s87⟩) | (with_reducible exact ⟨cell_d s80, cell_d s81, cell_d s82, cell_d s83, cell_d s84, cell_d s85, cell_d s86, cell_d s87⟩) | (with_reducible exact ⟨s70, s71, s72, s73, s74, s75, s76, s77⟩) | (with_reducible exact ⟨cell_al1d s70, cell_al1d s71, cell_al1d s72, cell_al1d s73, cell_al1d s74, cell_al1d s75, cell_al1d s76, cell_al1d s77⟩) | (with_reducible exact ⟨cell_al1 s70, cell_al1 s71, cell_al1 s72, cell_al1 s73, cell_al1 s74, cell_al1 s75, cell_al1 s76, cell_al1 s77⟩) | (with_reducible exact ⟨cell_al2d s70, cell_al2d s71, cell_al2d s72, cell_al2d s73, cell_al2d s74, cell_al2d s75, cell_al2d s76, cell_al2d s77⟩) | (with_reducible exact ⟨cell_al2 s70, cell_al2 s71, cell_al2 s72, cell_al2 s73, cell_al2 s74, cell_al2 s75, cell_al2 s76, cell_al2 s77⟩) | (with_reducible exact ⟨cell_d s70, cell_d s71, cell_d s72, cell_d s73, cell_d s74, cell_d s75, cell_d s76, cell_d s77⟩) | (with_reducible exact ⟨s0, s1, s2, s3, s4, s5, s6, s7⟩) | (with_reducible exact ⟨cell_al1d s0, cell_al1d s1, cell_al1d s2, cell_al1d s3, cell_al1d s4, cell_al1d s5, cell_al1d s6, cell_al1d s7⟩) | (with_reducible exact ⟨cell_al1 s0, cell_al1 s1, cell_al1 s2, cell_al1 s3, cell_al1 s4, cell_al1 s5, cell_al1 s6, cell_al1 s7⟩) | (with_reducible exact ⟨cell_al2d s0, cell_al2d s1, cell_al2d s2, cell_al2d s3, cell_al2d s4, cell_al2d s5, cell_al2d s6, cell_al2d s7⟩) | (with_reducible exact ⟨cell_al2 s0, cell_al2 s1, cell_al2 s2, cell_al2 s3, cell_al2 s4, cell_al2 s5, cell_al2 s6, cell_al2 s7⟩) | (with_reducible exact ⟨cell_al3d s0, cell_al3d s1, cell_al3d s2, cell_al3d s3, cell_al3d s4, cell_al3d s5, cell_al3d s6, cell_al3d s7⟩) | (with_reducible exact ⟨cell_al3 s0, cell_al3 s1, cell_al3 s2, cell_al3 s3, cell_al3 s4, cell_al3 s5, cell_al3 s6, cell_al3 s7⟩) | (with_reducible exact ⟨cell_d s0, cell_d s1, cell_d s2, cell_d s3, cell_d s4, cell_d s5, cell_d s6, cell_d s7⟩) | go_keep) (first
                | (have _t := tok1
                   refine step_append_R (R := OpR (D + 1)) (e := 35) rfl (.tmp 39) (.tmp 41) 22 rfl (bytes := 80) Tryz.underlying22 hi0 hz0 hz1 hz2 rfl (show 0 < 7 by omega) (single_op (D + 1)) rfl (xs := []) (base := w6.heap.size) (B := B) (OwnR.empty (OpR (D + 1)) 35 (by first | (with_reducible exact hp11d) | (with_reducible exact hp21d) | (with_reducible exact hp22d) | (with_reducible exact hp31d) | (with_reducible exact hp32d) | (with_reducible exact hp33d)) (by omega) B) (A := Ao) (m := ops.length) (c := co) rfl (ys := ops) ((HLk.out.keep (by repeat' (first | (with_reducible exact Below.refl _ _) | (with_reducible refine Below.drew ?_) | (with_reducible refine Below.alloc ?_ (by first | omega | (simp only [World.size_drew, World.size_alloc]; omega)) _))) HCn.out).src) rfl HCn.out (by simp only [List.length_nil]; omega) (by omega) (by first | omega | (simp only [World.size_drew, World.size_alloc]; omega)) ?_
                   intro v1 w7_ hown1 hb7 hg7
                   have HO1 := Lib.hid hown1
                   have HB7_ : Hid (Below w6.heap.size w6 w7_) := Lib.hid (Below.trans (by repeat' (first | (with_reducible exact Below.refl _ _) | (with_reducible refine Below.drew ?_) | (with_reducible refine Below.alloc ?_ (by first | omega | (simp only [World.size_drew, World.size_alloc]; omega)) _))) hb7)
                   have hsz7 := HB7_.out.size
                   have s70 : w7_.cell? ⟨w.heap.size, 0, none⟩ = some (.slice Ao ops.length co) := (be.out.keep HB7_.out hbe).cell 0
                   have s71 : w7_.cell? ⟨w5.heap.size, 0, none⟩ = some (.int .i64 2) := (bo.out.keep HB7_.out hbo).cell 0
                   have s72 : w7_.cell? ⟨w5.heap.size, 1, none⟩ = some (.int .i64 0) := (bo.out.keep HB7_.out hbo).cell 1
                   have s73 : w7_.cell? ⟨w5.heap.size, 2, none⟩ = some (.int .i64 0) := (bo.out.keep HB7_.out hbo).cell 2
                   have s74 : w7_.cell? ⟨w5.heap.size, 3, none⟩ = some (.string ⟨#[]⟩) := (bo.out.keep HB7_.out hbo).cell 3
                   have s75 : w7_.cell? ⟨w5.heap.size, 4, none⟩ = some (.slice none 0 0) := (bo.out.keep HB7_.out hbo).cell 4
                   have s76 : w7_.cell? ⟨w5.heap.size, 5, none⟩ = some (.int .i64 1) := (bo.out.keep HB7_.out hbo).cell 5
                   have s77 : w7_.cell? ⟨w5.heap.size, 6, none⟩ = some (.int .i64 0) := (bo.out.keep HB7_.out hbo).cell 6
                   try have t6 : w7_.heap[w6.heap.size]? = some (.cells #[.slice none 0 0] 24) := by first | (with_reducible exact (hg7.block _ (by first | omega | (simp only [World.size_drew, World.size_alloc]; omega)) (ne_own (by omega))).trans hp21d) | (with_reducible exact (hg7.block _ (by first | omega | (simp only [World.size_drew, World.size_alloc]; omega)) (ne_own (by omega))).trans hp31d)
                   try have t45 : w7_.heap[w6.heap.size]? = some (.cells #[.int .i64 2, .int .i64 0, .int .i64 0, .string ⟨#[]⟩, .slice none 0 0, .int .i64 1, .int .i64 0, .int .i64 2, .int .i64 0, .int .i64 0, .string ⟨#[]⟩, .slice none 0 0, .int .i64 1, .int .i64 0] 35) := by first | (with_reducible exact (hg7.block _ (by first | omega | (simp only [World.size_drew, World.size_alloc]; omega)) (ne_own (by omega))).trans hp21d) | (with_reducible exact (hg7.block _ (by first | omega | (simp only [World.size_drew, World.size_alloc]; omega)) (ne_own (by omega))).trans hp31d)
                   try have t6 : w7_.heap[w6.heap.size + 1]? = some (.cells #[.slice none 0 0] 24) := by first | (with_reducible exact (hg7.block _ (by first | omega | (simp only [World.size_drew, World.size_alloc]; omega)) (ne_own (by omega))).trans hp22d) | (with_reducible exact (hg7.block _ (by first | omega | (simp only [World.size_drew, World.size_alloc]; omega)) (ne_own (by omega))).trans hp32d)
                   try have t45 : w7_.heap[w6.heap.size + 1]? = some (.cells #[.int .i64 2, .int .i64 0, .int .i64 0, .string ⟨#[]⟩, .slice none 0 0, .int .i64 1, .int .i64 0, .int .i64 2, .int .i64 0, .int .i64 0, .string ⟨#[]⟩, .slice none 0 0, .int .i64 1, .int .i64 0] 35) := by first | (with_reducible exact (hg7.block _ (by first | omega | (simp only [World.size_drew, World.size_alloc]; omega)) (ne_own (by omega))).trans hp22d) | (with_reducible exact (hg7.block _ (by first | omega | (simp only [World.size_drew, World.size_alloc]; omega)) (ne_own (by omega))).trans hp32d)
                   try have t6 : w7_.heap[w6.heap.size + 1 + 1]? = some (.cells #[.slice none 0 0] 24) := by first | (with_reducible exact (hg7.block _ (by first | omega | (simp only [World.size_drew, World.size_alloc]; omega)) (ne_own (by omega))).trans hp33d)
                   try have t45 : w7_.heap[w6.heap.size + 1 + 1]? = some (.cells #[.int .i64 2, .int .i64 0, .int .i64 0, .string ⟨#[]⟩, .slice none 0 0, .int .i64 1, .int .i64 0, .int .i64 2, .int .i64 0, .int .i64 0, .string ⟨#[]⟩, .slice none 0 0, .int .i64 1, .int .i64 0] 35) := by first | (with_reducible exact (hg7.block _ (by first | omega | (simp only [World.size_drew, World.size_alloc]; omega)) (ne_own (by omega))).trans hp33d)
                   clear hown1 hb7 hg7 tok1)
                | (have _t := HO1.out
                   refine step_append_R (R := OpR (D + 1)) (e := 35) rfl (.tmp 42) (.tmp 45) 22 rfl (bytes := 80) Tryz.underlying22 hi0 hz0 hz1 hz2 rfl (show 0 < 7 by omega) (single_op (D + 1)) rfl (xs := [] ++ ops) (base := w6.heap.size) (B := B) (HO1.out.later (by repeat' (first | (with_reducible exact Below.refl _ _) | (with_reducible refine Below.drew ?_) | (with_reducible refine Below.alloc ?_ (by first | omega | (simp only [World.size_drew, World.size_alloc]; omega)) _))) (Nat.le_trans HCn.out hsz7)) rfl (ys := [notO, notO]) (by first | ((with_reducible refine src11 ?_); exact nots_flat) | ((with_reducible refine src21 ?_); exact nots_flat) | ((with_reducible refine src22 ?_); exact nots_flat) | ((with_reducible refine src0 t45 ?_); exact nots_flat) | ((with_reducible refine srcal t45 ?_); exact nots_flat) | ((with_reducible refine src11d ?_); exact nots_flat) | ((with_reducible refine src21d ?_); exact nots_flat) | ((with_reducible refine src22d ?_); exact nots_flat) | ((with_reducible refine srcd t45 ?_); exact nots_flat) | ((with_reducible refine srcald t45 ?_); exact nots_flat)) rfl HCn.out (by simp only [List.length_append, List.length_cons, List.length_nil]; omega) (by omega) (by first | omega | (simp only [World.size_drew, World.size_alloc]; omega)) ?_
                   intro v2 w8_ hown2 hb8 hg8
                   obtain ⟨A2, c2, rfl⟩ := hown2.form
                   simp only [List.nil_append, List.length_append, List.length_cons, List.length_nil, Nat.zero_add, Nat.reduceAdd] at hown2
                   have HO2 := Lib.hid hown2
                   have HB8_ : Hid (Below w6.heap.size w6 w8_) := Lib.hid (HB7_.out.trans (Below.trans (by repeat' (first | (with_reducible exact Below.refl _ _) | (with_reducible refine Below.drew ?_) | (with_reducible refine Below.alloc ?_ (by first | omega | (simp only [World.size_drew, World.size_alloc]; omega)) _))) hb8))
                   have hsz8 := HB8_.out.size
                   have s80 : w8_.cell? ⟨w.heap.size, 0, none⟩ = some (.slice Ao ops.length co) := (be.out.keep HB8_.out hbe).cell 0
                   have s81 : w8_.cell? ⟨w5.heap.size, 0, none⟩ = some (.int .i64 2) := (bo.out.keep HB8_.out hbo).cell 0
                   have s82 : w8_.cell? ⟨w5.heap.size, 1, none⟩ = some (.int .i64 0) := (bo.out.keep HB8_.out hbo).cell 1
                   have s83 : w8_.cell? ⟨w5.heap.size, 2, none⟩ = some (.int .i64 0) := (bo.out.keep HB8_.out hbo).cell 2
                   have s84 : w8_.cell? ⟨w5.heap.size, 3, none⟩ = some (.string ⟨#[]⟩) := (bo.out.keep HB8_.out hbo).cell 3
                   have s85 : w8_.cell? ⟨w5.heap.size, 4, none⟩ = some (.slice none 0 0) := (bo.out.keep HB8_.out hbo).cell 4
                   have s86 : w8_.cell? ⟨w5.heap.size, 5, none⟩ = some (.int .i64 1) := (bo.out.keep HB8_.out hbo).cell 5
                   have s87 : w8_.cell? ⟨w5.heap.size, 6, none⟩ = some (.int .i64 0) := (bo.out.keep HB8_.out hbo).cell 6
                   try have b6 : BlkT w8_ _ #[.slice none 0 0] 24 := BlkT.grown (BlkT.later (show BlkT w7_ _ #[.slice none 0 0] 24 from t6) (by repeat' (first | (with_reducible exact Below.refl _ _) | (with_reducible refine Below.drew ?_) | (with_reducible refine Below.alloc ?_ (by first | omega | (simp only [World.size_drew, World.size_alloc]; omega)) _)))) hg8 (HO1.out.ne (show BlkT w7_ _ #[.slice none 0 0] 24 from t6) ex_ne)
                   try have b6 : w8_.heap[w7_.heap.size]? = some (.cells #[.slice none 0 0] 24) := by first | (with_reducible exact (hg8.block _ (by first | omega | (simp only [World.size_drew, World.size_alloc]; omega)) (HO1.out.fresh (by omega))).trans hp21d) | (with_reducible exact (hg8.block _ (by first | omega | (simp only [World.size_drew, World.size_alloc]; omega)) (HO1.out.fresh (by omega))).trans hp11d)
                   try have b6 : w8_.heap[w7_.heap.size + 1]? = some (.cells #[.slice none 0 0] 24) := by first | (with_reducible exact (hg8.block _ (by first | omega | (simp only [World.size_drew, World.size_alloc]; omega)) (HO1.out.fresh (by omega))).trans hp22d)
                   try have B6 : BlkT w8_ _ #[.slice none 0 0] 24 := b6
                   try have k6 := B6.blk.cell
                   try have f6 := B6.blk.free
                   try have l6 := B6.blk.lt
                   clear hown2 hb8 hg8))
              all_goals
                go_wp2_with fail
                go_meet
                first
                  | exact nots_end B6 HO2.out ex_ne HCn.out HB8_.out (by omega)
                  | exact ⟨_, _, rfl, (⟨_, hp11⟩ : Blk _ _ _), HO2.out.later (by repeat' (first | (with_reducible exact Below.refl _ _) | (with_reducible refine Below.drew ?_) | (with_reducible refine Below.alloc ?_ (by first | omega | (simp only [World.size_drew, World.size_alloc]; omega)) _))) (by omega), HB8_.out.trans (by repeat' (first | (with_reducible exact Below.refl _ _) | (with_reducible refine Below.drew ?_) | (with_reducible refine Below.alloc ?_ (by first | omega | (simp only [World.size_drew, World.size_alloc]; omega)) _))), hsz8⟩
            case rest =>
              obtain ⟨g_, v', rfl, hgb, how, hbc, hgs⟩ := hcut
              obtain ⟨A2, c2, rfl⟩ := how.form
              have hL2 : (ops ++ [notO, notO]).length = ops.length + 2 := by simp
              rw [hL2] at how hgb
              generalize wc = w7 at *
              have HEX := Lib.hid (show (ExR (D + 1)).rd w7 w7.heap.size (ops ++ [notO, notO]) [.slice A2 (ops.length + 2) c2] from ⟨_, rfl, how.reads (Nat.le_trans HCn.out hbc.size) (by rw [hL2]; show (ops.length + 2) * (8 * 7) ≤ _; omega)⟩)
              have hB7 := Nat.le_trans HCn.out hbc.size
              have HT1_ := Lib.hid (nots_lawE HB_.out HM1.out HL30.out)
              have b_e_7 := b_e_6.later hbc
              have b_b_7 := b_b_6.later hbc
              have b_o_7 := b_o_6.later hbc
              have HB7 := Lib.hid (bthen HB6.out hbc)
              have b_g_7 := hgb
              clear k_e k_o hgb how hbc hgs HLk be bo hbo hbe b_e_6 b_b_6 b_o_6
              obtain ⟨x_, f_, hTX⟩ : ∃ x_ f_, trueT (evalE b ops) = (x_, f_) := ⟨_, _, rfl⟩
              have HTX := Lib.hid hTX
              have HU1 : Hid ((trueT (evalE b ops)).1 = x_) := Lib.hid (by rw [hTX])
              have HU2 : Hid ((trueT (evalE b ops)).2 = f_) := Lib.hid (by rw [hTX])
              have HV1 : Hid ((trueT (evalE b (ops ++ [notO, notO]))).1 = x_) := Lib.hid (by rw [HT1_.out, hTX])
              have HV2 : Hid ((trueT (evalE b (ops ++ [notO, notO]))).2 = f_) := Lib.hid (by rw [HT1_.out, hTX])
              clear hTX HT1_
              have k_e := b_e_7.cell
              have l_e := b_e_7.lt
              have k_b := b_b_7.cell
              have l_b := b_b_7.lt
              have k_o := b_o_7.cell
              have l_o := b_o_7.lt
              have k_g := b_g_7.cell
              have l_g := b_g_7.lt
              go_wp2_with fail
              clear k_e l_e k_b l_b k_o l_o k_g l_g
              refine (true_any (evs := [_]) (D := D) (cn := cn) (ct := ct) ((ExR (D + 1)).keep HB7.out hB HE.out) (HN.out.keep HB7.out hB) (HT.out.keep HB7.out hB) (Nat.le_trans hB HB7.out.size) ((HB7.out.cell (p := ⟨0, 0, none⟩) h0).trans HM.out) (Nat.lt_of_lt_of_le h0 HB7.out.size)).mono ?_
              rintro x w8 ⟨rfl, hb⟩
              have b_e_8 := b_e_7.later hb
              have b_b_8 := b_b_7.later hb
              have b_o_8 := b_o_7.later hb
              have b_g_8 := b_g_7.later hb
              have HB8 := Lib.hid (bthen HB7.out hb)
              have HZ8 := Lib.hid hb
              clear b_e_7 b_b_7 b_o_7 b_g_7
              clear hb
              rw [HU1.out, HU2.out]
              have k_e := b_e_8.cell
              have l_e := b_e_8.lt
              have k_b := b_b_8.cell
              have l_b := b_b_8.lt
              have k_o := b_o_8.cell
              have l_o := b_o_8.lt
              have k_g := b_g_8.cell
              have l_g := b_g_8.lt
              go_wp2_with fail
              clear k_e l_e k_b l_b k_o l_o k_g l_g
              refine (true_any (evs := [_]) (D := D) (cn := cn) (ct := ct) ((ExR (D + 1)).keep HZ8.out (Nat.le_refl _) HEX.out) ((HN.out.keep HB8.out hB).wide hB7) ((HT.out.keep HB8.out hB).wide hB7) HZ8.out.size ((HB8.out.cell (p := ⟨0, 0, none⟩) h0).trans HM.out) (Nat.lt_of_lt_of_le h0 HB8.out.size)).mono ?_
              rintro x w9 ⟨rfl, hb⟩
              have b_e_9 := b_e_8.later hb
              have b_b_9 := b_b_8.later hb
              have b_o_9 := b_o_8.later hb
              have b_g_9 := b_g_8.later hb
              have HB9 := Lib.hid (bthen HB8.out hb)
              have HZ9 := Lib.hid (bthen HZ8.out hb)
              clear b_e_8 b_b_8 b_o_8 b_g_8
              clear hb
              rw [HV1.out, HV2.out]
              have k_e := b_e_9.cell
              have l_e := b_e_9.lt
              have k_b := b_b_9.cell
              have l_b := b_b_9.lt
              have k_o := b_o_9.cell
              have l_o := b_o_9.lt
              have k_g := b_g_9.cell
              have l_g := b_g_9.lt
              go_wp2_with fail
              clear k_e l_e k_b l_b k_o l_o k_g l_g
              refine (eval_any (evs := [_]) (D := D) (cn := cn) (ct := ct) ((ExR (D + 1)).keep HB9.out hB HE.out) (HN.out.keep HB9.out hB) (HT.out.keep HB9.out hB) (Nat.le_trans hB HB9.out.size) ((HB9.out.cell (p := ⟨0, 0, none⟩) h0).trans HM.out) (Nat.lt_of_lt_of_le h0 HB9.out.size)).mono ?_
              intro z w10 hz
              have hz : ReadE D w9 w10 (evalE b ops) z := hz
              obtain ⟨⟨A9, c9, rfl, _⟩, hb⟩ := hz
              have b_e_10 := b_e_9.later hb
              have b_b_10 := b_b_9.later hb
              have b_o_10 := b_o_9.later hb
              have b_g_10 := b_g_9.later hb
              have HB10 := Lib.hid (bthen HB9.out hb)
              have HZ10 := Lib.hid (bthen HZ9.out hb)
              clear b_e_9 b_b_9 b_o_9 b_g_9 hb
              have hcs := true_cases HTX.out
              generalize evalE b ops = r at *
              clear HU1 HU2 HV1 HV2 HTX
              have k_e := b_e_10.cell
              have l_e := b_e_10.lt
              have k_b := b_b_10.cell
              have l_b := b_b_10.lt
              have k_o := b_o_10.cell
              have l_o := b_o_10.lt
              have k_g := b_g_10.cell
              have l_g := b_g_10.lt
              go_upto_region 8 with fail
              clear k_e l_e k_b l_b k_o l_o k_g l_g
              generalize hW : World.alloc _ _ = w11
              obtain ⟨hb, hz⟩ := al1 hW
              have b_x_11 := n11 hW
              have b_e_11 := b_e_10.later hb
              have b_b_11 := b_b_10.later hb
              have b_o_11 := b_o_10.later hb
              have b_g_11 := b_g_10.later hb
              have HB11 := Lib.hid (bthen HB10.out hb)
              have HZ11 := Lib.hid (bthen HZ10.out hb)
              clear b_e_10 b_b_10 b_o_10 b_g_10
              clear hW hz hb
              have hcs2 := hcs
              generalize r.2 = rf at *
              generalize r.1.kind = kd at *
              generalize r.1.n = nn at *
              clear hcs
              rcases hcs2 with ⟨hf, rfl, hrf | ⟨rfl, rfl⟩⟩ | ⟨rfl, rfl, rfl, hx⟩
              · subst hrf
                have g1 : (rf != 0) = true := by simpa using hf
                have g2 : (rf == rf) = true := by simp
                clear hf
                have k_e := b_e_11.cell
                have l_e := b_e_11.lt
                have k_b := b_b_11.cell
                have l_b := b_b_11.lt
                have k_o := b_o_11.cell
                have l_o := b_o_11.lt
                have k_g := b_g_11.cell
                have l_g := b_g_11.lt
                have k_x := b_x_11.cell
                have l_x := b_x_11.lt
                go_wp2_with fail
                clear k_e l_e k_b l_b k_o l_o k_g l_g k_x l_x
                refine (awake12_any ((HB11.out.cell (p := ⟨0, 0, none⟩) h0).trans HM.out) (Nat.lt_of_lt_of_le h0 HB11.out.size)).mono ?_
                rintro x w12 ⟨rfl, hb⟩
                have b_e_12 := b_e_11.later hb
                have b_b_12 := b_b_11.later hb
                have b_o_12 := b_o_11.later hb
                have b_g_12 := b_g_11.later hb
                have b_x_12 := b_x_11.later hb
                have HB12 := Lib.hid (bthen HB11.out hb)
                have HZ12 := Lib.hid (bthen HZ11.out hb)
                clear b_e_11 b_b_11 b_o_11 b_g_11 b_x_11
                clear hb
                have k_e := b_e_12.cell
                have l_e := b_e_12.lt
                have k_b := b_b_12.cell
                have l_b := b_b_12.lt
                have k_o := b_o_12.cell
                have l_o := b_o_12.lt
                have k_g := b_g_12.cell
                have l_g := b_g_12.lt
                have k_x := b_x_12.cell
                have l_x := b_x_12.lt
                go_wp2_with fail
                clear k_e l_e k_b l_b k_o l_o k_g l_g k_x l_x
                go_ret
                exact ⟨rfl, HB12.out⟩
              · clear hf
                have k_e := b_e_11.cell
                have l_e := b_e_11.lt
                have k_b := b_b_11.cell
                have l_b := b_b_11.lt
                have k_o := b_o_11.cell
                have l_o := b_o_11.lt
                have k_g := b_g_11.cell
                have l_g := b_g_11.lt
                have k_x := b_x_11.cell
                have l_x := b_x_11.lt
                go_wp2_with fail
                clear k_e l_e k_b l_b k_o l_o k_g l_g k_x l_x
                refine (awake12_any ((HB11.out.cell (p := ⟨0, 0, none⟩) h0).trans HM.out) (Nat.lt_of_lt_of_le h0 HB11.out.size)).mono ?_
                rintro x w12 ⟨rfl, hb⟩
                have b_e_12 := b_e_11.later hb
                have b_b_12 := b_b_11.later hb
                have b_o_12 := b_o_11.later hb
                have b_g_12 := b_g_11.later hb
                have b_x_12 := b_x_11.later hb
                have HB12 := Lib.hid (bthen HB11.out hb)
                have HZ12 := Lib.hid (bthen HZ11.out hb)
                clear b_e_11 b_b_11 b_o_11 b_g_11 b_x_11
                clear hb
                have k_e := b_e_12.cell
                have l_e := b_e_12.lt
                have k_b := b_b_12.cell
                have l_b := b_b_12.lt
                have k_o := b_o_12.cell
                have l_o := b_o_12.lt
                have k_g := b_g_12.cell
                have l_g := b_g_12.lt
                have k_x := b_x_12.cell
                have l_x := b_x_12.lt
                go_wp2_with fail
                clear k_e l_e k_b l_b k_o l_o k_g l_g k_x l_x
                go_ret
                exact ⟨rfl, HB12.out⟩
              · have g1 : (nn == 1) = x_ := by rw [hx]; rfl
                have g2 : (x_ == x_) = true := by simp
                clear hx
                have k_e := b_e_11.cell
                have l_e := b_e_11.lt
                have k_b := b_b_11.cell
                have l_b := b_b_11.lt
                have k_o := b_o_11.cell
                have l_o := b_o_11.lt
                have k_g := b_g_11.cell
                have l_g := b_g_11.lt
                have k_x := b_x_11.cell
                have l_x := b_x_11.lt
                go_wp2_with fail
                clear k_e l_e k_b l_b k_o l_o k_g l_g k_x l_x
                refine (awake12_any ((HB11.out.cell (p := ⟨0, 0, none⟩) h0).trans HM.out) (Nat.lt_of_lt_of_le h0 HB11.out.size)).mono ?_
                rintro x w12 ⟨rfl, hb⟩
                have b_e_12 := b_e_11.later hb
                have b_b_12 := b_b_11.later hb
                have b_o_12 := b_o_11.later hb
                have b_g_12 := b_g_11.later hb
                have b_x_12 := b_x_11.later hb
                have HB12 := Lib.hid (bthen HB11.out hb)
                have HZ12 := Lib.hid (bthen HZ11.out hb)
                clear b_e_11 b_b_11 b_o_11 b_g_11 b_x_11
                clear hb
                have k_e := b_e_12.cell
                have l_e := b_e_12.lt
                have k_b := b_b_12.cell
                have l_b := b_b_12.lt
                have k_o := b_o_12.cell
                have l_o := b_o_12.lt
                have k_g := b_g_12.cell
                have l_g := b_g_12.lt
                have k_x := b_x_12.cell
                have l_x := b_x_12.lt
                go_wp2_with fail
                clear k_e l_e k_b l_b k_o l_o k_g l_g k_x l_x
                go_ret
                exact ⟨rfl, HB12.out⟩
          · simp only [Bool.not_eq_true] at hb1
            rw [hb1]
            have k_e := b_e_5.cell
            have l_e := b_e_5.lt
            have k_b := b_b_5.cell
            have l_b := b_b_5.lt
            go_wp2_with fail
            clear k_e l_e k_b l_b
            refine (awake12_any ((HB5.out.cell (p := ⟨0, 0, none⟩) h0).trans HM.out) (Nat.lt_of_lt_of_le h0 HB5.out.size)).mono ?_
            rintro x w6 ⟨rfl, hb⟩
            have b_e_6 := b_e_5.later hb
            have b_b_6 := b_b_5.later hb
            have HB6 := Lib.hid (bthen HB5.out hb)
            clear b_e_5 b_b_5
            clear hb
            have k_e := b_e_6.cell
            have l_e := b_e_6.lt
            have k_b := b_b_6.cell
            have l_b := b_b_6.lt
            go_wp2_with fail
            clear k_e l_e k_b l_b
            go_ret
            exact ⟨rfl, HB6.out⟩
        · have g30 : decide ((ops.length : Int) > 30) = true := by simp; omega
          have k_e := b_e_4.cell
          have l_e := b_e_4.lt
          have k_b := b_b_4.cell
          have l_b := b_b_4.lt
          go_wp2_with fail
          clear k_e l_e k_b l_b
          refine (awake12_any ((HB4.out.cell (p := ⟨0, 0, none⟩) h0).trans HM.out) (Nat.lt_of_lt_of_le h0 HB4.out.size)).mono ?_
          rintro x w5 ⟨rfl, hb⟩
          have b_e_5 := b_e_4.later hb
          have b_b_5 := b_b_4.later hb
          have HB5 := Lib.hid (bthen HB4.out hb)
          clear b_e_4 b_b_4
          clear hb
          have k_e := b_e_5.cell
          have l_e := b_e_5.lt
          have k_b := b_b_5.cell
          have l_b := b_b_5.lt
          go_wp2_with fail
          clear k_e l_e k_b l_b
          go_ret
          exact ⟨rfl, HB5.out⟩
      · simp only [Bool.not_eq_true] at hm1
        rw [hm1]
        have k_e := b_e_4.cell
        have l_e := b_e_4.lt
        have k_b := b_b_4.cell
        have l_b := b_b_4.lt
        go_wp2_with fail
        clear k_e l_e k_b l_b
        refine (awake12_any ((HB4.out.cell (p := ⟨0, 0, none⟩) h0).trans HM.out) (Nat.lt_of_lt_of_le h0 HB4.out.size)).mono ?_
        rintro x w5 ⟨rfl, hb⟩
        have b_e_5 := b_e_4.later hb
        have b_b_5 := b_b_4.later hb
        have HB5 := Lib.hid (bthen HB4.out hb)
        clear b_e_4 b_b_4
        clear hb
        have k_e := b_e_5.cell
        have l_e := b_e_5.lt
        have k_b := b_b_5.cell
        have l_b := b_b_5.lt
        go_wp2_with fail
        clear k_e l_e k_b l_b
        go_ret
        exact ⟨rfl, HB5.out⟩
end Go.Proofs.YtiplipdigabidaaGreat
