/- A region that draws its order: one condition on the world that every operation keeps, and no last operation that waits for all others. -/
import Derived.Test.YtkdonhhbpacgmaaGreatJoAw4
import Derived.Test.YtkdonhhbpacgmaaGreatHeld
set_option linter.unusedVariables false
set_option linter.unusedSimpArgs false
namespace Go.Proofs.YtkdonhhbpacgmaaGreat
open Go.ChangeShapes Go.WideShapes Go.ChangeAt Go.RowKit
structure An1 where
 an : Option Addr
 cn : Nat
 at_ : Option Addr
 ct : Nat
def An1.cs (x : An1) : List Value := [.slice x.an 1 x.cn, .slice x.at_ 1 x.ct, .int .u32 1]
def AnR : Reader An1 where
 k := 3
 rd := fun _ _ x vs => vs = x.cs
 keep := fun _ _ h => h
 wide := fun _ h => h
 len := fun h => by subst h; rfl
theorem single_an : Single AnR := fun {w B x vs} h u hu => by
 obtain rfl : vs = x.cs := h
 simp only [An1.cs, List.mem_cons, List.not_mem_nil, or_false] at hu
 rcases hu with rfl | rfl | rfl <;> rfl
theorem infoAn : (Tryz.prog.info? 68).map (fun i => (i.zero, i.size, i.bytes)) = some (some (.agg #[.slice none 0 0, .slice none 0 0, .int .u32 0]), 3, 56) := by kernel_rfl
def wkV (D cD S : Nat) (held : Int) (out : Value) : Array Value := #[.string ⟨#[]⟩, .slice none 0 0, .slice (some ⟨D, 0, none⟩) 1 cD, .slice none 0 0, .slice none 0 0, .pointer (some ⟨S, 0, none⟩), .int .u32 1, .int .i64 held, out, .int .i64 0]
set_option maxRecDepth 100000 in
set_option maxHeartbeats 4000000 in
theorem ends1_any {W D cD S : Nat} {held : Int} {x : An1} {w : World} (hW : Blk w W (wkV D cD S held (.slice none 0 0))) : Calls Tryz.prog 72 #[.pointer (some ⟨W, 0, none⟩), .agg #[.slice x.an 1 x.cn, .slice x.at_ 1 x.ct, .int .u32 1]] w fun z w' => z = .returned (.tuple #[]) ∧ Exc W w w' ∧ ∃ A c, Blk w' W (wkV D cD S held (.slice A 1 c)) ∧ OwnR AnR 68 w' w.heap.size 0 (.slice A 1 c) [x] := by
 have HW := Lib.hid hW
 have hwl := hW.lt
 unfold wkV at HW
 clear hW
 obtain ⟨i0, hi0, hz0, hz1, hz2⟩ := info_parts infoAn
 go_enter Tryz.func72, Tryz.ntmps72
 go_upto_region 1 with fail
 generalize hWW : World.alloc _ _ = w1
 obtain ⟨hb1, hz⟩ := al1 hWW
 have HA1 := Lib.hid (n11 hWW)
 have HW1 := Lib.hid (HW.out.later hb1)
 have HB1 := Lib.hid hb1
 clear hWW hb1
 have k_w := HW1.out.cell
 have l_w := HW1.out.lt
 go_upto_region 2 with fail
 clear k_w l_w
 go_loopw [14] (fun i wr => i = .int .i64 0 ∧ Hid (Below w1.heap.size w1 wr)) (fun _ _ => 0)
 case atStart => exact ⟨rfl, Lib.hid (Below.refl _ _)⟩
 case round =>
   obtain ⟨rfl, HWR⟩ := hrel
   have HAr := Lib.hid (HA1.out.later HWR.out)
   have HWr := Lib.hid (HW1.out.later HWR.out)
   have HBr := Lib.hid (bthen HB1.out HWR.out)
   have hszr := HBr.out.size
   go_upto_region 9 with fail
   have HSL : Hid (∀ {w' : World}, Below wr.heap.size wr w' → (w'.cell? ⟨W, 8, none⟩ = some (.slice none 0 0) ∧ w'.cell? ⟨w.heap.size, 0, none⟩ = some (.slice x.an 1 x.cn) ∧ w'.cell? ⟨w.heap.size, 1, none⟩ = some (.slice x.at_ 1 x.ct) ∧ w'.cell? ⟨w.heap.size, 2, none⟩ = some (.int .u32 1))) := Lib.hid (fun hb => have h := (HAr.out.later hb).cell; ⟨(HWr.out.later hb).cell 8, h 0, h 1, h 2⟩)
   refine wp_region_upto (S := fun w' => w'.cell? ⟨W, 8, none⟩ = some (.slice none 0 0) ∧ w'.cell? ⟨w.heap.size, 0, none⟩ = some (.slice x.an 1 x.cn) ∧ w'.cell? ⟨w.heap.size, 1, none⟩ = some (.slice x.at_ 1 x.ct) ∧ w'.cell? ⟨w.heap.size, 2, none⟩ = some (.int .u32 1)) 10 (by kernel_rfl) (by kernel_rfl) (by kernel_rfl) (by kernel_rfl) (HSL.out (Below.refl _ _).drew) ?_
   refine upto_take (i := 0) (v := ?v1_) (by simp only [List.getElem?_toArray, List.getElem?_cons_succ, List.getElem?_cons_zero]; rfl) (by kernel_rfl) (by kernel_rfl) (by kernel_rfl) (by kernel_rfl) ?hq1_ ?hw1_ ?hy1_ ?rest1_
   case hq1_ => exact fun _ _ _ h => h
   case hw1_ => rfl
   case hy1_ => (intro w' hS'; (try dsimp only at hS'); go_simp; (try with_reducible rfl))
   (try simp only [Act.put, List.setIfInBounds_toArray, List.set_cons_zero, List.set_cons_succ])
   refine upto_take (i := 1) (v := ?v2_) (by simp only [List.getElem?_toArray, List.getElem?_cons_succ, List.getElem?_cons_zero]; rfl) (by kernel_rfl) (by kernel_rfl) (by kernel_rfl) (by kernel_rfl) ?hq2_ ?hw2_ ?hy2_ ?rest2_
   case hq2_ => exact fun _ _ _ h => h
   case hw2_ => rfl
   case hy2_ => (intro w' hS'; (try dsimp only at hS'); go_simp; (try with_reducible rfl))
   (try simp only [Act.put, List.setIfInBounds_toArray, List.set_cons_zero, List.set_cons_succ])
   refine upto_take (i := 2) (v := ?v3_) (by simp only [List.getElem?_toArray, List.getElem?_cons_succ, List.getElem?_cons_zero]; rfl) (by kernel_rfl) (by kernel_rfl) (by kernel_rfl) (by kernel_rfl) ?hq3_ ?hw3_ ?hy3_ ?rest3_
   case hq3_ => exact fun _ _ _ h => h
   case hw3_ => rfl
   case hy3_ => (intro w' hS'; (try dsimp only at hS'); go_simp; (try with_reducible rfl))
   (try simp only [Act.put, List.setIfInBounds_toArray, List.set_cons_zero, List.set_cons_succ])
   refine upto_take (i := 3) (v := ?v4_) (by simp only [List.getElem?_toArray, List.getElem?_cons_succ, List.getElem?_cons_zero]; rfl) (by kernel_rfl) (by kernel_rfl) (by kernel_rfl) (by kernel_rfl) ?hq4_ ?hw4_ ?hy4_ ?rest4_
   case hq4_ => exact fun _ _ _ h => h
   case hw4_ => rfl
   case hy4_ => (intro w' hS'; (try dsimp only at hS'); go_simp; (try with_reducible rfl))
   (try simp only [Act.put, List.setIfInBounds_toArray, List.set_cons_zero, List.set_cons_succ])
   refine upto_take (i := 4) (v := ?v5_) (by simp only [List.getElem?_toArray, List.getElem?_cons_succ, List.getElem?_cons_zero]; rfl) (by kernel_rfl) (by kernel_rfl) (by kernel_rfl) (by kernel_rfl) ?hq5_ ?hw5_ ?hy5_ ?rest5_
   case hq5_ => exact fun _ _ _ h => h
   case hw5_ => rfl
   case hy5_ => (intro w' hS'; (try dsimp only at hS'); go_simp; (try with_reducible rfl))
   (try simp only [Act.put, List.setIfInBounds_toArray, List.set_cons_zero, List.set_cons_succ])
   refine upto_take (i := 5) (v := ?v6_) (by simp only [List.getElem?_toArray, List.getElem?_cons_succ, List.getElem?_cons_zero]; rfl) (by kernel_rfl) (by kernel_rfl) (by kernel_rfl) (by kernel_rfl) ?hq6_ ?hw6_ ?hy6_ ?rest6_
   case hq6_ => exact fun _ _ _ h => h
   case hw6_ => rfl
   case hy6_ => (intro w' hS'; (try dsimp only at hS'); go_simp; (try with_reducible rfl))
   (try simp only [Act.put, List.setIfInBounds_toArray, List.set_cons_zero, List.set_cons_succ])
   generalize hD : World.drew wr = u_0
   have HU_0 : Hid (Below wr.heap.size wr u_0) := Lib.hid (hD ▸ (Below.refl _ _).drew)
   have hs_0 := HU_0.out.size
   clear hD
   refine upto_ready (rs := [6]) (by kernel_rfl) rfl (by kernel_rfl) ?_
   refine AllUpto.cons (by simp only [List.getElem?_toArray, List.getElem?_cons_succ, List.getElem?_cons_zero]; rfl) (fun K hK => ?_) AllUpto.nil
   go_simp
   generalize hWW : World.alloc _ _ = u_1
   obtain ⟨hb, hz⟩ := al1 hWW
   have HU_1 : Hid (Below wr.heap.size wr u_1) := Lib.hid (HU_0.out.trans (hb.mono HU_0.out.size))
   have hp : Hid (u_1.heap[u_0.heap.size]? = some (.cells #[.slice x.an 1 x.cn, .slice x.at_ 1 x.ct, .int .u32 1] 68 (0, 0))) := Lib.hid (hWW ▸ heap_alloc_new _ _)
   clear hWW hb hz
   refine hK.out _ _ (HSL.out HU_1.out) ?_
   clear hK
   (try simp only [Act.put, List.setIfInBounds_toArray, List.set_cons_zero, List.set_cons_succ])
   refine upto_ready (rs := [7]) (by kernel_rfl) rfl (by kernel_rfl) ?_
   refine AllUpto.cons (by simp only [List.getElem?_toArray, List.getElem?_cons_succ, List.getElem?_cons_zero]; rfl) (fun K hK => ?_) AllUpto.nil
   refine step_append_F (R := AnR) (e := 68) rfl (.tmp 38) (.tmp 40) 62 rfl (bytes := 56) Tryz.underlying62 hi0 hz0 hz1 hz2 rfl (show 0 < 3 by omega) single_an rfl (base := wr.heap.size) (xs := []) (ys := [x]) (OwnR.nil _ _ _ _ _) rfl (src0 hp.out (Flat.one rfl)) rfl (by simp) (by omega) HU_1.out.size ?_
   intro v u_2 hown hg hf
   have hbb : Below wr.heap.size u_1 u_2 := (Below.refl wr.heap.size u_1).grown hg HU_1.out.size (fun k hk => by cases hk)
   have HU_2 : Hid (Below wr.heap.size wr u_2) := Lib.hid (HU_1.out.trans hbb)
   obtain ⟨A2, c2, hv⟩ : ∃ A c, v = .slice A 1 c := by have := hown.form; rwa [List.nil_append] at this
   subst hv
   have HO := Lib.hid hown
   have HW9 := Lib.hid (HWr.out.later HU_2.out)
   have f_w := HW9.out.free
   have k_w := HW9.out.cell
   clear hown hg hf hbb
   refine hK.out _ _ (HSL.out HU_2.out) ?_
   clear hK
   (try simp only [Act.put, List.setIfInBounds_toArray, List.set_cons_zero, List.set_cons_succ])
   refine upto_take (i := 8) (v := ?v7_) (by simp only [List.getElem?_toArray, List.getElem?_cons_succ, List.getElem?_cons_zero]; rfl) (by kernel_rfl) (by kernel_rfl) (by kernel_rfl) (by kernel_rfl) ?hq7_ ?hw7_ ?hy7_ ?rest7_
   case hq7_ => exact fun _ _ _ h => h
   case hw7_ => rfl
   case hy7_ => (intro w' hS'; (try dsimp only at hS'); go_simp; (try with_reducible rfl))
   (try simp only [Act.put, List.setIfInBounds_toArray, List.set_cons_zero, List.set_cons_succ])
   refine upto_take (i := 9) (v := ?v8_) (by simp only [List.getElem?_toArray, List.getElem?_cons_succ, List.getElem?_cons_zero]; rfl) (by kernel_rfl) (by kernel_rfl) (by kernel_rfl) (by kernel_rfl) ?hq8_ ?hw8_ ?hy8_ ?rest8_
   case hq8_ => exact fun _ _ _ h => h
   case hw8_ => rfl
   case hy8_ => (intro w' hS'; (try dsimp only at hS'); go_simp; (try with_reducible rfl))
   (try simp only [Act.put, List.setIfInBounds_toArray, List.set_cons_zero, List.set_cons_succ])
   refine upto_last (by kernel_rfl) (by kernel_rfl) (by simp only [List.getElem?_toArray, List.getElem?_cons_succ, List.getElem?_cons_zero]; rfl) (fun K hK => ?_)
   go_simp
   refine hK.out _ _ ?_
   (try simp only [Act.put, List.setIfInBounds_toArray, List.set_cons_zero, List.set_cons_succ])
   go_wp2_with fail
   go_end0
   have hww : W < wr.heap.size := by omega
   exact ⟨rfl, (Exc.of (Nat.le_of_lt hwl) (HBr.out.trans (HU_2.out.mono hszr))).set 8 _, A2, c2, HW9.out.set_ 8 _, (HO.out.far hww (Nat.zero_le _) _).lower hszr⟩
theorem own_a1 {w : World} {base c : Nat} {A : Option Addr} {x : An1} (h : OwnR AnR 68 w base 0 (.slice A 1 c) [x]) : ∃ g, A = some ⟨g, 0, none⟩ ∧ base ≤ g ∧ g < w.heap.size ∧ 1 ≤ c ∧ c ≤ 9223372036854775807 ∧ w.cell? ⟨g, 0, none⟩ = some (.slice x.an 1 x.cn) ∧ w.cell? ⟨g, 1, none⟩ = some (.slice x.at_ 1 x.ct) ∧ w.cell? ⟨g, 2, none⟩ = some (.int .u32 1) := by
 obtain ⟨cells, ⟨hl, h⟩, hf⟩ := h
 rcases h with ⟨_, h2⟩ | ⟨g, cap, cur, hv, hg, hh, k1, k2, k3, k4⟩
 · simp at h2
 · simp only [Value.slice.injEq] at hv
   obtain ⟨rfl, _, rfl⟩ := hv
   have h0 : (cells.drop (0 * AnR.k)).take AnR.k = x.cs := hf.2 0 (by simp)
   have h3 : cells.length = 3 := by simpa [AnR] using hl
   rw [Nat.zero_mul, List.drop_zero, List.take_of_length_le (by rw [h3]; exact Nat.le_refl 3)] at h0
   have hc : ∀ j u, cells[j]? = some u → w.cell? ⟨g, j, none⟩ = some u := fun j u hj => by
     refine (cell_of_row w g j cur _ (0, 0) hh).trans ?_
     rw [← k4, List.getElem?_take] at hj
     split at hj
     · simpa using hj
     · cases hj
   rw [h0] at hc
   exact ⟨g, rfl, hg, (Array.getElem?_eq_some_iff.1 hh).1, k1, k2, hc 0 _ rfl, hc 1 _ rfl, hc 2 _ rfl⟩
set_option maxRecDepth 100000 in
set_option maxHeartbeats 4000000 in
theorem compact1_any {g c : Nat} {F : Value} {w : World} : Calls Tryz.prog 44 #[.slice (some ⟨g, 0, none⟩) 1 c, F] w fun z w' => z = .returned (.slice (some ⟨g, 0, none⟩) 1 c) ∧ w = w' := by
 go_enter Tryz.func44, Tryz.ntmps44
 go_wp2_with fail
 go_ret
 exact ⟨rfl, rfl⟩
set_option maxRecDepth 100000 in
set_option maxHeartbeats 4000000 in
theorem insertion1_any {g c : Nat} {F : Value} {w : World} : Calls Tryz.prog 116 #[.slice (some ⟨g, 0, none⟩) 1 c, .int .i64 0, .int .i64 1, F] w fun z w' => z = .returned (.tuple #[]) ∧ w = w' := by
 go_enter Tryz.func116, Tryz.ntmps116
 go_wp2_with fail
 go_loopw [8] (fun i wr => i = .int .i64 1 ∧ w = wr) (fun _ _ => 0)
 case atStart => exact ⟨rfl, rfl⟩
 case round =>
   obtain ⟨rfl, rfl⟩ := hrel
   go_wp2_with fail
   go_end0
   exact ⟨rfl, rfl⟩
set_option maxRecDepth 100000 in
set_option maxHeartbeats 4000000 in
theorem pdq1_any {g c : Nat} {l : Int} {F : Value} {w : World} : Calls Tryz.prog 74 #[.slice (some ⟨g, 0, none⟩) 1 c, .int .i64 0, .int .i64 1, .int .i64 l, F] w fun z w' => z = .returned (.tuple #[]) ∧ w = w' := by
 go_enter Tryz.func74, Tryz.ntmps74
 go_wp2_with fail
 go_loopw [1, 2, 3, 10, 11] (fun a b q r t wr => a = .int .i64 0 ∧ b = .int .i64 1 ∧ q = .int .i64 l ∧ w = wr) (fun _ _ _ _ _ _ => 0)
 case atStart => exact ⟨rfl, rfl, rfl, rfl⟩
 case round =>
   obtain ⟨rfl, rfl, rfl, rfl⟩ := hrel
   go_wp2_with fail
   refine insertion1_any.mono ?_
   rintro e w2 ⟨rfl, rfl⟩
   go_wp2_with fail
   refine bodyPost_ret (results_none rfl _ _ _) rfl ?_
   exact ⟨rfl, rfl⟩
set_option maxRecDepth 100000 in
set_option maxHeartbeats 4000000 in
theorem sort1_any {g c : Nat} {F : Value} {w : World} : Calls Tryz.prog 42 #[.slice (some ⟨g, 0, none⟩) 1 c, F] w fun z w' => z = .returned (.tuple #[]) ∧ w = w' := by
 go_enter Tryz.func42, Tryz.ntmps42
 go_wp2_with fail
 refine (Tryz.bits_Len 1 w (by decide) (by decide)).mono ?_
 rintro e w2 ⟨rfl, rfl⟩
 go_wp2_with fail
 refine pdq1_any.mono ?_
 rintro e w3 ⟨rfl, rfl⟩
 go_wp2_with fail
 go_end0
 exact ⟨rfl, rfl⟩
section
variable {P : Program} {md : Region.Mode} {ops : Array Oper} {Q : Exit → Act → World → Prop} {S : World → Prop}
theorem ready_lt {j : Nat} {l : Array Bool} (hj : j ∈ Region.ready md ops l) : j < ops.size := by
 obtain ⟨_, oj, hoj, _⟩ := mem_ready.1 hj
 exact (Array.getElem?_eq_some_iff.1 hoj).1
theorem uptoA_first {i : Nat} {oi : Oper} {v : Value} (hi : ops[i]? = some oi) (hsel : ∀ (j : Nat) (o : Oper) cs b, ops[j]? = some o → o.op ≠ .select cs b)
   (hQ : ∀ c a w, Q (.panic c) (a.put oi.dst v) w → Q (.panic c) a w) :
   ∀ (f : Nat) (l : Array Bool) (a : Act) (w : World),
     (∀ j oj, ops[j]? = some oj → j ≠ i → l.getD j true = false → (∀ e ∈ oj.after, Region.binds md e = true → e.on ≠ i) → oi.apart ops oj = true) →
     i ∈ Region.ready md ops l → YieldsIf P ops S oi v a → S w →
     wpUpto P md ops Q S ops.size f (l.setIfInBounds i true) (a.put oi.dst v) w → wpUpto P md ops Q S ops.size (f + 1) l a w := by
 intro f
 induction f with
 | zero =>
   intro l a w _ hr hy hS H
   refine ⟨fun h => (by rw [h] at hr; cases hr), fun j hj => ?_⟩
   by_cases hji : j = i
   · subst hji; exact hy.wpOp hi hS ⟨fun _ => hS, H⟩
   · have h1 := ready_mono hj hji
     rw [H.1] at h1
     cases h1
 | succ f ih =>
   intro l a w hfree hr hy hS H
   refine ⟨fun h => (by rw [h] at hr; cases hr), fun j hj => ?_⟩
   by_cases hji : j = i
   · subst hji; exact hy.wpOp hi hS ⟨fun _ => hS, H⟩
   · have hjn := ready_lt hj
     have h1 := H.2 j (ready_mono hj hji)
     obtain ⟨hjun, oj, hoj, hall⟩ := mem_ready.1 hj
     have hnot : ∀ e ∈ oj.after, Region.binds md e = true → e.on ≠ i := fun e he hb heq => by
       have k1 := hall e he hb
       have k0 := (mem_ready.1 hr).1
       rw [heq] at k1
       rw [getD_both k0] at k1
       cases k1
     have h2 := wpOp_putIf hoj (hfree j oj hoj hji hjun hnot) (fun cs b => hsel i oi cs b hi) (fun cs b => hsel j oj cs b hoj) hQ hy h1
     have hfree' : ∀ k ok, ops[k]? = some ok → k ≠ i → (l.setIfInBounds j true).getD k true = false →
         (∀ e ∈ ok.after, Region.binds md e = true → e.on ≠ i) → oi.apart ops ok = true := fun k ok hk hki hun hno => by
       refine hfree k ok hk hki ?_ hno
       by_cases hjk : j = k
       · subst hjk; exact hjun
       · rw [getD_set_ne true hjk] at hun; exact hun
     refine wpOp_mono (fun a' w' h3 => ⟨h3.2.1, ih (l.setIfInBounds j true) a' w' hfree' (ready_mono hr (Ne.symm hji)) h3.1 (h3.2.1 hjn) ?_⟩) h2
     rw [Array.setIfInBounds_comm _ _ hji]
     exact h3.2.2
def UptoA (P : Program) (md : Region.Mode) (ops : Array Oper) (Q : Exit → Act → World → Prop) (S : World → Prop) (f : Nat) (l : Array Bool) (a : Act) (w : World) : Prop :=
 S w → wpUpto P md ops Q S ops.size f l a w
theorem uptoA_take {i : Nat} {oi : Oper} {v : Value} {f : Nat} {l : Array Bool} {a : Act} {w : World} (hi : ops[i]? = some oi)
   (hs : Region.noSelect ops = true) (hf : Region.free md ops l i = true) (hr : (Region.ready md ops l).contains i = true)
   (hQ : ∀ c a w, Q (.panic c) (a.put oi.dst v) w → Q (.panic c) a w) (hw : Region.wanted oi (yielded ops a.tmps) = true) (hy : ∀ w, S w → (execOp a.eval oi).run P w = .ok (.value v) w)
   (h : UptoA P md ops Q S f (l.setIfInBounds i true) (a.put oi.dst v) w) : UptoA P md ops Q S (f + 1) l a w := fun hS => by
 have hri : i ∈ Region.ready md ops l := by simpa using hr
 exact uptoA_first hi (Region.noSelect_spec hs) hQ f l a w (Region.free_spec hi hf) hri (.inl ⟨hw, hy⟩) hS (h hS)
def AllUptoA (P : Program) (md : Region.Mode) (ops : Array Oper) (Q : Exit → Act → World → Prop) (S : World → Prop) (f : Nat) (l : Array Bool) (a : Act) (w : World) (rs : List Nat) : Prop :=
 ∀ i ∈ rs, wpOp P ops Q i (fun a' w' => S w' ∧ UptoA P md ops Q S f (l.setIfInBounds i true) a' w') a w
theorem AllUptoA.nil {f : Nat} {l : Array Bool} {a : Act} {w : World} : AllUptoA P md ops Q S f l a w [] := fun _ h => by cases h
theorem AllUptoA.cons {f : Nat} {l : Array Bool} {a : Act} {w : World} {i : Nat} {o : Oper} {rs : List Nat} (ho : ops[i]? = some o)
   (h : ∀ K' : Act → World → Prop, Shut (∀ a w, S w → UptoA P md ops Q S f (l.setIfInBounds i true) a w → K' a w) → if Region.wanted o (yielded ops a.tmps) = true then Oper.wp P o a w K' Q else K' (a.put o.dst undef) w)
   (hs : AllUptoA P md ops Q S f l a w rs) : AllUptoA P md ops Q S f l a w (i :: rs) := fun j hj => by
 rcases List.mem_cons.1 hj with rfl | hj
 · exact wpOp_step ho (fun K' hK => h K' (fun a w hS hW => hK a w ⟨hS, hW⟩))
 · exact hs j hj
theorem uptoA_ready {rs : List Nat} {f : Nat} {l : Array Bool} {a : Act} {w : World} (hr : Region.ready md ops l = rs) (hne : rs.isEmpty = false)
   (h : AllUptoA P md ops Q S f l a w rs) : UptoA P md ops Q S (f + 1) l a w := fun hS => by
 subst hr
 refine ⟨fun h0 => (by rw [h0] at hne; cases hne), fun i hi => wpOp_mono (fun a' w' h' => ⟨fun _ => h'.1, h'.2 h'.1⟩) (h i hi)⟩
theorem uptoA_done {f : Nat} {l : Array Bool} {a : Act} {w : World} (hr : Region.ready md ops l = []) (h : Q .normal a w) : UptoA P md ops Q S f l a w := fun _ => by
 cases f with
 | zero => exact ⟨hr, h⟩
 | succ f => exact ⟨fun _ => h, by rw [hr]; simp⟩
theorem wp_region_uptoA {id : Nat} {a : Act} {w : World} (S : World → Prop) (hm : P.follows .mixedOrders = true) (hS : S w.drew)
   (h : UptoA P .any ops Q S ops.size (Array.replicate ops.size false) a w.drew) : (Code.region id ops true).wp P Q a w :=
 wp_region_any hm (wpAny_of_upto _ _ _ _ (h hS))
end
end Go.Proofs.YtkdonhhbpacgmaaGreat
