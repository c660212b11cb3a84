/- viaticumref6.reach. -/
import Derived.Test.YtiplipdigabidaaGreatRq7
import Derived.Test.YtiplipdigabidaaGreatRqRun
import Derived.Test.YtiplipdigabidaaGreatMat2
import Derived.Deep.LoopGhost
import Derived.Deep.RegionHeld3
set_option linter.unusedVariables false
set_option linter.unusedSimpArgs false
namespace Go.Proofs.YtiplipdigabidaaGreat
open Go.ChangeShapes Go.WideShapes Go.ChangeAt Go.RowKit
theorem own_pop {w : World} {base c : Nat} {A : Option Addr} {xs : List Int} {k : Int} (h : OwnR IntR 3 w base 0 (.slice A (xs ++ [k]).length c) (xs ++ [k])) :
   ∃ g, A = some ⟨g, 0, none⟩ ∧ base ≤ g ∧ xs.length + 1 ≤ c ∧ c ≤ maxLen ∧ w.cell? ⟨g, xs.length, none⟩ = some (.int .i64 k) ∧ OwnR IntR 3 w base 0 (.slice (some ⟨g, 0, none⟩) xs.length c) xs := by
 obtain ⟨cells, ho, hf⟩ := h
 have hl : cells.length = xs.length + 1 := by have := hf.1; simpa [IntR] using this
 rcases ho.2 with ⟨h1, h2⟩ | ⟨g, cap, cur, hv, hg, hh, k1, k2, k3, k4⟩
 · simp at h2
 · simp only [Value.slice.injEq] at hv
   obtain ⟨rfl, _, rfl⟩ := hv
   rw [List.length_append, List.length_singleton] at k1
   have hcell : cells[xs.length]? = some (.int .i64 k) := by
     have := hf.2 xs.length (by simp)
     simp only [IntR, Nat.mul_one, List.getElem_append_right (Nat.le_refl _), Nat.sub_self, List.getElem_singleton] at this
     have h3 : ((cells.drop xs.length).take 1)[0]? = some (.int .i64 k) := by rw [this]; rfl
     rw [List.getElem?_take, if_pos (by omega), List.getElem?_drop] at h3
     simpa using h3
   have k4' := k4
   refine ⟨g, rfl, hg, k1, k2, ?_, cells.take xs.length, ⟨by simp [IntR, hl], .inr ⟨g, c, cur, rfl, hg, hh, by omega, k2, k3, ?_⟩⟩, ?_⟩
   · rw [cell_of_row w g _ cur 3 (0, 0) hh]
     rw [← k4, List.getElem?_take] at hcell
     split at hcell
     · simpa using hcell
     · cases hcell
   · have e2 : (xs ++ [k]).length * IntR.k = xs.length + 1 := by simp [IntR]
     rw [e2] at k4'
     rw [← k4', List.take_take]
     congr 1
     simp [IntR]
   · have := hf.take xs.length
     simpa [IntR] using this
theorem own_formI {e : TypeId} {w : World} {base n : Nat} {v : Value} {xs : List Int} (h : OwnR IntR e w base 0 v xs) (hn : xs.length = n) : ∃ A c, v = .slice A n c := by
 subst hn
 exact h.form
theorem int_src {w : World} {k : Int} : SrcR IntR (w.alloc (.cells #[.int .i64 k] 3)) 0 (some ⟨w.heap.size, 0, none⟩) [k] := Blk.src (R := IntR) (B := 0) (x := k) (Blk.new w #[.int .i64 k] 3) rfl
theorem int_src2 {w : World} {a b : Int} : SrcR IntR (w.alloc (.cells #[.int .i64 a, .int .i64 b] 3)) 0 (some ⟨w.heap.size, 0, none⟩) [a, b] := by
 have hB : BlkT (w.alloc (.cells #[.int .i64 a, .int .i64 b] 3)) w.heap.size [Value.int .i64 a, Value.int .i64 b].toArray 3 := heap_alloc_new w _
 exact OwnR.src (hB.own (R := IntR) (B := 0) (n := 2) (xs := [a, b]) ((Flat.one (R := IntR) (x := a) rfl).append (Flat.one (R := IntR) (x := b) rfl)) (Nat.le_refl _) rfl (by unfold maxLen; omega))
theorem int_src2d {w : World} {a b : Int} : SrcR IntR (w.alloc (.cells #[.int .i64 a, .int .i64 b] 3)).drew 0 (some ⟨w.heap.size, 0, none⟩) [a, b] := int_src2
theorem int_src2e {w : World} {a b : Int} : SrcR IntR (w.drew.alloc (.cells #[.int .i64 a, .int .i64 b] 3)) 0 (some ⟨w.heap.size, 0, none⟩) [a, b] := int_src2 (w := w.drew)
structure Rch (G : Nat) (w0 w : World) (on : List Bool) (todo : List Int) (v : Value) : Prop where
 gb : BlkT w G (boolsA on) 4
 ex : Exc G w0 w
 hG : G < w0.heap.size
 own : OwnR IntR 3 w w0.heap.size 0 v todo.reverse
section
variable {G : Nat} {w0 w w' : World} {on : List Bool} {todo todo' : List Int} {v v' : Value}
theorem Rch.later (h : Rch G w0 w on todo v) (hb : Below w.heap.size w w') : Rch G w0 w' on todo v := ⟨h.gb.later hb, h.ex.then (Nat.le_of_lt h.hG) hb, h.hG, h.own.later hb (Nat.zero_le _)⟩
theorem Rch.to (h : Rch G w0 w on todo v) (hb : Below w0.heap.size w w') (ho : OwnR IntR 3 w' w0.heap.size 0 v' todo'.reverse) : Rch G w0 w' on todo' v' := ⟨h.gb.keep hb h.hG, h.ex.own hb (Nat.le_refl _) h.hG, h.hG, ho⟩
theorem Rch.mark (h : Rch G w0 w on todo v) (k : Nat) : Rch G w0 (w.setCell ⟨G, k, none⟩ (.bool true)) (on.set k true) todo v :=
 ⟨by rw [boolsA_set]; exact h.gb.set_ k _, h.ex.set k _, h.hG, h.own.far h.hG (Nat.zero_le _) _⟩
end
theorem dfs_on {outs : Int → List Int} {n k : Nat} {todo : List Int} {on : List Bool} (h : on.getD k false = true) : dfs outs (n + 1) ((k : Int) :: todo) on = dfs outs n todo on := by
 show (if on.getD (k : Int).toNat false = true then _ else _) = _
 rw [Int.toNat_natCast, h, if_pos rfl]
theorem dfs_off {outs : Int → List Int} {n k : Nat} {todo : List Int} {on : List Bool} (h : on.getD k false = false) : dfs outs (n + 1) ((k : Int) :: todo) on = dfs outs n (outs k ++ todo) (on.set k true) := by
 show (if on.getD (k : Int).toNat false = true then _ else _) = _
 rw [Int.toNat_natCast, h, if_neg (by simp)]
theorem dfs_nil {outs : Int → List Int} {n : Nat} {on : List Bool} : dfs outs n [] on = on := by cases n <;> rfl
def ReachE (G : Nat) (n ca : Nat) (w w' : World) (on : List Bool) (e : Ending) : Prop :=
 e = .returned (.slice (some ⟨G, 0, none⟩) n ca) ∧ Exc G w w' ∧ BlkT w' G (boolsA on) 4
set_option maxRecDepth 100000 in
set_option maxHeartbeats 4000000 in
theorem reach_any {w : World} {G cl ca B i0 at_ : Nat} {l : List Ins} {Al : Option Addr} {s : ByteArray} {first last : Bool} {on : List Bool} (hg : BlkT w G (boolsA on) 4) (hon : on.length = l.length) (hl : RL InsR w B l Al) (hBG : B ≤ G) (hp : Prg l) (hi : i0 < l.length) (hfi : ((at_ : Int) == 0) = first) (hla : ((at_ : Int) == (s.size : Int)) = last) :
   Calls Tryz.prog 100 #[.slice Al l.length cl, .slice (some ⟨G, 0, none⟩) l.length ca, .int .i64 i0, .string s, .int .i64 at_] w fun e w' => ReachE G l.length ca w w' (reachQ l first last i0 on) e := by
 obtain ⟨j0, hj0, hz0, hz1, hz2⟩ := info_parts infoInt
 have hGlt := hg.blk.lt
 obtain ⟨b_, off, rfl, hob⟩ := hl.base (Below.refl _ _) (by omega) (by omega)
 have HL := Lib.hid hl
 have HP := Lib.hid hp
 have hlen := hp.len
 have HG := Lib.hid hg
 have HON := Lib.hid hon
 have hofs := offs_le on
 have HIN0 : Hid (∀ k : Nat, k < l.length → ∀ j ∈ outsQ (insAt l k) k first last, 0 ≤ j ∧ j < (l.length : Int)) := Lib.hid (fun k hk j hj => outs_in hp (by omega) (by omega) first last j ((outs_mem _ _ _ _ _).1 hj))
 clear hl hp hg hon
 go_enter Tryz.func100, Tryz.ntmps100
 go_wp2_with fail
 generalize hA : World.alloc _ _ = w1
 have HS1 : Hid (Rch G w w1 on [(i0 : Int)] (.slice (some ⟨w.heap.size, 0, none⟩) 1 1)) := Lib.hid (by
   have hb := below_new hA
   have h1 : BlkT w1 w.heap.size [Value.int .i64 (i0 : Int)].toArray 3 := hA ▸ heap_alloc_new w _
   exact ⟨HG.out.later hb, Exc.of (Nat.le_of_lt hGlt) hb, hGlt, h1.own (R := IntR) (B := 0) (n := 1) (xs := [(i0 : Int)]) (Flat.one rfl) (Nat.le_refl _) rfl (by unfold maxLen; omega)⟩)
 clear hA
 go_loopg [11] (3 * l.length + 2) (fun g v wr => ∃ (todo : List Int) (on1 : List Bool) (A : Option Addr) (n c : Nat), v = .slice A n c ∧ Hid (todo.length = n) ∧ Hid (dfs (fun i => outsQ (insAt l i) i first last) g todo on1 = reachQ l first last i0 on) ∧ 3 * offs on1 + n ≤ g ∧ g ≤ 4000 ∧ Hid (∀ k ∈ todo, 0 ≤ k ∧ k < (l.length : Int)) ∧ Hid (on1.length = l.length) ∧ Hid (Rch G w wr on1 todo (.slice A n c)))
 case atStart =>
   refine ⟨[(i0 : Int)], on, _, 1, 1, rfl, Lib.hid rfl, Lib.hid rfl, ?_, by omega, Lib.hid (fun k hk => ?_), HON, HS1⟩
   · have := HON.out
     omega
   · rw [List.mem_singleton] at hk
     omega
 case round =>
   obtain ⟨todo, on1, A, n, c, rfl, HN, HE, hfuel, hg4, HK, HO1, HS⟩ := hrel
   cases todo with
   | nil =>
     have HR : Hid (reachQ l first last i0 on = on1) := Lib.hid (by rw [← HE.out, dfs_nil])
     obtain rfl : n = 0 := HN.out.symm
     go_wp2_with fail
     go_ret
     rw [HR.out]
     exact ⟨rfl, HS.out.ex, HS.out.gb⟩
   | cons i todo =>
     obtain ⟨g, rfl⟩ : ∃ g, gk = g + 1 := ⟨gk - 1, by have := HN.out; simp only [List.length_cons] at this; omega⟩
     obtain ⟨hi0, hi1⟩ := HK.out i List.mem_cons_self
     obtain ⟨k, rfl⟩ : ∃ k : Nat, i = (k : Int) := ⟨i.toNat, by omega⟩
     have hk : k < l.length := by omega
     have HKt : Hid (∀ k ∈ todo, 0 ≤ k ∧ k < (l.length : Int)) := Lib.hid fun k hk => HK.out k (List.mem_cons_of_mem _ hk)
     have hlr : todo.reverse.length = todo.length := List.length_reverse
     have hlr2 : (todo.reverse ++ [(k : Int)]).length = n := by have := HN.out; rw [List.length_append, hlr]; simpa using this
     obtain ⟨n, rfl⟩ : ∃ m, n = m + 1 := ⟨n - 1, by rw [List.length_append] at hlr2; simp at hlr2; omega⟩
     have HTL : Hid (todo.length = n) := Lib.hid (by rw [List.length_append, hlr] at hlr2; simpa using hlr2)
     have how : OwnR IntR 3 wr w.heap.size 0 (.slice A (todo.reverse ++ [(k : Int)]).length c) (todo.reverse ++ [(k : Int)]) := by
       have := HS.out.own
       rw [List.reverse_cons] at this
       rw [hlr2]
       exact this
     obtain ⟨gs, rfl, hgs, hc1, hc2, hcell, hpop⟩ := own_pop how
     rw [hlr, HTL.out] at hc1 hcell hpop
     have HS2 : Hid (Rch G w wr on1 todo (.slice (some ⟨gs, 0, none⟩) n c)) := Lib.hid ⟨HS.out.gb, HS.out.ex, HS.out.hG, hpop⟩
     unfold maxLen at hc2
     have hks : k < on1.length := by rw [HO1.out]; exact hk
     have c_g : wr.cell? ⟨G, k, none⟩ = some (.bool (on1.getD k false)) := by
       rw [HS2.out.gb.blk.cell, boolsA_get, List.getD_eq_getElem?_getD, List.getElem?_eq_getElem hks]
       rfl
     have HKS := Lib.hid hks
     clear hpop HS hi0 hi1 hlr hlr2 how HN hks HK
     rcases Bool.eq_false_or_eq_true (on1.getD k false) with hb | hb
     · have HE2 := Lib.hid ((dfs_on (n := g) (todo := todo) (outs := fun i => outsQ (insAt l i) i first last) hb).symm.trans HE.out)
       rw [hb] at c_g
       clear hb HE
       go_wp2_with fail
       go_roundg g
       case rel => exact ⟨todo, on1, _, n, c, rfl, HTL, HE2, by omega, by omega, HKt, HO1, HS2⟩
       case measure => omega
     · have HE2 := Lib.hid ((dfs_off (n := g) (todo := todo) (outs := fun i => outsQ (insAt l i) i first last) hb).symm.trans HE.out)
       have HOF : Hid (offs (on1.set k true) + 1 = offs on1) := Lib.hid (set_offs hb HKS.out)
       have HO3 : Hid ((on1.set k true).length = l.length) := Lib.hid (by rw [List.length_set]; exact HO1.out)
       have HIN := Lib.hid (HIN0.out k hk)
       have f_g := HS2.out.gb.blk.free
       rw [hb] at c_g
       clear hb HE HO1
       go_upto_region 7 with fail
       have HS3 := Lib.hid (HS2.out.mark k)
       generalize World.setCell _ _ _ = w3 at *
       clear HS2 c_g f_g hcell
       have HLr : Hid (RL InsR w3 B l (some ⟨b_, off, none⟩)) := Lib.hid (HL.out.keep HS3.out.ex.1 hBG)
       have hB2 : B ≤ w3.heap.size := by have := HS3.out.ex.1.size; omega
       obtain ⟨x, vs, hx, hxl, hxc, hxr⟩ := HLr.out.at_ (Below.refl _ _) hB2 hk
       obtain rfl : vs = insC x := hxr
       have c0 : w3.cell? ⟨b_, off + k * 7, none⟩ = some (.int .i64 x.kind) := hxc 0 _ rfl
       have c5 : w3.cell? ⟨b_, off + k * 7 + 5, none⟩ = some (.int .i64 x.x) := hxc 5 _ rfl
       have c6 : w3.cell? ⟨b_, off + k * 7 + 6, none⟩ = some (.int .i64 x.y) := hxc 6 _ rfl
       have hIX : insAt l k = x := by
         unfold insAt
         rw [Int.toNat_natCast, List.getD_eq_getElem?_getD, hx]
         rfl
       have hE3 := HE2.out
       simp only [hIX] at hE3 HIN
       have HE3 := Lib.hid hE3
       have hsz3 := HS3.out.ex.1.size
       clear hxc hxl hx hIX HLr hB2 hE3 HE2
       have hkind : x.kind = 2 ∨ x.kind ≠ 2 ∧ x.kind = 3 ∨ (x.kind ≠ 2 ∧ x.kind ≠ 3) ∧ (x.kind = 4 ∧ first = true) ∨ (x.kind ≠ 2 ∧ x.kind ≠ 3) ∧ (x.kind = 4 ∧ first = false) ∨ (x.kind ≠ 2 ∧ x.kind ≠ 3) ∧ (x.kind = 5 ∧ last = true) ∨ (x.kind ≠ 2 ∧ x.kind ≠ 3) ∧ (x.kind = 5 ∧ last = false) ∨ (x.kind ≠ 2 ∧ x.kind ≠ 3) ∧ x.kind ≠ 4 ∧ x.kind ≠ 5 := by
         cases first <;> cases last <;> simp <;> omega
       rcases hkind with h2 | ⟨h2, h3⟩ | ⟨⟨h2, h3⟩, h4, hff⟩ | ⟨⟨h2, h3⟩, h4, hff⟩ | ⟨⟨h2, h3⟩, h5, hff⟩ | ⟨⟨h2, h3⟩, h5, hff⟩ | ⟨⟨h2, h3⟩, h4, h5⟩
       · have q2 : (x.kind == 2) = true := by simp; omega
         have HE4 : Hid (dfs (fun i => outsQ (insAt l i) i first last) g (x.y :: x.x :: todo) (on1.set k true) = reachQ l first last i0 on) := Lib.hid (by rw [← HE3.out]; unfold outsQ; rw [if_pos h2]; rfl)
         have ho : outsQ x k first last = [x.y, x.x] := by unfold outsQ; rw [if_pos h2]
         rw [ho] at HIN
         clear h2 ho
         have he2 : (todo.reverse ++ [x.x, x.y]).length = n + 2 := by rw [List.length_append, List.length_reverse, HTL.out]; rfl
         go_wp2_with fail
         go_region_held3 (fun w' => w'.cell? ⟨b_, off + k * 7 + 5, none⟩ = some (.int .i64 x.x) ∧ w'.cell? ⟨b_, off + k * 7 + 6, none⟩ = some (.int .i64 x.y)) (go_keep) ((
           refine step_append_R (R := IntR) (e := 3) rfl (.tmp 43) (.tmp 54) 128 rfl (bytes := 8) Tryz.underlying128 hj0 hz0 hz1 hz2 rfl (show 0 < 1 by omega) single_int rfl (xs := todo.reverse) (base := w.heap.size) (B := 0) (by first | exact (HS3.out.later ((below_new rfl).drew)).own | exact (HS3.out.later (below_new rfl)).own) rfl (ys := [x.x, x.y]) (by first | exact int_src2d | exact int_src2 | exact int_src2e) rfl (Nat.zero_le _) (by rw [List.length_reverse, HTL.out]; simp only [List.length_cons, List.length_nil]; omega) (by omega) (by first | (simp only [World.size_drew, World.size_alloc]; omega) | omega) ?_
           intro v wn_ hown hb hgr
           have hfm := own_formI hown he2
           obtain ⟨An, cn, rfl⟩ := hfm
           have HOW := Lib.hid hown
           have HBW : Hid (Below w.heap.size w3 wn_) := by first | exact Lib.hid (((below_new rfl).drew.mono hsz3).trans hb) | exact Lib.hid (((below_new rfl).mono hsz3).trans hb)
           have c5n := (HBW.out.cell (p := ⟨b_, off + k * 7 + 5, none⟩) hob).trans c5
           have c6n := (HBW.out.cell (p := ⟨b_, off + k * 7 + 6, none⟩) hob).trans c6
           clear hown hb hgr))
         go_wp2_with fail
         go_roundg g
         case rel => exact ⟨x.y :: x.x :: todo, on1.set k true, _, n + 2, _, rfl, Lib.hid (by simp only [List.length_cons, HTL.out]), HE4, by have := HOF.out; omega, by omega, Lib.hid (fun j hj => by
             rcases List.mem_append.1 (show j ∈ [x.y, x.x] ++ todo from hj) with h | h
             · exact HIN.out j h
             · exact HKt.out j h), HO3, Lib.hid (HS3.out.to (todo' := x.y :: x.x :: todo) (by first | exact HBW.out | exact HBW.out.drew) (by have := HOW.out; first | (simpa using this) | (have := this.drew (Nat.zero_le _); simpa using this)))⟩
         case measure => omega
       · have q2 : (x.kind == 2) = false := by simp; omega
         have q3 : (x.kind == 3) = true := by simp; omega
         have HE4 : Hid (dfs (fun i => outsQ (insAt l i) i first last) g (x.x :: todo) (on1.set k true) = reachQ l first last i0 on) := Lib.hid (by rw [← HE3.out]; unfold outsQ; rw [if_neg h2, if_pos h3]; rfl)
         have ho : outsQ x k first last = [x.x] := by unfold outsQ; rw [if_neg h2, if_pos h3]
         rw [ho] at HIN
         clear h2 h3 ho
         go_wp2_with ((
           at_builtin
           refine wpList_append_R (R := IntR) (e := 3) (base := w.heap.size) (B := 0) (xs := todo.reverse) (ys := [x.x]) rfl (.tmp 58) (.tmp 64) 128 rfl (bytes := 8) Tryz.underlying128 hj0 hz0 hz1 hz2 rfl (show 0 < 1 by omega) single_int rfl (HS3.out.later (below_new rfl)).own rfl int_src rfl (Nat.zero_le _) (by rw [List.length_reverse, HTL.out]; simp only [List.length_cons, List.length_nil]; omega) (by omega) (by rw [World.size_alloc]; omega) ?_
           intro v wn_ hown hb
           obtain ⟨An, cn, rfl⟩ := own_formI hown (show _ = n + 1 by rw [List.length_append, List.length_reverse, HTL.out]; rfl)
           have HOW := Lib.hid hown
           have HBW := Lib.hid hb
           clear hown hb))
         go_roundg g
         case rel => exact ⟨x.x :: todo, on1.set k true, _, n + 1, _, rfl, Lib.hid (by simp only [List.length_cons, HTL.out]), HE4, by have := HOF.out; omega, by omega, Lib.hid (fun j hj => by
             rcases List.mem_append.1 (show j ∈ [x.x] ++ todo from hj) with h | h
             · exact HIN.out j h
             · exact HKt.out j h), HO3, Lib.hid ((HS3.out.later (below_new rfl)).to (todo' := x.x :: todo) HBW.out (by have := HOW.out; simpa using this))⟩
         case measure => omega
       · have q2 : (x.kind == 2) = false := by simp; omega
         have q3 : (x.kind == 3) = false := by simp; omega
         have q4 : (x.kind == 4) = true := by simp; omega
         have HE4 : Hid (dfs (fun i => outsQ (insAt l i) i first last) g (((k : Int) + 1) :: todo) (on1.set k true) = reachQ l first last i0 on) := Lib.hid (by rw [← HE3.out]; unfold outsQ; rw [if_neg h2, if_neg h3, if_pos (.inl ⟨h4, hff⟩)]; rfl)
         have ho : outsQ x k first last = [(k : Int) + 1] := by unfold outsQ; rw [if_neg h2, if_neg h3, if_pos (.inl ⟨h4, hff⟩)]
         rw [ho] at HIN
         rw [hff] at hfi
         clear h2 h3 h4 ho hff
         go_wp2_with ((
           at_builtin
           refine wpList_append_R (R := IntR) (e := 3) (base := w.heap.size) (B := 0) (xs := todo.reverse) (ys := [(k : Int) + 1]) rfl (.tmp 70) (.tmp 73) 128 rfl (bytes := 8) Tryz.underlying128 hj0 hz0 hz1 hz2 rfl (show 0 < 1 by omega) single_int rfl (HS3.out.later (below_new rfl)).own rfl int_src rfl (Nat.zero_le _) (by rw [List.length_reverse, HTL.out]; simp only [List.length_cons, List.length_nil]; omega) (by omega) (by rw [World.size_alloc]; omega) ?_
           intro v wn_ hown hb
           obtain ⟨An, cn, rfl⟩ := own_formI hown (show _ = n + 1 by rw [List.length_append, List.length_reverse, HTL.out]; rfl)
           have HOW := Lib.hid hown
           have HBW := Lib.hid hb
           clear hown hb))
         go_roundg g
         case rel => exact ⟨((k : Int) + 1) :: todo, on1.set k true, _, n + 1, _, rfl, Lib.hid (by simp only [List.length_cons, HTL.out]), HE4, by have := HOF.out; omega, by omega, Lib.hid (fun j hj => by
             rcases List.mem_append.1 (show j ∈ [(k : Int) + 1] ++ todo from hj) with h | h
             · exact HIN.out j h
             · exact HKt.out j h), HO3, Lib.hid ((HS3.out.later (below_new rfl)).to (todo' := ((k : Int) + 1) :: todo) HBW.out (by have := HOW.out; simpa using this))⟩
         case measure => omega
       · have q2 : (x.kind == 2) = false := by simp; omega
         have q3 : (x.kind == 3) = false := by simp; omega
         have q4 : (x.kind == 4) = true := by simp; omega
         have HE4 : Hid (dfs (fun i => outsQ (insAt l i) i first last) g (todo) (on1.set k true) = reachQ l first last i0 on) := Lib.hid (by rw [← HE3.out]; unfold outsQ; rw [if_neg h2, if_neg h3, if_neg (by rw [hff]; simp; omega)]; rfl)
         have ho : outsQ x k first last = [] := by unfold outsQ; rw [if_neg h2, if_neg h3, if_neg (by rw [hff]; simp; omega)]
         rw [ho] at HIN
         rw [hff] at hfi
         clear h2 h3 h4 ho hff
         go_wp2_with fail
         go_roundg g
         case rel => exact ⟨todo, on1.set k true, _, n, _, rfl, Lib.hid (HTL.out), HE4, by have := HOF.out; omega, by omega, Lib.hid (fun j hj => by
             rcases List.mem_append.1 (show j ∈ [] ++ todo from hj) with h | h
             · exact HIN.out j h
             · exact HKt.out j h), HO3, HS3⟩
         case measure => omega
       · have q2 : (x.kind == 2) = false := by simp; omega
         have q3 : (x.kind == 3) = false := by simp; omega
         have q4 : (x.kind == 4) = false := by simp; omega
         have q5 : (x.kind == 5) = true := by simp; omega
         have HE4 : Hid (dfs (fun i => outsQ (insAt l i) i first last) g (((k : Int) + 1) :: todo) (on1.set k true) = reachQ l first last i0 on) := Lib.hid (by rw [← HE3.out]; unfold outsQ; rw [if_neg h2, if_neg h3, if_pos (.inr ⟨h5, hff⟩)]; rfl)
         have ho : outsQ x k first last = [(k : Int) + 1] := by unfold outsQ; rw [if_neg h2, if_neg h3, if_pos (.inr ⟨h5, hff⟩)]
         rw [ho] at HIN
         rw [hff] at hla
         clear h2 h3 h5 ho hff
         go_wp2_with ((
           at_builtin
           refine wpList_append_R (R := IntR) (e := 3) (base := w.heap.size) (B := 0) (xs := todo.reverse) (ys := [(k : Int) + 1]) rfl (.tmp 81) (.tmp 84) 128 rfl (bytes := 8) Tryz.underlying128 hj0 hz0 hz1 hz2 rfl (show 0 < 1 by omega) single_int rfl (HS3.out.later (below_new rfl)).own rfl int_src rfl (Nat.zero_le _) (by rw [List.length_reverse, HTL.out]; simp only [List.length_cons, List.length_nil]; omega) (by omega) (by rw [World.size_alloc]; omega) ?_
           intro v wn_ hown hb
           obtain ⟨An, cn, rfl⟩ := own_formI hown (show _ = n + 1 by rw [List.length_append, List.length_reverse, HTL.out]; rfl)
           have HOW := Lib.hid hown
           have HBW := Lib.hid hb
           clear hown hb))
         go_roundg g
         case rel => exact ⟨((k : Int) + 1) :: todo, on1.set k true, _, n + 1, _, rfl, Lib.hid (by simp only [List.length_cons, HTL.out]), HE4, by have := HOF.out; omega, by omega, Lib.hid (fun j hj => by
             rcases List.mem_append.1 (show j ∈ [(k : Int) + 1] ++ todo from hj) with h | h
             · exact HIN.out j h
             · exact HKt.out j h), HO3, Lib.hid ((HS3.out.later (below_new rfl)).to (todo' := ((k : Int) + 1) :: todo) HBW.out (by have := HOW.out; simpa using this))⟩
         case measure => omega
       · have q2 : (x.kind == 2) = false := by simp; omega
         have q3 : (x.kind == 3) = false := by simp; omega
         have q4 : (x.kind == 4) = false := by simp; omega
         have q5 : (x.kind == 5) = true := by simp; omega
         have HE4 : Hid (dfs (fun i => outsQ (insAt l i) i first last) g (todo) (on1.set k true) = reachQ l first last i0 on) := Lib.hid (by rw [← HE3.out]; unfold outsQ; rw [if_neg h2, if_neg h3, if_neg (by rw [hff]; simp; omega)]; rfl)
         have ho : outsQ x k first last = [] := by unfold outsQ; rw [if_neg h2, if_neg h3, if_neg (by rw [hff]; simp; omega)]
         rw [ho] at HIN
         rw [hff] at hla
         clear h2 h3 h5 ho hff
         go_wp2_with fail
         go_roundg g
         case rel => exact ⟨todo, on1.set k true, _, n, _, rfl, Lib.hid (HTL.out), HE4, by have := HOF.out; omega, by omega, Lib.hid (fun j hj => by
             rcases List.mem_append.1 (show j ∈ [] ++ todo from hj) with h | h
             · exact HIN.out j h
             · exact HKt.out j h), HO3, HS3⟩
         case measure => omega
       · have q2 : (x.kind == 2) = false := by simp; omega
         have q3 : (x.kind == 3) = false := by simp; omega
         have q4 : (x.kind == 4) = false := by simp; omega
         have q5 : (x.kind == 5) = false := by simp; omega
         have HE4 : Hid (dfs (fun i => outsQ (insAt l i) i first last) g (todo) (on1.set k true) = reachQ l first last i0 on) := Lib.hid (by rw [← HE3.out]; unfold outsQ; rw [if_neg h2, if_neg h3, if_neg (by omega)]; rfl)
         have ho : outsQ x k first last = [] := by unfold outsQ; rw [if_neg h2, if_neg h3, if_neg (by omega)]
         rw [ho] at HIN
         clear h2 h3 h4 h5 ho
         go_wp2_with fail
         go_roundg g
         case rel => exact ⟨todo, on1.set k true, _, n, _, rfl, Lib.hid (HTL.out), HE4, by have := HOF.out; omega, by omega, Lib.hid (fun j hj => by
             rcases List.mem_append.1 (show j ∈ [] ++ todo from hj) with h | h
             · exact HIN.out j h
             · exact HKt.out j h), HO3, HS3⟩
         case measure => omega
end Go.Proofs.YtiplipdigabidaaGreat
