/- match.ways: the stack. -/
import Derived.Test.YtiplipdigabidaaGreatReg3
import Derived.Test.YtiplipdigabidaaGreatMatSpec
import Derived.RegionTactic
set_option linter.unusedVariables false
set_option linter.unusedSimpArgs false
namespace Go.Proofs.YtiplipdigabidaaGreat
open Go.ChangeShapes Go.WideShapes Go.ChangeAt Go.RowKit

def IntR : Reader Int where
  k := 1
  rd := fun _ _ i vs => vs = [.int .i64 i]
  keep := fun _ _ h => h
  wide := fun _ h => h
  len := fun h => by subst h; rfl
theorem single_int : Single IntR := fun {w B x vs} h u hu => by
  obtain rfl : vs = [.int .i64 x] := h
  simp only [List.mem_cons, List.not_mem_nil, or_false] at hu
  subst hu; rfl
theorem infoInt : (Tryz.prog.info? 3).map (fun i => (i.zero, i.size, i.bytes)) = some (some (.int .i64 0), 1, 8) := by kernel_rfl
theorem infoBool : (Tryz.prog.info? 4).map (fun i => (i.zero, i.size, i.bytes)) = some (some (.bool false), 1, 1) := by kernel_rfl

section
variable {α : Type} {R : Reader α} {e T : TypeId} {w w' : World} {base B D : Nat} {v : Value} {xs : List α} {vs : Array Value}
/-- A slice of one's own does not lie in a block of another type. -/
theorem OwnR.ne (h : OwnR R e w base B v xs) (hD : BlkT w D vs T) (hT : T ≠ e) : v.ownBlock ≠ some D := by
  obtain ⟨cells, h, _⟩ := h
  rcases h.2 with ⟨h1, _⟩ | ⟨g, cap, cur, hv, hg, hh, r⟩
  · rw [h1]; simp [Value.ownBlock]
  · rw [hv]
    simp only [Value.ownBlock, ne_eq, Option.some.injEq]
    intro hgd
    subst hgd
    unfold BlkT at hD
    rw [hD] at hh
    simp only [Option.some.injEq, Obj.cells.injEq] at hh
    exact hT hh.2.1
theorem OwnR.farT (h : OwnR R e w base 0 v xs) (hD : BlkT w D vs T) (hT : T ≠ e) (i : Nat) (u : Value) : OwnR R e (w.setCell ⟨D, i, none⟩ u) base 0 v xs := by
  have hne := h.ne hD hT
  obtain ⟨cells, h, hf⟩ := h
  refine ⟨cells, ⟨h.1, ?_⟩, hf.keep ((Below.refl 0 w).setCell (p := ⟨D, i, none⟩) (Nat.zero_le _) u) (Nat.le_refl _)⟩
  rcases h.2 with h2 | ⟨g, cap, cur, hv, hg, hh, r⟩
  · exact .inl h2
  · refine .inr ⟨g, cap, cur, hv, hg, ?_, r⟩
    rw [hv] at hne
    simp only [Value.ownBlock, ne_eq, Option.some.injEq] at hne
    exact (Below.heap_setCell w ⟨D, i, none⟩ u g hne).trans hh
theorem BlkT.grown {row : Option Nat} (h : BlkT w D vs T) (hg : w.grownBy w' row) (hne : row ≠ some D) : BlkT w' D vs T := by
  exact (hg.block D h.blk.lt (Ne.symm hne)).trans h
end
/-- From w to w' the blocks that hold no ints are as they were, but D. -/
def KeepsT (D : Nat) (w w' : World) : Prop := ∀ b vs T, T ≠ 3 → b ≠ D → BlkT w b vs T → BlkT w' b vs T
theorem KeepsT.trans {D : Nat} {a b c : World} (h : KeepsT D a b) (k : KeepsT D b c) : KeepsT D a c := fun x vs T h1 h2 h3 => k x vs T h1 h2 (h x vs T h1 h2 h3)
/-- The stack: its head in block D, its row anywhere from 'base' on. -/
structure Stk (D base : Nat) (w : World) (A : Option Addr) (c : Nat) (xs : List Int) : Prop where
  hd : BlkT w D #[.slice A xs.length c] 128
  own : OwnR IntR 3 w base 0 (.slice A xs.length c) xs
theorem t_ne : (128 : TypeId) ≠ 3 := by decide
def PushE (D base : Nat) (w w' : World) (xs : List Int) (e : Ending) : Prop :=
  e = .returned (.tuple #[]) ∧ Below base w w' ∧ KeepsT D w w' ∧ ∃ A c, Stk D base w' A c xs

set_option maxRecDepth 100000 in
set_option maxHeartbeats 1000000 in
theorem push_any {w : World} {D base c : Nat} {A : Option Addr} {xs : List Int} {k : Int} (hs : Stk D base w A c xs) (hb : base ≤ w.heap.size) (hbD : base ≤ D) (hn : xs.length ≤ 100000) :
    Calls Tryz.prog 157 #[.int .i64 k, .pointer (some ⟨D, 0, none⟩)] w fun e w' => PushE D base w w' (xs ++ [k]) e := by
  obtain ⟨i0, hi0, hz0, hz1, hz2⟩ := info_parts infoInt
  have HS := Lib.hid hs
  have k_d := hs.hd.blk.cell
  have f_d := hs.hd.blk.free
  have l_d := hs.hd.blk.lt
  have hb1 := below_new (w := w) (o := .cells #[.int .i64 k] 3) rfl
  have HN := Lib.hid (And.intro (And.intro (hs.own.later hb1 (Nat.zero_le _)) (hs.hd.later hb1)) (Blk.src (R := IntR) (B := 0) (x := k) (Blk.new w #[.int .i64 k] 3) rfl))
  clear hs hb1
  go_enter Tryz.func157, Tryz.ntmps157
  go_wp2_with ((
    at_builtin
    refine wpList_plain rfl fun _ hK => wp_append_R (R := IntR) (e := 3) (base := base) (B := 0) (xs := xs) (ys := [k]) (.tmp 3) (.tmp 5) 128 rfl (bytes := 8) Tryz.underlying128 hi0 hz0 hz1 hz2 rfl (show 0 < 1 by omega) single_int rfl HN.out.1.1 rfl HN.out.2 rfl (Nat.zero_le _) (by simp only [List.length_cons, List.length_nil]; omega) (by omega) (by rw [World.size_alloc]; omega) ?_
    intro v w2 hown hb2 hg2
    refine hK _ _ ?_
    obtain ⟨A2, c2, rfl⟩ := hown.form
    have hne := HN.out.1.1.ne HN.out.1.2 t_ne
    have bd := HN.out.1.2.grown hg2 hne
    have kd2 := bd.blk.cell
    have fd2 := bd.blk.free
    have HW := Lib.hid hown
    have HB2 := Lib.hid (And.intro hb2 hg2)
    have HBD := Lib.hid bd
    clear hown hb2 hg2 hne bd k_d f_d l_d))
  go_end0
  have e1 : xs.length + 1 = (xs ++ [k]).length := by simp
  rw [e1]
  refine ⟨rfl, ?_, ?_, A2, c2, HBD.out.set_ 0 _, HW.out.farT HBD.out t_ne 0 _⟩
  · exact (((Below.refl base w).alloc hb _).trans HB2.out.1).setCell (p := ⟨D, 0, none⟩) hbD _
  · intro b vs T hT hbd hbt
    have h1 := hbt.later (below_new (w := w) (o := .cells #[.int .i64 k] 3) rfl)
    exact (h1.grown HB2.out.2 (HN.out.1.1.ne h1 hT)).far hbd 0 _

/-- The stack without its uppermost. -/
theorem Stk.pop {D base c : Nat} {w : World} {A : Option Addr} {xs : List Int} {k : Int} (h : Stk D base w A c (xs ++ [k])) :
    ∃ g, A = some ⟨g, 0, none⟩ ∧ g ≠ D ∧ xs.length + 1 ≤ c ∧ c ≤ maxLen ∧ w.cell? ⟨g, xs.length, none⟩ = some (.int .i64 k) ∧ Stk D base (w.setCell ⟨D, 0, none⟩ (.slice A xs.length c)) A c xs := by
  have hne := h.own.ne h.hd t_ne
  have hfar := h.own.farT h.hd t_ne 0 (.slice A xs.length c)
  obtain ⟨cells, ho, hf⟩ := h.own
  have hl : cells.length = xs.length + 1 := by have := hf.1; simpa [IntR] using this
  rcases ho.2 with ⟨h1, h2⟩ | ⟨g, cap, cur, hv, hg, hh, k1, k2, k3, k4⟩
  · simp at h2
  · simp only [Value.slice.injEq] at hv
    obtain ⟨rfl, _, rfl⟩ := hv
    simp only [Value.ownBlock, ne_eq, Option.some.injEq] at hne
    rw [List.length_append, List.length_singleton] at k1
    have hcell : cells[xs.length]? = some (.int .i64 k) := by
      have := hf.2 xs.length (by simp)
      simp only [IntR, Nat.mul_one, List.getElem_append_right (Nat.le_refl _), Nat.sub_self, List.getElem_singleton] at this
      have h3 : ((cells.drop xs.length).take 1)[0]? = some (.int .i64 k) := by rw [this]; rfl
      rw [List.getElem?_take, if_pos (by omega), List.getElem?_drop] at h3
      simpa using h3
    refine ⟨g, rfl, hne, k1, k2, ?_, ?_, ?_⟩
    · rw [cell_of_row w g _ cur 3 (0, 0) hh]
      rw [← k4, List.getElem?_take] at hcell
      split at hcell
      · simpa using hcell
      · cases hcell
    · exact h.hd.set_ 0 _
    · obtain ⟨cells', ho', hf'⟩ := hfar
      rcases ho'.2 with ⟨h1', h2'⟩ | ⟨g', cap', cur', hv', hg', hh', k1', k2', k3', k4'⟩
      · simp at h2'
      · simp only [Value.slice.injEq, Option.some.injEq, Addr.mk.injEq, and_true] at hv'
        obtain ⟨rfl, _, rfl⟩ := hv'
        have hl' : cells'.length = xs.length + 1 := by have := hf'.1; simpa [IntR] using this
        refine ⟨cells'.take xs.length, ⟨by simp [IntR, hl'], .inr ⟨g, c, cur', rfl, hg', hh', by omega, k2', k3', ?_⟩⟩, ?_⟩
        · have e2 : (xs ++ [k]).length * IntR.k = xs.length + 1 := by simp [IntR]
          rw [e2] at k4'
          rw [← k4', List.take_take]
          congr 1
          simp [IntR]
        · have := hf'.take xs.length
          simpa [IntR] using this
end Go.Proofs.YtiplipdigabidaaGreat
