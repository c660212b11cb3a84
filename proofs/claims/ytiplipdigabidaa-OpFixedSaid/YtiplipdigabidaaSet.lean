/- term.Set. -/
import Derived.Test.YtiplipdigabidaaHas
import Derived.Test.YtiplipdigabidaaHeap3
import Derived.Test.YtiplipdigabidaaOp1
set_option linter.unusedVariables false
set_option linter.unusedSimpArgs false
namespace Go.Proofs.Ytiplipdigabidaa
open Go.ChangeShapes Go.WideShapes Go.ChangeAt Go.RowKit

abbrev emptyS : ByteArray := ⟨#[]⟩
def noT : Tm := ⟨0, 0, emptyS, []⟩
def headK (l : List Tm) : Int := (l.head?.map Tm.kind).getD 0
/-- May it not stand in the set? -/
def badB (k : Int) (t : Tm) : Bool := !fixedB t || decide (t.kind = 7) || decide (t.kind ≠ k)
def setArgB (l : List Tm) : Bool := decide (l.length ≤ 16) && !l.any (badB (headK l))
def setT (l : List Tm) : Tm := ⟨7, 0, emptyS, setL (cmpT 3) l⟩
def setR (l : List Tm) : Tm × Int := if setArgB l then (setT l, 0) else (noT, 1)

set_option maxRecDepth 100000 in
set_option maxHeartbeats 2000000 in
theorem setLit_any {d B G : Nat} {k : Int} {l : List Tm} {A : Option Addr} {c : Nat} {w : World} (hG : Blk w G #[.slice A l.length c]) (hl : RL (TmR d) w B l A) (hB : B ≤ w.heap.size) (h0 : 0 < l.length) (hk : headK l = k) (hn : l.length ≤ 16) :
    Tells Try.prog (TmR d) aggOf B w 56 #[.pointer (some ⟨G, 0, none⟩)] (badB k) := by
  intro x vs w1 hb hr
  have HR : Hid (RTm w1 B d x vs) := Lib.hid hr
  obtain ⟨A', c', rfl, q1, q2, q3, q4, q5, _⟩ := RTm.cells (show RTm w1 B d x vs from hr)
  have hG1 := hG.later hb
  have hB1 := Nat.le_trans hB hb.size
  obtain ⟨b, off, rfl, hbl⟩ := hl.base hb hB h0
  obtain ⟨y, ys, hy, _, hcell, hry⟩ := hl.at_ (k := 0) hb hB h0
  obtain ⟨A2, c2, rfl, _⟩ := RTm.cells (show RTm w1 B d y ys from hry)
  have hyk : y.kind = k := by rw [← hk]; unfold headK; rw [List.head?_eq_getElem?, hy]; rfl
  have f0 : w1.cell? ⟨b, off, none⟩ = some (.int .i64 k) := by rw [← hyk]; simpa using hcell 0 _ rfl
  clear hr hry hcell hy hyk hb hG
  show Calls Try.prog 56 #[.agg #[_, _, _, _], .pointer (some ⟨G, 0, none⟩)] w1 _
  have kG := hG1.cell
  have lG := hG1.lt
  go_enter Try.func56, Try.ntmps56
  go_wp2_with fail
  generalize hW : World.alloc _ _ = w2
  obtain ⟨hb, hz⟩ := al1 hW
  have bx := n11 hW
  have bG2 := hG1.later hb
  have g0 := cell_regrown ((hb.cell (p := ⟨b, off, none⟩) hbl).trans f0)
  have qx := bx.regrown
  have qG := bG2.regrown
  have HB1 := Lib.hid hb
  have hB2 := Nat.le_trans hB1 hb.size
  clear hW hz hb kG lG f0
  have HR2 := Lib.hid (HR.out.below HB1.out hB1)
  have hcases : fixedB x = false ∨ (fixedB x = true ∧ (x.kind == 7) = true) ∨ (fixedB x = true ∧ (x.kind == 7) = false) := by
    cases fixedB x <;> cases (x.kind == 7) <;> simp
  rcases hcases with hf | ⟨hf, h7⟩ | ⟨hf, h7⟩
  all_goals
    refine wp_region_quiet_below (by kernel_rfl) (by kernel_rfl) ?_
    repeat (go_big_quiet_step ((go_at_call 16; exact Calls.regrown_of (as_bool hf (fixed_any (HR2.out.below (below_regrown _ _ _) hB2) (Nat.le_trans hB2 (below_regrown _ _ _).size))))))
    refine wpQuiet_nil ?_
    intro w3 hw3
    have hb1 : Below w2.heap.size w2 w3 := by obtain ⟨p, rfl⟩ := hw3; exact below_regrown _ _ _
    clear hw3
    go_wp2_with fail
    go_ret
    refine ⟨ret_bool ?_, bthen HB1.out hb1⟩
    first
      | (simp only [beq_iff_eq, beq_eq_false_iff_ne] at h7; simp [badB, hf, h7]; try rfl)
      | (simp [badB, hf, h7]; try rfl)
      | simp [badB, hf]

set_option maxRecDepth 100000 in
set_option maxHeartbeats 1000000 in
theorem containsNil_any {F : FuncId} {cap : Array Value} {A : Option Addr} {c : Nat} {w : World} :
    Calls Try.prog 50 #[.slice A 0 c, .func (.func F) #[] cap] w fun e w' => e = .returned (.bool false) ∧ Below w.heap.size w w' := by
  go_enter Try.func50, Try.ntmps50
  go_wp2_with fail
  refine (Calls.mono (R := fun e w' => e = .returned (.int .i64 (-1)) ∧ w = w') ?_ ?_)
  · go_enter Try.func71, Try.ntmps71
    go_wp2_with fail
    go_loopw [8] (fun i wr => i = .int .i64 0 ∧ w = wr) (fun i _ => 0)
    case atStart => exact ⟨rfl, rfl⟩
    case round =>
      obtain ⟨rfl, rfl⟩ := hrel
      go_wp2_with fail
      go_ret
      exact ⟨rfl, rfl⟩
  · rintro e w1 ⟨rfl, rfl⟩
    go_wp2_with fail
    go_ret
    exact ⟨rfl, Below.refl _ _⟩
theorem badB_not {k : Int} {t : Tm} : badB k t = false ↔ fixedB t = true ∧ t.kind ≠ 7 ∧ t.kind = k := by
  unfold badB
  simp only [Bool.or_eq_false_iff, Bool.not_eq_false', decide_eq_false_iff_not, ne_eq, Classical.not_not, and_assoc]
theorem fixed_leaf {t : Tm} (h : fixedB t = true) (h7 : t.kind ≠ 7) : Leaf t := by
  unfold fixedB mayB at h
  rw [if_neg h7, Bool.and_eq_true] at h
  exact flatMay_leaf h.2
theorem atL_map (xs : List TV) (k : Nat) : atL noT (xs.map TV.t) k = (atL tv0 xs k).t := by
  unfold atL
  rw [List.getD_eq_getElem?_getD, List.getD_eq_getElem?_getD, List.getElem?_map]
  cases xs[k]? <;> rfl
theorem heap_map {xs : List TV} {i n : Nat} (h : Heap cTV (atL tv0 xs) i n) : Heap (cmpT 3) (atL noT (xs.map TV.t)) i n := fun k h0 h1 h2 => by
  rw [atL_map, atL_map]; exact h k h0 h1 h2
/-- The slice that was cloned, as a pile's row. -/
theorem own_pile {d B base : Nat} {T : TypeId} {w : World} {v : Value} {xs : List Tm} (h : OwnR (TmR d) T w base B v xs) (hf : ∀ x ∈ xs, Leaf x) (h0 : 0 < xs.length) :
    ∃ (G c : Nat) (tvs : List TV) (cur : Array Value), v = .slice (some ⟨G, 0, none⟩) xs.length c ∧ base ≤ G ∧ tvs.map TV.t = xs ∧ Blk w G cur ∧ PRow cur tvs ∧ PRd w B d tvs ∧ xs.length ≤ c ∧ c ≤ 9223372036854775807 := by
  obtain ⟨cells, h, hfl⟩ := h
  rcases h.2 with ⟨h1, h2⟩ | ⟨g, cap, cur, hv, hg, hh, k1, k2, k3, k4⟩
  · omega
  · have key : ∀ n, n ≤ xs.length → ∃ tvs : List TV, tvs.map TV.t = xs.take n ∧ (∀ k (hk : k < n), ∀ b, b < 4 → cells[k * 4 + b]? = (atL tv0 tvs k).cs[b]?) ∧ PRd w B d tvs := by
      intro n
      induction n with
      | zero => intro _; exact ⟨[], by simp, fun k hk => absurd hk (by omega), fun x hx => by simp at hx⟩
      | succ n ih =>
        intro hn
        obtain ⟨tvs, e1, e2, e3⟩ := ih (by omega)
        have hr : RTm w B d xs[n] ((cells.drop (n * 4)).take 4) := hfl.2 n (by omega)
        obtain ⟨A, c, e4, _⟩ := RTm.cells hr
        have hlf : xs[n].l = [] := hf _ (List.getElem_mem _)
        rw [hlf] at e4
        have hlen : tvs.length = n := by have := congrArg List.length e1; rw [List.length_map, List.length_take] at this; omega
        have ea : atL tv0 (tvs ++ [⟨xs[n], A, c⟩]) n = ⟨xs[n], A, c⟩ := by rw [atL_get (by simp; omega)]; simp [hlen]
        refine ⟨tvs ++ [⟨xs[n], A, c⟩], ?_, fun k hk b hb => ?_, fun x hx => ?_⟩
        · rw [List.map_append, e1, List.take_succ_eq_append_getElem (by omega)]; rfl
        · by_cases hkn : k = n
          · subst hkn
            rw [ea]
            have := congrArg (fun l : List Value => l[b]?) e4
            simp only [List.getElem?_take, if_pos hb, List.getElem?_drop] at this
            exact this
          · rw [e2 k (by omega) b hb, atL_get (by omega), atL_get (by simp; omega), List.getElem_append_left (by omega)]
        · rcases List.mem_append.1 hx with hx | hx
          · exact e3 x hx
          · obtain rfl : x = ⟨xs[n], A, c⟩ := by simpa using hx
            show RTm w B d xs[n] [_, _, _, _]
            rw [e4] at hr
            exact hr
    obtain ⟨tvs, e1, e2, e3⟩ := key xs.length (Nat.le_refl _)
    rw [List.take_length] at e1
    have hlen : tvs.length = xs.length := by rw [← e1, List.length_map]
    refine ⟨g, cap, tvs, cur, hv, hg, e1, ⟨T, hh⟩, fun k hk b hb => ?_, e3, k1, by unfold maxLen at k2; omega⟩
    have hk4 : (TmR d).k = 4 := rfl
    rw [← e2 k (by omega) b hb, ← k4, List.getElem?_take, if_pos (by rw [hk4]; omega), Array.getElem?_toList]
end Go.Proofs.Ytiplipdigabidaa
