/- What the listed variables give a walk: the two errors of strconv are interface values; weights of arguments. -/
import Derived.Test.YtijajfelmekmiaaDoorLex7
import Derived.Test.YtijajfelmekmiaaDoorRows
import Derived.LaidLaws
import Derived.LaidMore
import Derived.Lay
import Derived.SizedLaws
import Derived.ProofKit
import Derived.ChangeMaps5
set_option linter.unusedVariables false
set_option linter.unusedSimpArgs false
namespace Go.Proofs.YtijajfelmekmiaaDoor
open Go.ChangeShapes Go.WideShapes Go.ChangeAt Go.RowKit

theorem own : ownKnob Tryd.prog.godebug = none := by kernel_rfl
theorem laidOut : laidOutB Tryd.prog = true := by kernel_rfl
def Ok {H : Type} (P : Program) (t : TypeId) (d : DataW H) : Prop := ∀ n ∈ d.weights P t, n ≤ reachBytes
theorem ok_of {H : Type} {P : Program} {ts : List TypeId} {ds : List (DataW H)} (h : (DataW.weightsEach P ts ds).all (· ≤ reachBytes) = true) {j : Nat} {t : TypeId} {d : DataW H} (ht : ts[j]? = some t) (hd : ds[j]? = some d) : Ok P t d := fun n hn => by
  have := List.all_eq_true.1 h n (DataW.weights_mem_each ht hd n hn)
  simpa using this
theorem i64_wf {n : Int} (hwf : (Lit.int .i64 n).wf = true) : I64 n := by
  simp only [Lit.wf] at hwf
  unfold I64
  revert hwf
  have e1 : IntKind.i64.signed = true := rfl
  have e2 : IntKind.i64.bits = 64 := rfl
  simp [IntKind.min, IntKind.max, e1, e2]
theorem u8_wf {n : Int} (hwf : (Lit.int .u8 n).wf = true) : 0 ≤ n ∧ n ≤ 255 := by
  simp only [Lit.wf] at hwf
  revert hwf
  have e1 : IntKind.u8.signed = false := rfl
  have e2 : IntKind.u8.bits = 8 := rfl
  simp [IntKind.min, IntKind.max, e1, e2]

theorem iface_cell {W : World} {g : Nat} {n name : String} {d : DataW Unit} {cs : Array Value} {f : Nat} {p : List MemPlace}
    (hg : Tryd.prog.globalNamed n = some g) (hv : W.var? Tryd.prog n = some cs)
    (hd : DataW.trod (fun _ => ()) Tryd.prog W 0 (fun _ => true) false f 47 cs.toList = some (.iface name d, p)) :
    ∃ ev, W.cell? ⟨g, 0, none⟩ = some ev ∧ (ev = .nilIface ∨ ∃ te pe, ev = .iface te pe) := by
  obtain ⟨f', u, v, e, _, _⟩ := iface_of_trod Tryd.underlying47 hd
  obtain ⟨l⟩ := cs
  simp only at e
  subst e
  exact ⟨.iface u v, by simpa using World.var?_cell hg hv 0, .inr ⟨u, v, rfl⟩⟩

theorem errOk_of_laid {W : World} (h : laidMetH Tryd.prog Rows.lexPlacesRow.laid W) : ErrOk W ∧ 2 < W.heap.size := by
  rw [MakeChecks.laidMetH_plain _ _ _ (by kernel_rfl)] at h
  obtain ⟨ps, ⟨_, _, _, _, _, _, _, _, _, _, ⟨_, _, _, _, _, _, _, _, _, _, ⟨_, _, _, _, _, _, _, _, _, _, ⟨g3, t3, c3, f3, p3, q3, hg3, ht3, hv3, hd3, ⟨g4, t4, c4, f4, p4, q4, hg4, ht4, hv4, hd4, _, _⟩, _⟩, _⟩, _⟩, _⟩, _, _⟩ := h
  obtain rfl := Option.some.inj ((show Tryd.prog.globalNamed "strconv.ErrRange" = some 2 by kernel_rfl).symm.trans hg3)
  obtain rfl := Option.some.inj ((show Tryd.prog.globalNamed "strconv.ErrSyntax" = some 1 by kernel_rfl).symm.trans hg4)
  obtain rfl := Option.some.inj ((show (Tryd.prog.globals[2]?).map (·.type) = some 47 by kernel_rfl).symm.trans ht3)
  obtain rfl := Option.some.inj ((show (Tryd.prog.globals[1]?).map (·.type) = some 47 by kernel_rfl).symm.trans ht4)
  have k2 := iface_cell hg3 hv3 hd3
  refine ⟨⟨iface_cell hg4 hv4 hd4, k2⟩, ?_⟩
  obtain ⟨ev, hev, _⟩ := k2
  exact block_lt_of_cell hev

end Go.Proofs.YtijajfelmekmiaaDoor
