/-
  NARROWER THAN 'FOR EVERY INPUT', by the rows' own cells (each row's printed sentence says how): OpSets: loops · OpFixed: loops.
  DERIVED. THE GIVEN ROWS OF THIS SEAT. 2 by the template 'for every input the law returns true; each argument reads behind the call as it read before'; 0 by the template 'total and deterministic' (their statements: YtiplipdigabidaaTotals.lean).
  GIVEN WITH THE SEED: the statements are not yours to turn. If you find one false, say at which input.
  Laid BY PROGRAM, IN A SANDBOX (cutbox-rows.mjs): the forced cells as the released guide's own fill.sh prints them over the translation b1983239d70faaf9… (all of the seat's roots in one cut). By AI agents, Wed Nov 11 2026. No macro, syntax, notation, axiom, sorry.
-/
import Derived.Test.YtiplipdigabidaaChecked
import GoSem.Claim
import GoSem.ClaimJoined
import GoSem.ClaimMapViews
import Derived.JoinedTies
import Derived.KernelRfl
namespace Go.Proofs.Ytiplipdigabidaa
/- THE CELL 'sum', in the pinned program and in every row, IS THE sha256 OF THE DUMP (.gsa) THAT YtiplipdigabidaaProg.lean LOADS. Nothing in Lean hashes anything: it is a label: what it is worth is what the hold of that sum in a sandbox is worth. -/
noncomputable def Try.pinned : Pinned := { name := "ytiplipdigabidaa", sum := "b1983239d70faaf99a1173221cc55eea59a56e633f459203dbf224a6f7f6e284", checked := Try.checked }
namespace Rows
def none {H : Type} : Left H := { results := [], args := [] }

/-- 'viaticumlaw11.OpSets': WHATEVER THE INPUT: true; the input reads as it did. -/
def opSetsSpec : ChangeSpec := { name := "opSets", fn := fun _ => fun
  | [d1, d2] => { results := [.lit (.bool true)], args := [d1, d2] }
  | _ => none }
def opSetsRow : OpenClaim := { program := "ytiplipdigabidaa", sum := "b1983239d70faaf99a1173221cc55eea59a56e633f459203dbf224a6f7f6e284", func := "viaticum/viaticumlaw11.OpSets", spec := "opSets", inPlace := ["internal/bytealg.IndexByteString", "internal/bytealg.IndexString"], unfollowed := true, recurses := true, named := ["internal/bytealg.MaxLen"], loops := true, apart := false }
def OpSetsSaid : Prop := opSetsRow.holds Try.pinned (OpenSpec.ofChange opSetsSpec)

/-- ITS FALSE NEIGHBOUR: 'it returns false'. Refute it at one input. -/
def opSetsWrong : ChangeSpec := { name := "opSets", fn := fun _ => fun
  | [d1, d2] => { results := [.lit (.bool false)], args := [d1, d2] }
  | _ => none }
def OpSetsWrongFalsely : Prop := opSetsRow.holds Try.pinned (OpenSpec.ofChange opSetsWrong)

/-- 'viaticumlaw11.OpFixed': WHATEVER THE INPUT: true; the input reads as it did. -/
def opFixedSpec : ChangeSpec := { name := "opFixed", fn := fun _ => fun
  | [d1, d2, d3] => { results := [.lit (.bool true)], args := [d1, d2, d3] }
  | _ => none }
def opFixedRow : OpenClaim := { program := "ytiplipdigabidaa", sum := "b1983239d70faaf99a1173221cc55eea59a56e633f459203dbf224a6f7f6e284", func := "viaticum/viaticumlaw11.OpFixed", spec := "opFixed", inPlace := ["internal/bytealg.IndexByteString", "internal/bytealg.IndexString"], unfollowed := true, recurses := true, named := ["internal/bytealg.MaxLen"], loops := true, apart := false }
def OpFixedSaid : Prop := opFixedRow.holds Try.pinned (OpenSpec.ofChange opFixedSpec)

/-- ITS FALSE NEIGHBOUR: 'it returns false'. Refute it at one input. -/
def opFixedWrong : ChangeSpec := { name := "opFixed", fn := fun _ => fun
  | [d1, d2, d3] => { results := [.lit (.bool false)], args := [d1, d2, d3] }
  | _ => none }
def OpFixedWrongFalsely : Prop := opFixedRow.holds Try.pinned (OpenSpec.ofChange opFixedWrong)

/- THE SECOND FORM. 'bulk': how many values and letters a reading holds, each counted each time it is reached (what is shared counts as often as it is met; a slice's spare places count too). A statement '..UptoSaid' is the law's where the arguments, and the package variables that the reading takes, are together of bulk at most 1048576: NARROWER than '..Said'. Prove '..Said' where nothing that the law and all that it calls make is longer than what came in: it says more and counts as full. Else prove '..UptoSaid'. A law counts once. -/
mutual
def uptoBulk {H : Type} : DataW H → Nat
  | .lit (.string bytes) => bytes.length + 1
  | .lit _ => 1
  | .nil => 1
  | .ptr d => uptoBulk d + 1
  | .slice elems spare => uptoBulkAll elems + uptoBulkAll spare + 1
  | .agg parts => uptoBulkAll parts + 1
  | .iface _ d => uptoBulk d + 1
  | .map entries => uptoBulkEntries entries + 1
  | .held _ => 1
def uptoBulkAll {H : Type} : List (DataW H) → Nat
  | [] => 0
  | d :: r => uptoBulk d + uptoBulkAll r
def uptoBulkEntries {H : Type} : List (Lit × DataW H) → Nat
  | [] => 0
  | x :: r => uptoBulkEntry x + uptoBulkEntries r
def uptoBulkEntry {H : Type} : Lit × DataW H → Nat
  | (.string bytes, d) => bytes.length + uptoBulk d + 1
  | (_, d) => uptoBulk d + 1
 end
def uptoSmall : (H : Type) → List (DataW H) → Bool := fun _ ds => decide (uptoBulkAll ds ≤ 1048576)
def OpenSpec.upto (s : _root_.Go.ChangeSpec) : _root_.Go.OpenSpec := { _root_.Go.OpenSpec.ofChange s with cond := some uptoSmall }

/-- 'viaticumlaw11.OpSets', WHERE WHAT IT READS IS OF BULK AT MOST 1048576: true; the input reads as it did. -/
def opSetsUptoRow : OpenClaim := { program := "ytiplipdigabidaa", sum := "b1983239d70faaf99a1173221cc55eea59a56e633f459203dbf224a6f7f6e284", func := "viaticum/viaticumlaw11.OpSets", spec := "opSets", inPlace := ["internal/bytealg.IndexByteString", "internal/bytealg.IndexString"], unfollowed := true, recurses := true, named := ["internal/bytealg.MaxLen"], loops := true, apart := false, narrowed := true }
def OpSetsUptoSaid : Prop := opSetsUptoRow.holds Try.pinned (OpenSpec.upto opSetsSpec)

/-- 'viaticumlaw11.OpFixed', WHERE WHAT IT READS IS OF BULK AT MOST 1048576: true; the input reads as it did. -/
def opFixedUptoRow : OpenClaim := { program := "ytiplipdigabidaa", sum := "b1983239d70faaf99a1173221cc55eea59a56e633f459203dbf224a6f7f6e284", func := "viaticum/viaticumlaw11.OpFixed", spec := "opFixed", inPlace := ["internal/bytealg.IndexByteString", "internal/bytealg.IndexString"], unfollowed := true, recurses := true, named := ["internal/bytealg.MaxLen"], loops := true, apart := false, narrowed := true }
def OpFixedUptoSaid : Prop := opFixedUptoRow.holds Try.pinned (OpenSpec.upto opFixedSpec)

end Rows
end Go.Proofs.Ytiplipdigabidaa
