/-
  NARROWER THAN 'FOR EVERY INPUT', by the rows' own cells (each row's printed sentence says how): JoinOnes: loops · JoinBinds: loops.
  DERIVED. THE GIVEN ROWS OF THIS SEAT. 2 by the template 'for every input the law returns true; each argument reads behind the call as it read before'; 0 by the template 'total and deterministic' (their statements: YtkdonhhbpacgmaaGreatTotals.lean).
  GIVEN WITH THE SEED: the statements are not yours to turn. If you find one false, say at which input.
  Laid BY PROGRAM, IN A SANDBOX (cutbox-rows.mjs): the forced cells as the released guide's own fill.sh prints them over the translation c1c148290641425d… (all of the seat's roots in one cut). By AI agents, Wed Nov 11 2026. No macro, syntax, notation, axiom, sorry.
-/
import Derived.Test.YtkdonhhbpacgmaaGreatChecked
import GoSem.Claim
import GoSem.ClaimJoined
import GoSem.ClaimMapViews
import Derived.JoinedTies
import Derived.KernelRfl
namespace Go.Proofs.YtkdonhhbpacgmaaGreat
/- THE CELL 'sum', in the pinned program and in every row, IS THE sha256 OF THE DUMP (.gsa) THAT YtkdonhhbpacgmaaGreatProg.lean LOADS. Nothing in Lean hashes anything: it is a label: what it is worth is what the hold of that sum in a sandbox is worth. -/
noncomputable def Tryz.pinned : Pinned := { name := "ytkdonhhbpacgmaagreat", sum := "c1c148290641425df8fc6e6d9b531ad3dc34560b23676a7ffe3faf18688df496", checked := Tryz.checked }
namespace Rows
def none {H : Type} : Left H := { results := [], args := [] }

/-- 'viaticumlaw19.JoinOnes': WHATEVER THE INPUT: true; the input reads as it did. -/
def joinOnesSpec : ChangeSpec := { name := "joinOnes", fn := fun _ => fun
  | [d1, d2, d3] => { results := [.lit (.bool true)], args := [d1, d2, d3] }
  | _ => none }
def joinOnesRow : OpenClaim := { program := "ytkdonhhbpacgmaagreat", sum := "c1c148290641425df8fc6e6d9b531ad3dc34560b23676a7ffe3faf18688df496", func := "viaticum/viaticumlaw19.JoinOnes", spec := "joinOnes", inPlace := ["slices.overlaps[viaticum/api.Fact]", "internal/bytealg.IndexByteString", "internal/bytealg.IndexString", "slices.overlaps[string]", "slices.overlaps[viaticum/api.Term]"], unfollowed := true, recurses := true, named := ["internal/bytealg.MaxLen"], loops := true, apart := false }
def JoinOnesSaid : Prop := joinOnesRow.holds Tryz.pinned (OpenSpec.ofChange joinOnesSpec)

/-- ITS FALSE NEIGHBOUR: 'it returns false'. Refute it at one input. -/
def joinOnesWrong : ChangeSpec := { name := "joinOnes", fn := fun _ => fun
  | [d1, d2, d3] => { results := [.lit (.bool false)], args := [d1, d2, d3] }
  | _ => none }
def JoinOnesWrongFalsely : Prop := joinOnesRow.holds Tryz.pinned (OpenSpec.ofChange joinOnesWrong)

/-- 'viaticumlaw19.JoinBinds': WHATEVER THE INPUT: true; the input reads as it did. -/
def joinBindsSpec : ChangeSpec := { name := "joinBinds", fn := fun _ => fun
  | [d1, d2, d3] => { results := [.lit (.bool true)], args := [d1, d2, d3] }
  | _ => none }
def joinBindsRow : OpenClaim := { program := "ytkdonhhbpacgmaagreat", sum := "c1c148290641425df8fc6e6d9b531ad3dc34560b23676a7ffe3faf18688df496", func := "viaticum/viaticumlaw19.JoinBinds", spec := "joinBinds", inPlace := ["slices.overlaps[viaticum/api.Fact]", "internal/bytealg.IndexByteString", "internal/bytealg.IndexString", "slices.overlaps[string]", "slices.overlaps[viaticum/api.Term]"], unfollowed := true, recurses := true, named := ["internal/bytealg.MaxLen"], loops := true, apart := false }
def JoinBindsSaid : Prop := joinBindsRow.holds Tryz.pinned (OpenSpec.ofChange joinBindsSpec)

/-- ITS FALSE NEIGHBOUR: 'it returns false'. Refute it at one input. -/
def joinBindsWrong : ChangeSpec := { name := "joinBinds", fn := fun _ => fun
  | [d1, d2, d3] => { results := [.lit (.bool false)], args := [d1, d2, d3] }
  | _ => none }
def JoinBindsWrongFalsely : Prop := joinBindsRow.holds Tryz.pinned (OpenSpec.ofChange joinBindsWrong)

/- THE SECOND FORM. 'bulk': how many values and letters a reading holds, each counted each time it is reached (what is shared counts as often as it is met; a slice's spare places count too). A statement '..UptoSaid' is the law's where the arguments, and the package variables that the reading takes, are together of bulk at most 1048576: NARROWER than '..Said'. Prove '..Said' where nothing that the law and all that it calls make is longer than what came in: it says more and counts as full. Else prove '..UptoSaid'. A law counts once. -/
mutual
def uptoBulk {H : Type} : DataW H → Nat
  | .lit (.string bytes) => bytes.length + 1
  | .lit _ => 1
  | .nil => 1
  | .ptr d => uptoBulk d + 1
  | .slice elems spare => uptoBulkAll elems + uptoBulkAll spare + 1
  | .agg parts => uptoBulkAll parts + 1
  | .iface _ d => uptoBulk d + 1
  | .map entries => uptoBulkEntries entries + 1
  | .held _ => 1
def uptoBulkAll {H : Type} : List (DataW H) → Nat
  | [] => 0
  | d :: r => uptoBulk d + uptoBulkAll r
def uptoBulkEntries {H : Type} : List (Lit × DataW H) → Nat
  | [] => 0
  | x :: r => uptoBulkEntry x + uptoBulkEntries r
def uptoBulkEntry {H : Type} : Lit × DataW H → Nat
  | (.string bytes, d) => bytes.length + uptoBulk d + 1
  | (_, d) => uptoBulk d + 1
 end
def uptoSmall : (H : Type) → List (DataW H) → Bool := fun _ ds => decide (uptoBulkAll ds ≤ 1048576)
def OpenSpec.upto (s : _root_.Go.ChangeSpec) : _root_.Go.OpenSpec := { _root_.Go.OpenSpec.ofChange s with cond := some uptoSmall }

/-- 'viaticumlaw19.JoinOnes', WHERE WHAT IT READS IS OF BULK AT MOST 1048576: true; the input reads as it did. -/
def joinOnesUptoRow : OpenClaim := { program := "ytkdonhhbpacgmaagreat", sum := "c1c148290641425df8fc6e6d9b531ad3dc34560b23676a7ffe3faf18688df496", func := "viaticum/viaticumlaw19.JoinOnes", spec := "joinOnes", inPlace := ["slices.overlaps[viaticum/api.Fact]", "internal/bytealg.IndexByteString", "internal/bytealg.IndexString", "slices.overlaps[string]", "slices.overlaps[viaticum/api.Term]"], unfollowed := true, recurses := true, named := ["internal/bytealg.MaxLen"], loops := true, apart := false, narrowed := true }
def JoinOnesUptoSaid : Prop := joinOnesUptoRow.holds Tryz.pinned (OpenSpec.upto joinOnesSpec)

/-- 'viaticumlaw19.JoinBinds', WHERE WHAT IT READS IS OF BULK AT MOST 1048576: true; the input reads as it did. -/
def joinBindsUptoRow : OpenClaim := { program := "ytkdonhhbpacgmaagreat", sum := "c1c148290641425df8fc6e6d9b531ad3dc34560b23676a7ffe3faf18688df496", func := "viaticum/viaticumlaw19.JoinBinds", spec := "joinBinds", inPlace := ["slices.overlaps[viaticum/api.Fact]", "internal/bytealg.IndexByteString", "internal/bytealg.IndexString", "slices.overlaps[string]", "slices.overlaps[viaticum/api.Term]"], unfollowed := true, recurses := true, named := ["internal/bytealg.MaxLen"], loops := true, apart := false, narrowed := true }
def JoinBindsUptoSaid : Prop := joinBindsUptoRow.holds Tryz.pinned (OpenSpec.upto joinBindsSpec)

end Rows
end Go.Proofs.YtkdonhhbpacgmaaGreat
