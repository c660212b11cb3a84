/-
  NARROWER THAN 'FOR EVERY INPUT', by the rows' own cells (each row's printed sentence says how): FixClosed: loops · FixTurned: loops · FixMore: loops.
  DERIVED. THE GIVEN ROWS OF THIS SEAT. 5 by the template 'for every input the law returns true; each argument reads behind the call as it read before'; 0 by the template 'total and deterministic' (their statements: YtjpndglegpcdnaaGreatTotals.lean).
  GIVEN WITH THE SEED: the statements are not yours to turn. If you find one false, say at which input.
  Laid BY PROGRAM, IN A SANDBOX (cutbox-rows.mjs): the forced cells as the released guide's own fill.sh prints them over the translation cde67850838fc835… (all of the seat's roots in one cut). By AI agents, Wed Nov 11 2026. No macro, syntax, notation, axiom, sorry.
-/
import Derived.Test.YtjpndglegpcdnaaGreatChecked
import GoSem.Claim
import GoSem.ClaimJoined
import GoSem.ClaimMapViews
import Derived.JoinedTies
import Derived.KernelRfl
namespace Go.Proofs.YtjpndglegpcdnaaGreat
/- THE CELL 'sum', in the pinned program and in every row, IS THE sha256 OF THE DUMP (.gsa) THAT YtjpndglegpcdnaaGreatProg.lean LOADS. Nothing in Lean hashes anything: it is a label: what it is worth is what the hold of that sum in a sandbox is worth. -/
noncomputable def Tryz.pinned : Pinned := { name := "ytjpndglegpcdnaagreat", sum := "cde67850838fc83522d66b6be5c6e5a03d31ecaef654cd11b7c5aae19b51d615", checked := Tryz.checked }
namespace Rows
def none {H : Type} : Left H := { results := [], args := [] }

/-- 'viaticumlaw21.FixPaths': WHATEVER THE INPUT: true; the input reads as it did. -/
def fixPathsSpec : ChangeSpec := { name := "fixPaths", fn := fun _ => fun
  | [d1, d2] => { results := [.lit (.bool true)], args := [d1, d2] }
  | _ => none }
def fixPathsRow : OpenClaim := { program := "ytjpndglegpcdnaagreat", sum := "cde67850838fc83522d66b6be5c6e5a03d31ecaef654cd11b7c5aae19b51d615", func := "viaticum/viaticumlaw21.FixPaths", spec := "fixPaths", inPlace := ["slices.overlaps[viaticum/api.Fact]", "internal/bytealg.IndexByteString", "internal/bytealg.IndexString", "slices.overlaps[string]", "slices.overlaps[viaticum/api.Term]"], unfollowed := true, recurses := true, named := ["internal/bytealg.MaxLen"], apart := false }
def FixPathsSaid : Prop := fixPathsRow.holds Tryz.pinned (OpenSpec.ofChange fixPathsSpec)

/-- ITS FALSE NEIGHBOUR: 'it returns false'. Refute it at one input. -/
def fixPathsWrong : ChangeSpec := { name := "fixPaths", fn := fun _ => fun
  | [d1, d2] => { results := [.lit (.bool false)], args := [d1, d2] }
  | _ => none }
def FixPathsWrongFalsely : Prop := fixPathsRow.holds Tryz.pinned (OpenSpec.ofChange fixPathsWrong)

/-- 'viaticumlaw21.FixClosed': WHATEVER THE INPUT: true; the input reads as it did. -/
def fixClosedSpec : ChangeSpec := { name := "fixClosed", fn := fun _ => fun
  | [d1, d2, d3] => { results := [.lit (.bool true)], args := [d1, d2, d3] }
  | _ => none }
def fixClosedRow : OpenClaim := { program := "ytjpndglegpcdnaagreat", sum := "cde67850838fc83522d66b6be5c6e5a03d31ecaef654cd11b7c5aae19b51d615", func := "viaticum/viaticumlaw21.FixClosed", spec := "fixClosed", inPlace := ["slices.overlaps[viaticum/api.Fact]", "internal/bytealg.IndexByteString", "internal/bytealg.IndexString", "slices.overlaps[string]", "slices.overlaps[viaticum/api.Term]"], unfollowed := true, recurses := true, named := ["internal/bytealg.MaxLen"], loops := true, apart := false }
def FixClosedSaid : Prop := fixClosedRow.holds Tryz.pinned (OpenSpec.ofChange fixClosedSpec)

/-- ITS FALSE NEIGHBOUR: 'it returns false'. Refute it at one input. -/
def fixClosedWrong : ChangeSpec := { name := "fixClosed", fn := fun _ => fun
  | [d1, d2, d3] => { results := [.lit (.bool false)], args := [d1, d2, d3] }
  | _ => none }
def FixClosedWrongFalsely : Prop := fixClosedRow.holds Tryz.pinned (OpenSpec.ofChange fixClosedWrong)

/-- 'viaticumlaw21.FixTurned': WHATEVER THE INPUT: true; the input reads as it did. -/
def fixTurnedSpec : ChangeSpec := { name := "fixTurned", fn := fun _ => fun
  | [d1, d2, d3, d4] => { results := [.lit (.bool true)], args := [d1, d2, d3, d4] }
  | _ => none }
def fixTurnedRow : OpenClaim := { program := "ytjpndglegpcdnaagreat", sum := "cde67850838fc83522d66b6be5c6e5a03d31ecaef654cd11b7c5aae19b51d615", func := "viaticum/viaticumlaw21.FixTurned", spec := "fixTurned", inPlace := ["slices.overlaps[viaticum/api.Fact]", "internal/bytealg.IndexByteString", "internal/bytealg.IndexString", "slices.overlaps[string]", "slices.overlaps[viaticum/api.Term]"], unfollowed := true, recurses := true, named := ["internal/bytealg.MaxLen"], loops := true, apart := false }
def FixTurnedSaid : Prop := fixTurnedRow.holds Tryz.pinned (OpenSpec.ofChange fixTurnedSpec)

/-- ITS FALSE NEIGHBOUR: 'it returns false'. Refute it at one input. -/
def fixTurnedWrong : ChangeSpec := { name := "fixTurned", fn := fun _ => fun
  | [d1, d2, d3, d4] => { results := [.lit (.bool false)], args := [d1, d2, d3, d4] }
  | _ => none }
def FixTurnedWrongFalsely : Prop := fixTurnedRow.holds Tryz.pinned (OpenSpec.ofChange fixTurnedWrong)

/-- 'viaticumlaw21.FixMore': WHATEVER THE INPUT: true; the input reads as it did. -/
def fixMoreSpec : ChangeSpec := { name := "fixMore", fn := fun _ => fun
  | [d1, d2, d3, d4] => { results := [.lit (.bool true)], args := [d1, d2, d3, d4] }
  | _ => none }
def fixMoreRow : OpenClaim := { program := "ytjpndglegpcdnaagreat", sum := "cde67850838fc83522d66b6be5c6e5a03d31ecaef654cd11b7c5aae19b51d615", func := "viaticum/viaticumlaw21.FixMore", spec := "fixMore", inPlace := ["slices.overlaps[viaticum/api.Fact]", "internal/bytealg.IndexByteString", "internal/bytealg.IndexString", "slices.overlaps[string]", "slices.overlaps[viaticum/api.Term]"], unfollowed := true, recurses := true, named := ["internal/bytealg.MaxLen"], loops := true, apart := false }
def FixMoreSaid : Prop := fixMoreRow.holds Tryz.pinned (OpenSpec.ofChange fixMoreSpec)

/-- ITS FALSE NEIGHBOUR: 'it returns false'. Refute it at one input. -/
def fixMoreWrong : ChangeSpec := { name := "fixMore", fn := fun _ => fun
  | [d1, d2, d3, d4] => { results := [.lit (.bool false)], args := [d1, d2, d3, d4] }
  | _ => none }
def FixMoreWrongFalsely : Prop := fixMoreRow.holds Tryz.pinned (OpenSpec.ofChange fixMoreWrong)

/-- 'viaticumlaw21.FixOrigins': WHATEVER THE INPUT: true; the input reads as it did. -/
def fixOriginsSpec : ChangeSpec := { name := "fixOrigins", fn := fun _ => fun
  | [d1, d2, d3] => { results := [.lit (.bool true)], args := [d1, d2, d3] }
  | _ => none }
def fixOriginsRow : OpenClaim := { program := "ytjpndglegpcdnaagreat", sum := "cde67850838fc83522d66b6be5c6e5a03d31ecaef654cd11b7c5aae19b51d615", func := "viaticum/viaticumlaw21.FixOrigins", spec := "fixOrigins", inPlace := ["slices.overlaps[viaticum/api.Fact]", "internal/bytealg.IndexByteString", "internal/bytealg.IndexString", "slices.overlaps[string]", "slices.overlaps[viaticum/api.Term]"], unfollowed := true, recurses := true, named := ["internal/bytealg.MaxLen"], apart := false }
def FixOriginsSaid : Prop := fixOriginsRow.holds Tryz.pinned (OpenSpec.ofChange fixOriginsSpec)

/-- ITS FALSE NEIGHBOUR: 'it returns false'. Refute it at one input. -/
def fixOriginsWrong : ChangeSpec := { name := "fixOrigins", fn := fun _ => fun
  | [d1, d2, d3] => { results := [.lit (.bool false)], args := [d1, d2, d3] }
  | _ => none }
def FixOriginsWrongFalsely : Prop := fixOriginsRow.holds Tryz.pinned (OpenSpec.ofChange fixOriginsWrong)

/- THE SECOND FORM. 'bulk': how many values and letters a reading holds, each counted each time it is reached (what is shared counts as often as it is met; a slice's spare places count too). A statement '..UptoSaid' is the law's where the arguments, and the package variables that the reading takes, are together of bulk at most 1048576: NARROWER than '..Said'. Prove '..Said' where nothing that the law and all that it calls make is longer than what came in: it says more and counts as full. Else prove '..UptoSaid'. A law counts once. -/
mutual
def uptoBulk {H : Type} : DataW H → Nat
  | .lit (.string bytes) => bytes.length + 1
  | .lit _ => 1
  | .nil => 1
  | .ptr d => uptoBulk d + 1
  | .slice elems spare => uptoBulkAll elems + uptoBulkAll spare + 1
  | .agg parts => uptoBulkAll parts + 1
  | .iface _ d => uptoBulk d + 1
  | .map entries => uptoBulkEntries entries + 1
  | .held _ => 1
def uptoBulkAll {H : Type} : List (DataW H) → Nat
  | [] => 0
  | d :: r => uptoBulk d + uptoBulkAll r
def uptoBulkEntries {H : Type} : List (Lit × DataW H) → Nat
  | [] => 0
  | x :: r => uptoBulkEntry x + uptoBulkEntries r
def uptoBulkEntry {H : Type} : Lit × DataW H → Nat
  | (.string bytes, d) => bytes.length + uptoBulk d + 1
  | (_, d) => uptoBulk d + 1
 end
def uptoSmall : (H : Type) → List (DataW H) → Bool := fun _ ds => decide (uptoBulkAll ds ≤ 1048576)
def OpenSpec.upto (s : _root_.Go.ChangeSpec) : _root_.Go.OpenSpec := { _root_.Go.OpenSpec.ofChange s with cond := some uptoSmall }

/-- 'viaticumlaw21.FixPaths', WHERE WHAT IT READS IS OF BULK AT MOST 1048576: true; the input reads as it did. -/
def fixPathsUptoRow : OpenClaim := { program := "ytjpndglegpcdnaagreat", sum := "cde67850838fc83522d66b6be5c6e5a03d31ecaef654cd11b7c5aae19b51d615", func := "viaticum/viaticumlaw21.FixPaths", spec := "fixPaths", inPlace := ["slices.overlaps[viaticum/api.Fact]", "internal/bytealg.IndexByteString", "internal/bytealg.IndexString", "slices.overlaps[string]", "slices.overlaps[viaticum/api.Term]"], unfollowed := true, recurses := true, named := ["internal/bytealg.MaxLen"], apart := false, narrowed := true }
def FixPathsUptoSaid : Prop := fixPathsUptoRow.holds Tryz.pinned (OpenSpec.upto fixPathsSpec)

/-- 'viaticumlaw21.FixClosed', WHERE WHAT IT READS IS OF BULK AT MOST 1048576: true; the input reads as it did. -/
def fixClosedUptoRow : OpenClaim := { program := "ytjpndglegpcdnaagreat", sum := "cde67850838fc83522d66b6be5c6e5a03d31ecaef654cd11b7c5aae19b51d615", func := "viaticum/viaticumlaw21.FixClosed", spec := "fixClosed", inPlace := ["slices.overlaps[viaticum/api.Fact]", "internal/bytealg.IndexByteString", "internal/bytealg.IndexString", "slices.overlaps[string]", "slices.overlaps[viaticum/api.Term]"], unfollowed := true, recurses := true, named := ["internal/bytealg.MaxLen"], loops := true, apart := false, narrowed := true }
def FixClosedUptoSaid : Prop := fixClosedUptoRow.holds Tryz.pinned (OpenSpec.upto fixClosedSpec)

/-- 'viaticumlaw21.FixTurned', WHERE WHAT IT READS IS OF BULK AT MOST 1048576: true; the input reads as it did. -/
def fixTurnedUptoRow : OpenClaim := { program := "ytjpndglegpcdnaagreat", sum := "cde67850838fc83522d66b6be5c6e5a03d31ecaef654cd11b7c5aae19b51d615", func := "viaticum/viaticumlaw21.FixTurned", spec := "fixTurned", inPlace := ["slices.overlaps[viaticum/api.Fact]", "internal/bytealg.IndexByteString", "internal/bytealg.IndexString", "slices.overlaps[string]", "slices.overlaps[viaticum/api.Term]"], unfollowed := true, recurses := true, named := ["internal/bytealg.MaxLen"], loops := true, apart := false, narrowed := true }
def FixTurnedUptoSaid : Prop := fixTurnedUptoRow.holds Tryz.pinned (OpenSpec.upto fixTurnedSpec)

/-- 'viaticumlaw21.FixMore', WHERE WHAT IT READS IS OF BULK AT MOST 1048576: true; the input reads as it did. -/
def fixMoreUptoRow : OpenClaim := { program := "ytjpndglegpcdnaagreat", sum := "cde67850838fc83522d66b6be5c6e5a03d31ecaef654cd11b7c5aae19b51d615", func := "viaticum/viaticumlaw21.FixMore", spec := "fixMore", inPlace := ["slices.overlaps[viaticum/api.Fact]", "internal/bytealg.IndexByteString", "internal/bytealg.IndexString", "slices.overlaps[string]", "slices.overlaps[viaticum/api.Term]"], unfollowed := true, recurses := true, named := ["internal/bytealg.MaxLen"], loops := true, apart := false, narrowed := true }
def FixMoreUptoSaid : Prop := fixMoreUptoRow.holds Tryz.pinned (OpenSpec.upto fixMoreSpec)

/-- 'viaticumlaw21.FixOrigins', WHERE WHAT IT READS IS OF BULK AT MOST 1048576: true; the input reads as it did. -/
def fixOriginsUptoRow : OpenClaim := { program := "ytjpndglegpcdnaagreat", sum := "cde67850838fc83522d66b6be5c6e5a03d31ecaef654cd11b7c5aae19b51d615", func := "viaticum/viaticumlaw21.FixOrigins", spec := "fixOrigins", inPlace := ["slices.overlaps[viaticum/api.Fact]", "internal/bytealg.IndexByteString", "internal/bytealg.IndexString", "slices.overlaps[string]", "slices.overlaps[viaticum/api.Term]"], unfollowed := true, recurses := true, named := ["internal/bytealg.MaxLen"], apart := false, narrowed := true }
def FixOriginsUptoSaid : Prop := fixOriginsUptoRow.holds Tryz.pinned (OpenSpec.upto fixOriginsSpec)

end Rows
end Go.Proofs.YtjpndglegpcdnaaGreat
