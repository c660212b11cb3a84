/-
  NARROWER THAN 'FOR EVERY INPUT', by the rows' own cells (each row's printed sentence says how): OpSets: loops · OpOrders: loops · OpFixed: loops.
  DERIVED. THE GIVEN ROWS OF THIS SEAT. 6 by the template 'for every input the law returns true; each argument reads behind the call as it read before'; 0 by the template 'total and deterministic' (their statements: YteopojoflhmiiaaTotals.lean).
  GIVEN WITH THE SEED: the statements are not yours to turn. If you find one false, say at which input.
  Laid BY PROGRAM, IN A SANDBOX (cutbox-rows.mjs): the forced cells as the released guide's own fill.sh prints them over the translation 27ace817401af2b1… (all of the seat's roots in one cut). By AI agents, Wed Nov 11 2026. No macro, syntax, notation, axiom, sorry.
-/
import Derived.Test.YteopojoflhmiiaaChecked
import GoSem.Claim
import GoSem.ClaimJoined
import GoSem.ClaimMapViews
import Derived.JoinedTies
import Derived.KernelRfl
namespace Go.Proofs.Yteopojoflhmiiaa
/- THE CELL 'sum', in the pinned program and in every row, IS THE sha256 OF THE DUMP (.gsa) THAT YteopojoflhmiiaaProg.lean LOADS. Nothing in Lean hashes anything: it is a label: what it is worth is what the hold of that sum in a sandbox is worth. -/
noncomputable def Try.pinned : Pinned := { name := "yteopojoflhmiiaa", sum := "27ace817401af2b1abc96774e1b0ed9f89275889dbbdfe3afe18c1542599fc1a", checked := Try.checked }
namespace Rows
def none {H : Type} : Left H := { results := [], args := [] }

/-- 'viaticumlaw11.OpInts': WHATEVER THE INPUT: true; the input reads as it did. -/
def opIntsSpec : ChangeSpec := { name := "opInts", fn := fun _ => fun
  | [d1, d2] => { results := [.lit (.bool true)], args := [d1, d2] }
  | _ => none }
def opIntsRow : OpenClaim := { program := "yteopojoflhmiiaa", sum := "27ace817401af2b1abc96774e1b0ed9f89275889dbbdfe3afe18c1542599fc1a", func := "viaticum/viaticumlaw11.OpInts", spec := "opInts", inPlace := ["internal/bytealg.IndexByteString", "internal/bytealg.IndexString"], unfollowed := true, recurses := true, named := ["internal/bytealg.MaxLen"], apart := false }
def OpIntsSaid : Prop := opIntsRow.holds Try.pinned (OpenSpec.ofChange opIntsSpec)

/-- ITS FALSE NEIGHBOUR: 'it returns false'. Refute it at one input. -/
def opIntsWrong : ChangeSpec := { name := "opInts", fn := fun _ => fun
  | [d1, d2] => { results := [.lit (.bool false)], args := [d1, d2] }
  | _ => none }
def OpIntsWrongFalsely : Prop := opIntsRow.holds Try.pinned (OpenSpec.ofChange opIntsWrong)

/-- 'viaticumlaw11.OpSets': WHATEVER THE INPUT: true; the input reads as it did. -/
def opSetsSpec : ChangeSpec := { name := "opSets", fn := fun _ => fun
  | [d1, d2] => { results := [.lit (.bool true)], args := [d1, d2] }
  | _ => none }
def opSetsRow : OpenClaim := { program := "yteopojoflhmiiaa", sum := "27ace817401af2b1abc96774e1b0ed9f89275889dbbdfe3afe18c1542599fc1a", func := "viaticum/viaticumlaw11.OpSets", spec := "opSets", inPlace := ["internal/bytealg.IndexByteString", "internal/bytealg.IndexString"], unfollowed := true, recurses := true, named := ["internal/bytealg.MaxLen"], loops := true, apart := false }
def OpSetsSaid : Prop := opSetsRow.holds Try.pinned (OpenSpec.ofChange opSetsSpec)

/-- ITS FALSE NEIGHBOUR: 'it returns false'. Refute it at one input. -/
def opSetsWrong : ChangeSpec := { name := "opSets", fn := fun _ => fun
  | [d1, d2] => { results := [.lit (.bool false)], args := [d1, d2] }
  | _ => none }
def OpSetsWrongFalsely : Prop := opSetsRow.holds Try.pinned (OpenSpec.ofChange opSetsWrong)

/-- 'viaticumlaw11.OpOrders': WHATEVER THE INPUT: true; the input reads as it did. -/
def opOrdersSpec : ChangeSpec := { name := "opOrders", fn := fun _ => fun
  | [d1, d2] => { results := [.lit (.bool true)], args := [d1, d2] }
  | _ => none }
def opOrdersRow : OpenClaim := { program := "yteopojoflhmiiaa", sum := "27ace817401af2b1abc96774e1b0ed9f89275889dbbdfe3afe18c1542599fc1a", func := "viaticum/viaticumlaw11.OpOrders", spec := "opOrders", inPlace := ["internal/bytealg.IndexByteString", "internal/bytealg.IndexString"], unfollowed := true, recurses := true, named := ["internal/bytealg.MaxLen"], loops := true, apart := false }
def OpOrdersSaid : Prop := opOrdersRow.holds Try.pinned (OpenSpec.ofChange opOrdersSpec)

/-- ITS FALSE NEIGHBOUR: 'it returns false'. Refute it at one input. -/
def opOrdersWrong : ChangeSpec := { name := "opOrders", fn := fun _ => fun
  | [d1, d2] => { results := [.lit (.bool false)], args := [d1, d2] }
  | _ => none }
def OpOrdersWrongFalsely : Prop := opOrdersRow.holds Try.pinned (OpenSpec.ofChange opOrdersWrong)

/-- 'viaticumlaw11.OpBits': WHATEVER THE INPUT: true; the input reads as it did. -/
def opBitsSpec : ChangeSpec := { name := "opBits", fn := fun _ => fun
  | [d1, d2] => { results := [.lit (.bool true)], args := [d1, d2] }
  | _ => none }
def opBitsRow : OpenClaim := { program := "yteopojoflhmiiaa", sum := "27ace817401af2b1abc96774e1b0ed9f89275889dbbdfe3afe18c1542599fc1a", func := "viaticum/viaticumlaw11.OpBits", spec := "opBits", inPlace := ["internal/bytealg.IndexByteString", "internal/bytealg.IndexString"], unfollowed := true, recurses := true, named := ["internal/bytealg.MaxLen"], apart := false }
def OpBitsSaid : Prop := opBitsRow.holds Try.pinned (OpenSpec.ofChange opBitsSpec)

/-- ITS FALSE NEIGHBOUR: 'it returns false'. Refute it at one input. -/
def opBitsWrong : ChangeSpec := { name := "opBits", fn := fun _ => fun
  | [d1, d2] => { results := [.lit (.bool false)], args := [d1, d2] }
  | _ => none }
def OpBitsWrongFalsely : Prop := opBitsRow.holds Try.pinned (OpenSpec.ofChange opBitsWrong)

/-- 'viaticumlaw11.OpFixed': WHATEVER THE INPUT: true; the input reads as it did. -/
def opFixedSpec : ChangeSpec := { name := "opFixed", fn := fun _ => fun
  | [d1, d2, d3] => { results := [.lit (.bool true)], args := [d1, d2, d3] }
  | _ => none }
def opFixedRow : OpenClaim := { program := "yteopojoflhmiiaa", sum := "27ace817401af2b1abc96774e1b0ed9f89275889dbbdfe3afe18c1542599fc1a", func := "viaticum/viaticumlaw11.OpFixed", spec := "opFixed", inPlace := ["internal/bytealg.IndexByteString", "internal/bytealg.IndexString"], unfollowed := true, recurses := true, named := ["internal/bytealg.MaxLen"], loops := true, apart := false }
def OpFixedSaid : Prop := opFixedRow.holds Try.pinned (OpenSpec.ofChange opFixedSpec)

/-- ITS FALSE NEIGHBOUR: 'it returns false'. Refute it at one input. -/
def opFixedWrong : ChangeSpec := { name := "opFixed", fn := fun _ => fun
  | [d1, d2, d3] => { results := [.lit (.bool false)], args := [d1, d2, d3] }
  | _ => none }
def OpFixedWrongFalsely : Prop := opFixedRow.holds Try.pinned (OpenSpec.ofChange opFixedWrong)

/-- 'viaticumlaw11.OpTexts': WHATEVER THE INPUT: true; the input reads as it did. -/
def opTextsSpec : ChangeSpec := { name := "opTexts", fn := fun _ => fun
  | [d1, d2] => { results := [.lit (.bool true)], args := [d1, d2] }
  | _ => none }
def opTextsRow : OpenClaim := { program := "yteopojoflhmiiaa", sum := "27ace817401af2b1abc96774e1b0ed9f89275889dbbdfe3afe18c1542599fc1a", func := "viaticum/viaticumlaw11.OpTexts", spec := "opTexts", inPlace := ["internal/bytealg.IndexByteString", "internal/bytealg.IndexString"], unfollowed := true, recurses := true, named := ["internal/bytealg.MaxLen"], apart := false }
def OpTextsSaid : Prop := opTextsRow.holds Try.pinned (OpenSpec.ofChange opTextsSpec)

/-- ITS FALSE NEIGHBOUR: 'it returns false'. Refute it at one input. -/
def opTextsWrong : ChangeSpec := { name := "opTexts", fn := fun _ => fun
  | [d1, d2] => { results := [.lit (.bool false)], args := [d1, d2] }
  | _ => none }
def OpTextsWrongFalsely : Prop := opTextsRow.holds Try.pinned (OpenSpec.ofChange opTextsWrong)

/- THE SECOND FORM. 'bulk': how many values and letters a reading holds, each counted each time it is reached (what is shared counts as often as it is met; a slice's spare places count too). A statement '..UptoSaid' is the law's where the arguments, and the package variables that the reading takes, are together of bulk at most 1048576: NARROWER than '..Said'. Prove '..Said' where nothing that the law and all that it calls make is longer than what came in: it says more and counts as full. Else prove '..UptoSaid'. A law counts once. -/
mutual
def uptoBulk {H : Type} : DataW H → Nat
  | .lit (.string bytes) => bytes.length + 1
  | .lit _ => 1
  | .nil => 1
  | .ptr d => uptoBulk d + 1
  | .slice elems spare => uptoBulkAll elems + uptoBulkAll spare + 1
  | .agg parts => uptoBulkAll parts + 1
  | .iface _ d => uptoBulk d + 1
  | .map entries => uptoBulkEntries entries + 1
  | .held _ => 1
def uptoBulkAll {H : Type} : List (DataW H) → Nat
  | [] => 0
  | d :: r => uptoBulk d + uptoBulkAll r
def uptoBulkEntries {H : Type} : List (Lit × DataW H) → Nat
  | [] => 0
  | x :: r => uptoBulkEntry x + uptoBulkEntries r
def uptoBulkEntry {H : Type} : Lit × DataW H → Nat
  | (.string bytes, d) => bytes.length + uptoBulk d + 1
  | (_, d) => uptoBulk d + 1
 end
def uptoSmall : (H : Type) → List (DataW H) → Bool := fun _ ds => decide (uptoBulkAll ds ≤ 1048576)
def OpenSpec.upto (s : _root_.Go.ChangeSpec) : _root_.Go.OpenSpec := { _root_.Go.OpenSpec.ofChange s with cond := some uptoSmall }

/-- 'viaticumlaw11.OpInts', WHERE WHAT IT READS IS OF BULK AT MOST 1048576: true; the input reads as it did. -/
def opIntsUptoRow : OpenClaim := { program := "yteopojoflhmiiaa", sum := "27ace817401af2b1abc96774e1b0ed9f89275889dbbdfe3afe18c1542599fc1a", func := "viaticum/viaticumlaw11.OpInts", spec := "opInts", inPlace := ["internal/bytealg.IndexByteString", "internal/bytealg.IndexString"], unfollowed := true, recurses := true, named := ["internal/bytealg.MaxLen"], apart := false, narrowed := true }
def OpIntsUptoSaid : Prop := opIntsUptoRow.holds Try.pinned (OpenSpec.upto opIntsSpec)

/-- 'viaticumlaw11.OpSets', WHERE WHAT IT READS IS OF BULK AT MOST 1048576: true; the input reads as it did. -/
def opSetsUptoRow : OpenClaim := { program := "yteopojoflhmiiaa", sum := "27ace817401af2b1abc96774e1b0ed9f89275889dbbdfe3afe18c1542599fc1a", func := "viaticum/viaticumlaw11.OpSets", spec := "opSets", inPlace := ["internal/bytealg.IndexByteString", "internal/bytealg.IndexString"], unfollowed := true, recurses := true, named := ["internal/bytealg.MaxLen"], loops := true, apart := false, narrowed := true }
def OpSetsUptoSaid : Prop := opSetsUptoRow.holds Try.pinned (OpenSpec.upto opSetsSpec)

/-- 'viaticumlaw11.OpOrders', WHERE WHAT IT READS IS OF BULK AT MOST 1048576: true; the input reads as it did. -/
def opOrdersUptoRow : OpenClaim := { program := "yteopojoflhmiiaa", sum := "27ace817401af2b1abc96774e1b0ed9f89275889dbbdfe3afe18c1542599fc1a", func := "viaticum/viaticumlaw11.OpOrders", spec := "opOrders", inPlace := ["internal/bytealg.IndexByteString", "internal/bytealg.IndexString"], unfollowed := true, recurses := true, named := ["internal/bytealg.MaxLen"], loops := true, apart := false, narrowed := true }
def OpOrdersUptoSaid : Prop := opOrdersUptoRow.holds Try.pinned (OpenSpec.upto opOrdersSpec)

/-- 'viaticumlaw11.OpBits', WHERE WHAT IT READS IS OF BULK AT MOST 1048576: true; the input reads as it did. -/
def opBitsUptoRow : OpenClaim := { program := "yteopojoflhmiiaa", sum := "27ace817401af2b1abc96774e1b0ed9f89275889dbbdfe3afe18c1542599fc1a", func := "viaticum/viaticumlaw11.OpBits", spec := "opBits", inPlace := ["internal/bytealg.IndexByteString", "internal/bytealg.IndexString"], unfollowed := true, recurses := true, named := ["internal/bytealg.MaxLen"], apart := false, narrowed := true }
def OpBitsUptoSaid : Prop := opBitsUptoRow.holds Try.pinned (OpenSpec.upto opBitsSpec)

/-- 'viaticumlaw11.OpFixed', WHERE WHAT IT READS IS OF BULK AT MOST 1048576: true; the input reads as it did. -/
def opFixedUptoRow : OpenClaim := { program := "yteopojoflhmiiaa", sum := "27ace817401af2b1abc96774e1b0ed9f89275889dbbdfe3afe18c1542599fc1a", func := "viaticum/viaticumlaw11.OpFixed", spec := "opFixed", inPlace := ["internal/bytealg.IndexByteString", "internal/bytealg.IndexString"], unfollowed := true, recurses := true, named := ["internal/bytealg.MaxLen"], loops := true, apart := false, narrowed := true }
def OpFixedUptoSaid : Prop := opFixedUptoRow.holds Try.pinned (OpenSpec.upto opFixedSpec)

/-- 'viaticumlaw11.OpTexts', WHERE WHAT IT READS IS OF BULK AT MOST 1048576: true; the input reads as it did. -/
def opTextsUptoRow : OpenClaim := { program := "yteopojoflhmiiaa", sum := "27ace817401af2b1abc96774e1b0ed9f89275889dbbdfe3afe18c1542599fc1a", func := "viaticum/viaticumlaw11.OpTexts", spec := "opTexts", inPlace := ["internal/bytealg.IndexByteString", "internal/bytealg.IndexString"], unfollowed := true, recurses := true, named := ["internal/bytealg.MaxLen"], apart := false, narrowed := true }
def OpTextsUptoSaid : Prop := opTextsUptoRow.holds Try.pinned (OpenSpec.upto opTextsSpec)

end Rows
end Go.Proofs.Yteopojoflhmiiaa
