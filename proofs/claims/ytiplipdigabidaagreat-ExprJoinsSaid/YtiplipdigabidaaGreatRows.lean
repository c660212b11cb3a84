/-
  NARROWER THAN 'FOR EVERY INPUT', by the rows' own cells (each row's printed sentence says how): ExprLazy: loops · ExprJoins: loops · ExprNots: loops · ExprFixed: loops · ExprOne: loops · ExprForms: loops.
  DERIVED. THE GIVEN ROWS OF THIS SEAT. 6 by the template 'for every input the law returns true; each argument reads behind the call as it read before'; 0 by the template 'total and deterministic' (their statements: YtiplipdigabidaaGreatTotals.lean).
  GIVEN WITH THE SEED: the statements are not yours to turn. If you find one false, say at which input.
  Laid BY PROGRAM, IN A SANDBOX (cutbox-rows.mjs): the forced cells as the released guide's own fill.sh prints them over the translation ea0582bfd6d6ed98… (all of the seat's roots in one cut). By AI agents, Wed Nov 11 2026. No macro, syntax, notation, axiom, sorry.
-/
import Derived.Test.YtiplipdigabidaaGreatChecked
import GoSem.Claim
import GoSem.ClaimJoined
import GoSem.ClaimMapViews
import Derived.JoinedTies
import Derived.KernelRfl
namespace Go.Proofs.YtiplipdigabidaaGreat
/- THE CELL 'sum', in the pinned program and in every row, IS THE sha256 OF THE DUMP (.gsa) THAT YtiplipdigabidaaGreatProg.lean LOADS. Nothing in Lean hashes anything: it is a label: what it is worth is what the hold of that sum in a sandbox is worth. -/
noncomputable def Tryz.pinned : Pinned := { name := "ytiplipdigabidaagreat", sum := "ea0582bfd6d6ed98b54b83981ee6a24f0c6cc105720bb2f1ad5c2a635fd33804", checked := Tryz.checked }
namespace Rows
def none {H : Type} : Left H := { results := [], args := [] }

/-- 'viaticumlaw12.ExprLazy': WHATEVER THE INPUT: true; the input reads as it did. -/
def exprLazySpec : ChangeSpec := { name := "exprLazy", fn := fun _ => fun
  | [d1, d2, d3, d4] => { results := [.lit (.bool true)], args := [d1, d2, d3, d4] }
  | _ => none }
def exprLazyRow : OpenClaim := { program := "ytiplipdigabidaagreat", sum := "ea0582bfd6d6ed98b54b83981ee6a24f0c6cc105720bb2f1ad5c2a635fd33804", func := "viaticum/viaticumlaw12.ExprLazy", spec := "exprLazy", inPlace := ["internal/bytealg.IndexByteString", "internal/bytealg.IndexString"], unfollowed := true, recurses := true, named := ["internal/bytealg.MaxLen"], loops := true, apart := false }
def ExprLazySaid : Prop := exprLazyRow.holds Tryz.pinned (OpenSpec.ofChange exprLazySpec)

/-- ITS FALSE NEIGHBOUR: 'it returns false'. Refute it at one input. -/
def exprLazyWrong : ChangeSpec := { name := "exprLazy", fn := fun _ => fun
  | [d1, d2, d3, d4] => { results := [.lit (.bool false)], args := [d1, d2, d3, d4] }
  | _ => none }
def ExprLazyWrongFalsely : Prop := exprLazyRow.holds Tryz.pinned (OpenSpec.ofChange exprLazyWrong)

/-- 'viaticumlaw12.ExprJoins': WHATEVER THE INPUT: true; the input reads as it did. -/
def exprJoinsSpec : ChangeSpec := { name := "exprJoins", fn := fun _ => fun
  | [d1, d2, d3, d4] => { results := [.lit (.bool true)], args := [d1, d2, d3, d4] }
  | _ => none }
def exprJoinsRow : OpenClaim := { program := "ytiplipdigabidaagreat", sum := "ea0582bfd6d6ed98b54b83981ee6a24f0c6cc105720bb2f1ad5c2a635fd33804", func := "viaticum/viaticumlaw12.ExprJoins", spec := "exprJoins", inPlace := ["internal/bytealg.IndexByteString", "internal/bytealg.IndexString"], unfollowed := true, recurses := true, named := ["internal/bytealg.MaxLen"], loops := true, apart := false }
def ExprJoinsSaid : Prop := exprJoinsRow.holds Tryz.pinned (OpenSpec.ofChange exprJoinsSpec)

/-- ITS FALSE NEIGHBOUR: 'it returns false'. Refute it at one input. -/
def exprJoinsWrong : ChangeSpec := { name := "exprJoins", fn := fun _ => fun
  | [d1, d2, d3, d4] => { results := [.lit (.bool false)], args := [d1, d2, d3, d4] }
  | _ => none }
def ExprJoinsWrongFalsely : Prop := exprJoinsRow.holds Tryz.pinned (OpenSpec.ofChange exprJoinsWrong)

/-- 'viaticumlaw12.ExprNots': WHATEVER THE INPUT: true; the input reads as it did. -/
def exprNotsSpec : ChangeSpec := { name := "exprNots", fn := fun _ => fun
  | [d1, d2] => { results := [.lit (.bool true)], args := [d1, d2] }
  | _ => none }
def exprNotsRow : OpenClaim := { program := "ytiplipdigabidaagreat", sum := "ea0582bfd6d6ed98b54b83981ee6a24f0c6cc105720bb2f1ad5c2a635fd33804", func := "viaticum/viaticumlaw12.ExprNots", spec := "exprNots", inPlace := ["internal/bytealg.IndexByteString", "internal/bytealg.IndexString"], unfollowed := true, recurses := true, named := ["internal/bytealg.MaxLen"], loops := true, apart := false }
def ExprNotsSaid : Prop := exprNotsRow.holds Tryz.pinned (OpenSpec.ofChange exprNotsSpec)

/-- ITS FALSE NEIGHBOUR: 'it returns false'. Refute it at one input. -/
def exprNotsWrong : ChangeSpec := { name := "exprNots", fn := fun _ => fun
  | [d1, d2] => { results := [.lit (.bool false)], args := [d1, d2] }
  | _ => none }
def ExprNotsWrongFalsely : Prop := exprNotsRow.holds Tryz.pinned (OpenSpec.ofChange exprNotsWrong)

/-- 'viaticumlaw12.ExprFixed': WHATEVER THE INPUT: true; the input reads as it did. -/
def exprFixedSpec : ChangeSpec := { name := "exprFixed", fn := fun _ => fun
  | [d1, d2] => { results := [.lit (.bool true)], args := [d1, d2] }
  | _ => none }
def exprFixedRow : OpenClaim := { program := "ytiplipdigabidaagreat", sum := "ea0582bfd6d6ed98b54b83981ee6a24f0c6cc105720bb2f1ad5c2a635fd33804", func := "viaticum/viaticumlaw12.ExprFixed", spec := "exprFixed", inPlace := ["internal/bytealg.IndexByteString", "internal/bytealg.IndexString"], unfollowed := true, recurses := true, named := ["internal/bytealg.MaxLen"], loops := true, apart := false }
def ExprFixedSaid : Prop := exprFixedRow.holds Tryz.pinned (OpenSpec.ofChange exprFixedSpec)

/-- ITS FALSE NEIGHBOUR: 'it returns false'. Refute it at one input. -/
def exprFixedWrong : ChangeSpec := { name := "exprFixed", fn := fun _ => fun
  | [d1, d2] => { results := [.lit (.bool false)], args := [d1, d2] }
  | _ => none }
def ExprFixedWrongFalsely : Prop := exprFixedRow.holds Tryz.pinned (OpenSpec.ofChange exprFixedWrong)

/-- 'viaticumlaw12.ExprOne': WHATEVER THE INPUT: true; the input reads as it did. -/
def exprOneSpec : ChangeSpec := { name := "exprOne", fn := fun _ => fun
  | [d1, d2] => { results := [.lit (.bool true)], args := [d1, d2] }
  | _ => none }
def exprOneRow : OpenClaim := { program := "ytiplipdigabidaagreat", sum := "ea0582bfd6d6ed98b54b83981ee6a24f0c6cc105720bb2f1ad5c2a635fd33804", func := "viaticum/viaticumlaw12.ExprOne", spec := "exprOne", inPlace := ["internal/bytealg.IndexByteString", "internal/bytealg.IndexString"], unfollowed := true, recurses := true, named := ["internal/bytealg.MaxLen"], loops := true, apart := false }
def ExprOneSaid : Prop := exprOneRow.holds Tryz.pinned (OpenSpec.ofChange exprOneSpec)

/-- ITS FALSE NEIGHBOUR: 'it returns false'. Refute it at one input. -/
def exprOneWrong : ChangeSpec := { name := "exprOne", fn := fun _ => fun
  | [d1, d2] => { results := [.lit (.bool false)], args := [d1, d2] }
  | _ => none }
def ExprOneWrongFalsely : Prop := exprOneRow.holds Tryz.pinned (OpenSpec.ofChange exprOneWrong)

/-- 'viaticumlaw12.ExprForms': WHATEVER THE INPUT: true; the input reads as it did. -/
def exprFormsSpec : ChangeSpec := { name := "exprForms", fn := fun _ => fun
  | [d1, d2, d3] => { results := [.lit (.bool true)], args := [d1, d2, d3] }
  | _ => none }
def exprFormsRow : OpenClaim := { program := "ytiplipdigabidaagreat", sum := "ea0582bfd6d6ed98b54b83981ee6a24f0c6cc105720bb2f1ad5c2a635fd33804", func := "viaticum/viaticumlaw12.ExprForms", spec := "exprForms", inPlace := ["internal/bytealg.IndexByteString", "internal/bytealg.IndexString"], unfollowed := true, recurses := true, named := ["internal/bytealg.MaxLen"], loops := true, apart := false }
def ExprFormsSaid : Prop := exprFormsRow.holds Tryz.pinned (OpenSpec.ofChange exprFormsSpec)

/-- ITS FALSE NEIGHBOUR: 'it returns false'. Refute it at one input. -/
def exprFormsWrong : ChangeSpec := { name := "exprForms", fn := fun _ => fun
  | [d1, d2, d3] => { results := [.lit (.bool false)], args := [d1, d2, d3] }
  | _ => none }
def ExprFormsWrongFalsely : Prop := exprFormsRow.holds Tryz.pinned (OpenSpec.ofChange exprFormsWrong)

/- THE SECOND FORM. 'bulk': how many values and letters a reading holds, each counted each time it is reached (what is shared counts as often as it is met; a slice's spare places count too). A statement '..UptoSaid' is the law's where the arguments, and the package variables that the reading takes, are together of bulk at most 1048576: NARROWER than '..Said'. Prove '..Said' where nothing that the law and all that it calls make is longer than what came in: it says more and counts as full. Else prove '..UptoSaid'. A law counts once. -/
mutual
def uptoBulk {H : Type} : DataW H → Nat
  | .lit (.string bytes) => bytes.length + 1
  | .lit _ => 1
  | .nil => 1
  | .ptr d => uptoBulk d + 1
  | .slice elems spare => uptoBulkAll elems + uptoBulkAll spare + 1
  | .agg parts => uptoBulkAll parts + 1
  | .iface _ d => uptoBulk d + 1
  | .map entries => uptoBulkEntries entries + 1
  | .held _ => 1
def uptoBulkAll {H : Type} : List (DataW H) → Nat
  | [] => 0
  | d :: r => uptoBulk d + uptoBulkAll r
def uptoBulkEntries {H : Type} : List (Lit × DataW H) → Nat
  | [] => 0
  | x :: r => uptoBulkEntry x + uptoBulkEntries r
def uptoBulkEntry {H : Type} : Lit × DataW H → Nat
  | (.string bytes, d) => bytes.length + uptoBulk d + 1
  | (_, d) => uptoBulk d + 1
 end
def uptoSmall : (H : Type) → List (DataW H) → Bool := fun _ ds => decide (uptoBulkAll ds ≤ 1048576)
def OpenSpec.upto (s : _root_.Go.ChangeSpec) : _root_.Go.OpenSpec := { _root_.Go.OpenSpec.ofChange s with cond := some uptoSmall }

/-- 'viaticumlaw12.ExprLazy', WHERE WHAT IT READS IS OF BULK AT MOST 1048576: true; the input reads as it did. -/
def exprLazyUptoRow : OpenClaim := { program := "ytiplipdigabidaagreat", sum := "ea0582bfd6d6ed98b54b83981ee6a24f0c6cc105720bb2f1ad5c2a635fd33804", func := "viaticum/viaticumlaw12.ExprLazy", spec := "exprLazy", inPlace := ["internal/bytealg.IndexByteString", "internal/bytealg.IndexString"], unfollowed := true, recurses := true, named := ["internal/bytealg.MaxLen"], loops := true, apart := false, narrowed := true }
def ExprLazyUptoSaid : Prop := exprLazyUptoRow.holds Tryz.pinned (OpenSpec.upto exprLazySpec)

/-- 'viaticumlaw12.ExprJoins', WHERE WHAT IT READS IS OF BULK AT MOST 1048576: true; the input reads as it did. -/
def exprJoinsUptoRow : OpenClaim := { program := "ytiplipdigabidaagreat", sum := "ea0582bfd6d6ed98b54b83981ee6a24f0c6cc105720bb2f1ad5c2a635fd33804", func := "viaticum/viaticumlaw12.ExprJoins", spec := "exprJoins", inPlace := ["internal/bytealg.IndexByteString", "internal/bytealg.IndexString"], unfollowed := true, recurses := true, named := ["internal/bytealg.MaxLen"], loops := true, apart := false, narrowed := true }
def ExprJoinsUptoSaid : Prop := exprJoinsUptoRow.holds Tryz.pinned (OpenSpec.upto exprJoinsSpec)

/-- 'viaticumlaw12.ExprNots', WHERE WHAT IT READS IS OF BULK AT MOST 1048576: true; the input reads as it did. -/
def exprNotsUptoRow : OpenClaim := { program := "ytiplipdigabidaagreat", sum := "ea0582bfd6d6ed98b54b83981ee6a24f0c6cc105720bb2f1ad5c2a635fd33804", func := "viaticum/viaticumlaw12.ExprNots", spec := "exprNots", inPlace := ["internal/bytealg.IndexByteString", "internal/bytealg.IndexString"], unfollowed := true, recurses := true, named := ["internal/bytealg.MaxLen"], loops := true, apart := false, narrowed := true }
def ExprNotsUptoSaid : Prop := exprNotsUptoRow.holds Tryz.pinned (OpenSpec.upto exprNotsSpec)

/-- 'viaticumlaw12.ExprFixed', WHERE WHAT IT READS IS OF BULK AT MOST 1048576: true; the input reads as it did. -/
def exprFixedUptoRow : OpenClaim := { program := "ytiplipdigabidaagreat", sum := "ea0582bfd6d6ed98b54b83981ee6a24f0c6cc105720bb2f1ad5c2a635fd33804", func := "viaticum/viaticumlaw12.ExprFixed", spec := "exprFixed", inPlace := ["internal/bytealg.IndexByteString", "internal/bytealg.IndexString"], unfollowed := true, recurses := true, named := ["internal/bytealg.MaxLen"], loops := true, apart := false, narrowed := true }
def ExprFixedUptoSaid : Prop := exprFixedUptoRow.holds Tryz.pinned (OpenSpec.upto exprFixedSpec)

/-- 'viaticumlaw12.ExprOne', WHERE WHAT IT READS IS OF BULK AT MOST 1048576: true; the input reads as it did. -/
def exprOneUptoRow : OpenClaim := { program := "ytiplipdigabidaagreat", sum := "ea0582bfd6d6ed98b54b83981ee6a24f0c6cc105720bb2f1ad5c2a635fd33804", func := "viaticum/viaticumlaw12.ExprOne", spec := "exprOne", inPlace := ["internal/bytealg.IndexByteString", "internal/bytealg.IndexString"], unfollowed := true, recurses := true, named := ["internal/bytealg.MaxLen"], loops := true, apart := false, narrowed := true }
def ExprOneUptoSaid : Prop := exprOneUptoRow.holds Tryz.pinned (OpenSpec.upto exprOneSpec)

/-- 'viaticumlaw12.ExprForms', WHERE WHAT IT READS IS OF BULK AT MOST 1048576: true; the input reads as it did. -/
def exprFormsUptoRow : OpenClaim := { program := "ytiplipdigabidaagreat", sum := "ea0582bfd6d6ed98b54b83981ee6a24f0c6cc105720bb2f1ad5c2a635fd33804", func := "viaticum/viaticumlaw12.ExprForms", spec := "exprForms", inPlace := ["internal/bytealg.IndexByteString", "internal/bytealg.IndexString"], unfollowed := true, recurses := true, named := ["internal/bytealg.MaxLen"], loops := true, apart := false, narrowed := true }
def ExprFormsUptoSaid : Prop := exprFormsUptoRow.holds Tryz.pinned (OpenSpec.upto exprFormsSpec)

end Rows
end Go.Proofs.YtiplipdigabidaaGreat
