/-
  NARROWER THAN 'FOR EVERY INPUT', by the rows' own cells (each row's printed sentence says how): RuleFacts: loops · RuleScopes: loops · RuleNames: loops.
  DERIVED. THE GIVEN ROWS OF THIS SEAT. 3 by the template 'for every input the law returns true; each argument reads behind the call as it read before'; 0 by the template 'total and deterministic' (their statements: YtfknlghegchbkaaTotals.lean).
  GIVEN WITH THE SEED: the statements are not yours to turn. If you find one false, say at which input.
  Laid BY PROGRAM, IN A SANDBOX (cutbox-rows.mjs): the forced cells as the released guide's own fill.sh prints them over the translation 6d60b01abf3708a2… (all of the seat's roots in one cut). By AI agents, Wed Nov 11 2026. No macro, syntax, notation, axiom, sorry.
-/
import Derived.Test.YtfknlghegchbkaaChecked
import GoSem.Claim
import GoSem.ClaimJoined
import GoSem.ClaimMapViews
import Derived.JoinedTies
import Derived.KernelRfl
namespace Go.Proofs.Ytfknlghegchbkaa
/- THE CELL 'sum', in the pinned program and in every row, IS THE sha256 OF THE DUMP (.gsa) THAT YtfknlghegchbkaaProg.lean LOADS. Nothing in Lean hashes anything: it is a label: what it is worth is what the hold of that sum in a sandbox is worth. -/
noncomputable def Try.pinned : Pinned := { name := "ytfknlghegchbkaa", sum := "6d60b01abf3708a24cd0ccfbfb6569035cb3a384e315652e28b5ecc6dc6546ca", checked := Try.checked }
namespace Rows
def none {H : Type} : Left H := { results := [], args := [] }

/-- 'viaticumlaw14.RuleFacts': WHATEVER THE INPUT: true; the input reads as it did. -/
def ruleFactsSpec : ChangeSpec := { name := "ruleFacts", fn := fun _ => fun
  | [d1, d2] => { results := [.lit (.bool true)], args := [d1, d2] }
  | _ => none }
def ruleFactsRow : OpenClaim := { program := "ytfknlghegchbkaa", sum := "6d60b01abf3708a24cd0ccfbfb6569035cb3a384e315652e28b5ecc6dc6546ca", func := "viaticum/viaticumlaw14.RuleFacts", spec := "ruleFacts", unfollowed := true, recurses := true, loops := true, apart := false }
def RuleFactsSaid : Prop := ruleFactsRow.holds Try.pinned (OpenSpec.ofChange ruleFactsSpec)

/-- ITS FALSE NEIGHBOUR: 'it returns false'. Refute it at one input. -/
def ruleFactsWrong : ChangeSpec := { name := "ruleFacts", fn := fun _ => fun
  | [d1, d2] => { results := [.lit (.bool false)], args := [d1, d2] }
  | _ => none }
def RuleFactsWrongFalsely : Prop := ruleFactsRow.holds Try.pinned (OpenSpec.ofChange ruleFactsWrong)

/-- 'viaticumlaw14.RuleScopes': WHATEVER THE INPUT: true; the input reads as it did. -/
def ruleScopesSpec : ChangeSpec := { name := "ruleScopes", fn := fun _ => fun
  | [d1, d2] => { results := [.lit (.bool true)], args := [d1, d2] }
  | _ => none }
def ruleScopesRow : OpenClaim := { program := "ytfknlghegchbkaa", sum := "6d60b01abf3708a24cd0ccfbfb6569035cb3a384e315652e28b5ecc6dc6546ca", func := "viaticum/viaticumlaw14.RuleScopes", spec := "ruleScopes", unfollowed := true, recurses := true, loops := true, apart := false }
def RuleScopesSaid : Prop := ruleScopesRow.holds Try.pinned (OpenSpec.ofChange ruleScopesSpec)

/-- ITS FALSE NEIGHBOUR: 'it returns false'. Refute it at one input. -/
def ruleScopesWrong : ChangeSpec := { name := "ruleScopes", fn := fun _ => fun
  | [d1, d2] => { results := [.lit (.bool false)], args := [d1, d2] }
  | _ => none }
def RuleScopesWrongFalsely : Prop := ruleScopesRow.holds Try.pinned (OpenSpec.ofChange ruleScopesWrong)

/-- 'viaticumlaw14.RuleNames': WHATEVER THE INPUT: true; the input reads as it did. -/
def ruleNamesSpec : ChangeSpec := { name := "ruleNames", fn := fun _ => fun
  | [d1, d2] => { results := [.lit (.bool true)], args := [d1, d2] }
  | _ => none }
def ruleNamesRow : OpenClaim := { program := "ytfknlghegchbkaa", sum := "6d60b01abf3708a24cd0ccfbfb6569035cb3a384e315652e28b5ecc6dc6546ca", func := "viaticum/viaticumlaw14.RuleNames", spec := "ruleNames", unfollowed := true, recurses := true, loops := true, apart := false }
def RuleNamesSaid : Prop := ruleNamesRow.holds Try.pinned (OpenSpec.ofChange ruleNamesSpec)

/-- ITS FALSE NEIGHBOUR: 'it returns false'. Refute it at one input. -/
def ruleNamesWrong : ChangeSpec := { name := "ruleNames", fn := fun _ => fun
  | [d1, d2] => { results := [.lit (.bool false)], args := [d1, d2] }
  | _ => none }
def RuleNamesWrongFalsely : Prop := ruleNamesRow.holds Try.pinned (OpenSpec.ofChange ruleNamesWrong)

/- THE SECOND FORM. 'bulk': how many values and letters a reading holds, each counted each time it is reached (what is shared counts as often as it is met; a slice's spare places count too). A statement '..UptoSaid' is the law's where the arguments, and the package variables that the reading takes, are together of bulk at most 1048576: NARROWER than '..Said'. Prove '..Said' where nothing that the law and all that it calls make is longer than what came in: it says more and counts as full. Else prove '..UptoSaid'. A law counts once. -/
mutual
def uptoBulk {H : Type} : DataW H → Nat
  | .lit (.string bytes) => bytes.length + 1
  | .lit _ => 1
  | .nil => 1
  | .ptr d => uptoBulk d + 1
  | .slice elems spare => uptoBulkAll elems + uptoBulkAll spare + 1
  | .agg parts => uptoBulkAll parts + 1
  | .iface _ d => uptoBulk d + 1
  | .map entries => uptoBulkEntries entries + 1
  | .held _ => 1
def uptoBulkAll {H : Type} : List (DataW H) → Nat
  | [] => 0
  | d :: r => uptoBulk d + uptoBulkAll r
def uptoBulkEntries {H : Type} : List (Lit × DataW H) → Nat
  | [] => 0
  | x :: r => uptoBulkEntry x + uptoBulkEntries r
def uptoBulkEntry {H : Type} : Lit × DataW H → Nat
  | (.string bytes, d) => bytes.length + uptoBulk d + 1
  | (_, d) => uptoBulk d + 1
 end
def uptoSmall : (H : Type) → List (DataW H) → Bool := fun _ ds => decide (uptoBulkAll ds ≤ 1048576)
def OpenSpec.upto (s : _root_.Go.ChangeSpec) : _root_.Go.OpenSpec := { _root_.Go.OpenSpec.ofChange s with cond := some uptoSmall }

/-- 'viaticumlaw14.RuleFacts', WHERE WHAT IT READS IS OF BULK AT MOST 1048576: true; the input reads as it did. -/
def ruleFactsUptoRow : OpenClaim := { program := "ytfknlghegchbkaa", sum := "6d60b01abf3708a24cd0ccfbfb6569035cb3a384e315652e28b5ecc6dc6546ca", func := "viaticum/viaticumlaw14.RuleFacts", spec := "ruleFacts", unfollowed := true, recurses := true, loops := true, apart := false, narrowed := true }
def RuleFactsUptoSaid : Prop := ruleFactsUptoRow.holds Try.pinned (OpenSpec.upto ruleFactsSpec)

/-- 'viaticumlaw14.RuleScopes', WHERE WHAT IT READS IS OF BULK AT MOST 1048576: true; the input reads as it did. -/
def ruleScopesUptoRow : OpenClaim := { program := "ytfknlghegchbkaa", sum := "6d60b01abf3708a24cd0ccfbfb6569035cb3a384e315652e28b5ecc6dc6546ca", func := "viaticum/viaticumlaw14.RuleScopes", spec := "ruleScopes", unfollowed := true, recurses := true, loops := true, apart := false, narrowed := true }
def RuleScopesUptoSaid : Prop := ruleScopesUptoRow.holds Try.pinned (OpenSpec.upto ruleScopesSpec)

/-- 'viaticumlaw14.RuleNames', WHERE WHAT IT READS IS OF BULK AT MOST 1048576: true; the input reads as it did. -/
def ruleNamesUptoRow : OpenClaim := { program := "ytfknlghegchbkaa", sum := "6d60b01abf3708a24cd0ccfbfb6569035cb3a384e315652e28b5ecc6dc6546ca", func := "viaticum/viaticumlaw14.RuleNames", spec := "ruleNames", unfollowed := true, recurses := true, loops := true, apart := false, narrowed := true }
def RuleNamesUptoSaid : Prop := ruleNamesUptoRow.holds Try.pinned (OpenSpec.upto ruleNamesSpec)

end Rows
end Go.Proofs.Ytfknlghegchbkaa
