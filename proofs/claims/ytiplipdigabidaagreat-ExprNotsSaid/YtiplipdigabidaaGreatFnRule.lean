/- slices.IndexFunc, slices.ContainsFunc, rule.few at an element type. Printed by wip/gen. -/
import Derived.Test.YtiplipdigabidaaGreatRead2
set_option linter.unusedVariables false
set_option linter.unusedSimpArgs false
namespace Go.Proofs.YtiplipdigabidaaGreat
open Go.ChangeShapes Go.WideShapes Go.ChangeAt Go.RowKit























end Go.Proofs.YtiplipdigabidaaGreat
