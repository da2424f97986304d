/- Contracts of functions, each out of its run by PI. No conditions. -/
import Derived.Test.YtepkbkojgbcahaaCA0
namespace Go.Pi
open Go.Proofs
set_option linter.unusedVariables false
set_option linter.unusedSimpArgs false
set_option maxRecDepth 100000
attribute [local irreducible] iterN
def costAdd (a b : Cost) : Cost := ⟨IntKind.i64.wrap (a.pulled + b.pulled), IntKind.i64.wrap (a.done + b.done), IntKind.i64.wrap (a.kept + b.kept), IntKind.i64.wrap (a.back + b.back), IntKind.i64.wrap (a.swept + b.swept)⟩
end Go.Pi
