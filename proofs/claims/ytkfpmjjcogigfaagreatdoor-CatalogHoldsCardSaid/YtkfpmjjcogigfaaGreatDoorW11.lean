/- joined texts -/
import Derived.Test.YtkfpmjjcogigfaaGreatDoorW10
set_option linter.all false
namespace Go.Wk
open Go.Proofs
set_option linter.unusedSectionVars false
variable [Lw]
set_option maxRecDepth 10000
theorem zox{a:Bool}(h:a=true→False):a=false:=by cases a with|false=>rfl|true=>exact(h rfl).elim
end Go.Wk
