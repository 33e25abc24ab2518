/- What holds of the program, whatever law is asked of it: its stops are heard, it may be entered, nothing is lifted in it, its make. No condition. -/
import Derived.Test.YtgolgnbgomhknaaGreatRows
import Derived.Test.YtgolgnbgomhknaaGreatChecked
import Derived.WalkKit
import Derived.ProofKit
import Derived.OpenShut
set_option linter.unusedSimpArgs false
set_option linter.unusedVariables false
set_option maxRecDepth 100000
namespace Go.Proofs.YtgolgnbgomhknaaGreat.qj
open Go
theorem sa : Tryz.prog.stopsHeard = true := by kernel_rfl
theorem sb : Tryz.prog.mayEnter = true := by kernel_rfl
theorem sc : Tryz.prog.liftsFinal = false := by kernel_rfl
theorem sd : (Tryz.prog.make == some Rows.fnCasStopRow.make) = true := by kernel_rfl
end Go.Proofs.YtgolgnbgomhknaaGreat.qj
