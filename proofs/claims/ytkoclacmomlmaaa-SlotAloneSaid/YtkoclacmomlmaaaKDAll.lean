/- The canonical code is the program's own. No condition. -/
import Derived.Test.YtkoclacmomlmaaaDAll
import Derived.Test.YtkoclacmomlmaaaProg
import Derived.KernelRfl
namespace Go.Proofs.Ytkoclacmomlmaaa.Can
open Go
theorem fnd3 : toFnD Try.prog p3 Try.f3 = some d3 := by kernel_rfl
theorem fnd7 : toFnD Try.prog p7 Try.f7 = some d7 := by kernel_rfl
end Go.Proofs.Ytkoclacmomlmaaa.Can
