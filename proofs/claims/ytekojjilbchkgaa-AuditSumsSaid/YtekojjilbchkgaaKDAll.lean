/- The canonical code is the program's own. No condition. -/
import Derived.Test.YtekojjilbchkgaaDAll
import Derived.Test.YtekojjilbchkgaaProg
import Derived.KernelRfl
namespace Go.Proofs.Ytekojjilbchkgaa.Can
open Go
theorem fnd4 : toFnD Try.prog dset p4 Try.f4 = some d4 := by kernel_rfl
theorem fnd6 : toFnD Try.prog dset p6 Try.f6 = some d6 := by kernel_rfl
theorem fnd13 : toFnD Try.prog dset p13 Try.f13 = some d13 := by kernel_rfl
end Go.Proofs.Ytekojjilbchkgaa.Can
