/- The canonical code is the program's own. No condition. -/
import Derived.Test.YticompilonkfgaaCKeys
import Derived.Test.YticompilonkfgaaProg
import Derived.KernelRfl
namespace Go.Proofs.Yticompilonkfgaa.Can
open Go
theorem fn3 : toFn Try.prog p3 Try.f3 = some c3 := by kernel_rfl
theorem fn4 : toFn Try.prog p4 Try.f4 = some c4 := by kernel_rfl
theorem fn5 : toFn Try.prog p5 Try.f5 = some c5 := by kernel_rfl
theorem fn6 : toFn Try.prog p6 Try.f6 = some c6 := by kernel_rfl
theorem fn7 : toFn Try.prog p7 Try.f7 = some c7 := by kernel_rfl
theorem fn8 : toFn Try.prog p8 Try.f8 = some c8 := by kernel_rfl
theorem fn9 : toFn Try.prog p9 Try.f9 = some c9 := by kernel_rfl
theorem fn10 : toFn Try.prog p10 Try.f10 = some c10 := by kernel_rfl
theorem fn11 : toFn Try.prog p11 Try.f11 = some c11 := by kernel_rfl
theorem fn12 : toFn Try.prog p12 Try.f12 = some c12 := by kernel_rfl
theorem fn13 : toFn Try.prog p13 Try.f13 = some c13 := by kernel_rfl
theorem fn14 : toFn Try.prog p14 Try.f14 = some c14 := by kernel_rfl
theorem fn15 : toFn Try.prog p15 Try.f15 = some c15 := by kernel_rfl
theorem fn16 : toFn Try.prog p16 Try.f16 = some c16 := by kernel_rfl
end Go.Proofs.Yticompilonkfgaa.Can
