/- The canonical code is the program's own. No condition. -/
import Derived.Test.YtekojjilbchkgaaCAll
import Derived.Test.YtekojjilbchkgaaProg
import Derived.KernelRfl
namespace Go.Proofs.Ytekojjilbchkgaa.Can
open Go
theorem fn3 : toFn Try.prog p3 Try.f3 = some c3 := by kernel_rfl
theorem fn4 : toFn Try.prog p4 Try.f4 = some c4 := by kernel_rfl
theorem fn5 : toFn Try.prog p5 Try.f5 = some c5 := by kernel_rfl
theorem fn6 : toFn Try.prog p6 Try.f6 = some c6 := by kernel_rfl
theorem fn7 : toFn Try.prog p7 Try.f7 = some c7 := by kernel_rfl
theorem fn8 : toFn Try.prog p8 Try.f8 = some c8 := by kernel_rfl
theorem fn9 : toFn Try.prog p9 Try.f9 = some c9 := by kernel_rfl
theorem fn10 : toFn Try.prog p10 Try.f10 = some c10 := by kernel_rfl
theorem fn11 : toFn Try.prog p11 Try.f11 = some c11 := by kernel_rfl
theorem fn12 : toFn Try.prog p12 Try.f12 = some c12 := by kernel_rfl
theorem fn13 : toFn Try.prog p13 Try.f13 = some c13 := by kernel_rfl
theorem fn14 : toFn Try.prog p14 Try.f14 = some c14 := by kernel_rfl
theorem fn15 : toFn Try.prog p15 Try.f15 = some c15 := by kernel_rfl
theorem fn16 : toFn Try.prog p16 Try.f16 = some c16 := by kernel_rfl
theorem fn17 : toFn Try.prog p17 Try.f17 = some c17 := by kernel_rfl
theorem fn18 : toFn Try.prog p18 Try.f18 = some c18 := by kernel_rfl
theorem fn19 : toFn Try.prog p19 Try.f19 = some c19 := by kernel_rfl
theorem fn20 : toFn Try.prog p20 Try.f20 = some c20 := by kernel_rfl
theorem fn21 : toFn Try.prog p21 Try.f21 = some c21 := by kernel_rfl
theorem fn22 : toFn Try.prog p22 Try.f22 = some c22 := by kernel_rfl
theorem fn23 : toFn Try.prog p23 Try.f23 = some c23 := by kernel_rfl
theorem fn24 : toFn Try.prog p24 Try.f24 = some c24 := by kernel_rfl
theorem fn25 : toFn Try.prog p25 Try.f25 = some c25 := by kernel_rfl
theorem fn26 : toFn Try.prog p26 Try.f26 = some c26 := by kernel_rfl
theorem fn27 : toFn Try.prog p27 Try.f27 = some c27 := by kernel_rfl
theorem fn28 : toFn Try.prog p28 Try.f28 = some c28 := by kernel_rfl
theorem fn29 : toFn Try.prog p29 Try.f29 = some c29 := by kernel_rfl
theorem fn30 : toFn Try.prog p30 Try.f30 = some c30 := by kernel_rfl
theorem fn31 : toFn Try.prog p31 Try.f31 = some c31 := by kernel_rfl
theorem fn32 : toFn Try.prog p32 Try.f32 = some c32 := by kernel_rfl
theorem fn33 : toFn Try.prog p33 Try.f33 = some c33 := by kernel_rfl
theorem fn34 : toFn Try.prog p34 Try.f34 = some c34 := by kernel_rfl
theorem fn35 : toFn Try.prog p35 Try.f35 = some c35 := by kernel_rfl
theorem fn36 : toFn Try.prog p36 Try.f36 = some c36 := by kernel_rfl
end Go.Proofs.Ytekojjilbchkgaa.Can
