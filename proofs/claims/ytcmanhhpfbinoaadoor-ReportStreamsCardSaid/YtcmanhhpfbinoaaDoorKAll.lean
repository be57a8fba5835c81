/- The canonical code is the program's own. No condition. -/
import Derived.Test.YtcmanhhpfbinoaaDoorCAll
import Derived.Test.YtcmanhhpfbinoaaDoorProg
import Derived.KernelRfl
namespace Go.Proofs.YtcmanhhpfbinoaaDoor.Can
open Go
theorem fn3 : toFn Tryd.prog p3 Tryd.f3 = some c3 := by kernel_rfl
theorem fn4 : toFn Tryd.prog p4 Tryd.f4 = some c4 := by kernel_rfl
theorem fn5 : toFn Tryd.prog p5 Tryd.f5 = some c5 := by kernel_rfl
theorem fn6 : toFn Tryd.prog p6 Tryd.f6 = some c6 := by kernel_rfl
theorem fn7 : toFn Tryd.prog p7 Tryd.f7 = some c7 := by kernel_rfl
theorem fn8 : toFn Tryd.prog p8 Tryd.f8 = some c8 := by kernel_rfl
theorem fn9 : toFn Tryd.prog p9 Tryd.f9 = some c9 := by kernel_rfl
theorem fn10 : toFn Tryd.prog p10 Tryd.f10 = some c10 := by kernel_rfl
theorem fn11 : toFn Tryd.prog p11 Tryd.f11 = some c11 := by kernel_rfl
theorem fn12 : toFn Tryd.prog p12 Tryd.f12 = some c12 := by kernel_rfl
theorem fn13 : toFn Tryd.prog p13 Tryd.f13 = some c13 := by kernel_rfl
theorem fn14 : toFn Tryd.prog p14 Tryd.f14 = some c14 := by kernel_rfl
theorem fn15 : toFn Tryd.prog p15 Tryd.f15 = some c15 := by kernel_rfl
theorem fn16 : toFn Tryd.prog p16 Tryd.f16 = some c16 := by kernel_rfl
theorem fn17 : toFn Tryd.prog p17 Tryd.f17 = some c17 := by kernel_rfl
theorem fn18 : toFn Tryd.prog p18 Tryd.f18 = some c18 := by kernel_rfl
theorem fn19 : toFn Tryd.prog p19 Tryd.f19 = some c19 := by kernel_rfl
theorem fn20 : toFn Tryd.prog p20 Tryd.f20 = some c20 := by kernel_rfl
theorem fn21 : toFn Tryd.prog p21 Tryd.f21 = some c21 := by kernel_rfl
theorem fn22 : toFn Tryd.prog p22 Tryd.f22 = some c22 := by kernel_rfl
theorem fn23 : toFn Tryd.prog p23 Tryd.f23 = some c23 := by kernel_rfl
theorem fn24 : toFn Tryd.prog p24 Tryd.f24 = some c24 := by kernel_rfl
theorem fn25 : toFn Tryd.prog p25 Tryd.f25 = some c25 := by kernel_rfl
theorem fn26 : toFn Tryd.prog p26 Tryd.f26 = some c26 := by kernel_rfl
theorem fn27 : toFn Tryd.prog p27 Tryd.f27 = some c27 := by kernel_rfl
theorem fn28 : toFn Tryd.prog p28 Tryd.f28 = some c28 := by kernel_rfl
theorem fn30 : toFn Tryd.prog p30 Tryd.f30 = some c30 := by kernel_rfl
theorem fn31 : toFn Tryd.prog p31 Tryd.f31 = some c31 := by kernel_rfl
theorem fn32 : toFn Tryd.prog p32 Tryd.f32 = some c32 := by kernel_rfl
theorem fn33 : toFn Tryd.prog p33 Tryd.f33 = some c33 := by kernel_rfl
theorem fn34 : toFn Tryd.prog p34 Tryd.f34 = some c34 := by kernel_rfl
theorem fn35 : toFn Tryd.prog p35 Tryd.f35 = some c35 := by kernel_rfl
theorem fn36 : toFn Tryd.prog p36 Tryd.f36 = some c36 := by kernel_rfl
theorem fn37 : toFn Tryd.prog p37 Tryd.f37 = some c37 := by kernel_rfl
theorem fn38 : toFn Tryd.prog p38 Tryd.f38 = some c38 := by kernel_rfl
theorem fn39 : toFn Tryd.prog p39 Tryd.f39 = some c39 := by kernel_rfl
theorem fn40 : toFn Tryd.prog p40 Tryd.f40 = some c40 := by kernel_rfl
end Go.Proofs.YtcmanhhpfbinoaaDoor.Can
