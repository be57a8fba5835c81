/- The canonical program is the program's own. No condition. -/
import Derived.Test.YtcmanhhpfbinoaaDoorArg
import Derived.Test.YtcmanhhpfbinoaaDoorKAll
namespace Go.Proofs.YtcmanhhpfbinoaaDoor.Can
open Go
theorem progs : Progs Tryd.prog cp := by
  intro f fn h
  unfold cp at h
  split at h
  · obtain rfl := Option.some.inj h; exact ⟨p3, Tryd.f3, Tryd.func3, fn3⟩
  · obtain rfl := Option.some.inj h; exact ⟨p4, Tryd.f4, Tryd.func4, fn4⟩
  · obtain rfl := Option.some.inj h; exact ⟨p5, Tryd.f5, Tryd.func5, fn5⟩
  · obtain rfl := Option.some.inj h; exact ⟨p6, Tryd.f6, Tryd.func6, fn6⟩
  · obtain rfl := Option.some.inj h; exact ⟨p7, Tryd.f7, Tryd.func7, fn7⟩
  · obtain rfl := Option.some.inj h; exact ⟨p8, Tryd.f8, Tryd.func8, fn8⟩
  · obtain rfl := Option.some.inj h; exact ⟨p9, Tryd.f9, Tryd.func9, fn9⟩
  · obtain rfl := Option.some.inj h; exact ⟨p10, Tryd.f10, Tryd.func10, fn10⟩
  · obtain rfl := Option.some.inj h; exact ⟨p11, Tryd.f11, Tryd.func11, fn11⟩
  · obtain rfl := Option.some.inj h; exact ⟨p12, Tryd.f12, Tryd.func12, fn12⟩
  · obtain rfl := Option.some.inj h; exact ⟨p13, Tryd.f13, Tryd.func13, fn13⟩
  · obtain rfl := Option.some.inj h; exact ⟨p14, Tryd.f14, Tryd.func14, fn14⟩
  · obtain rfl := Option.some.inj h; exact ⟨p15, Tryd.f15, Tryd.func15, fn15⟩
  · obtain rfl := Option.some.inj h; exact ⟨p16, Tryd.f16, Tryd.func16, fn16⟩
  · obtain rfl := Option.some.inj h; exact ⟨p17, Tryd.f17, Tryd.func17, fn17⟩
  · obtain rfl := Option.some.inj h; exact ⟨p18, Tryd.f18, Tryd.func18, fn18⟩
  · obtain rfl := Option.some.inj h; exact ⟨p19, Tryd.f19, Tryd.func19, fn19⟩
  · obtain rfl := Option.some.inj h; exact ⟨p20, Tryd.f20, Tryd.func20, fn20⟩
  · obtain rfl := Option.some.inj h; exact ⟨p21, Tryd.f21, Tryd.func21, fn21⟩
  · obtain rfl := Option.some.inj h; exact ⟨p22, Tryd.f22, Tryd.func22, fn22⟩
  · obtain rfl := Option.some.inj h; exact ⟨p23, Tryd.f23, Tryd.func23, fn23⟩
  · obtain rfl := Option.some.inj h; exact ⟨p24, Tryd.f24, Tryd.func24, fn24⟩
  · obtain rfl := Option.some.inj h; exact ⟨p25, Tryd.f25, Tryd.func25, fn25⟩
  · obtain rfl := Option.some.inj h; exact ⟨p26, Tryd.f26, Tryd.func26, fn26⟩
  · obtain rfl := Option.some.inj h; exact ⟨p27, Tryd.f27, Tryd.func27, fn27⟩
  · obtain rfl := Option.some.inj h; exact ⟨p28, Tryd.f28, Tryd.func28, fn28⟩
  · obtain rfl := Option.some.inj h; exact ⟨p30, Tryd.f30, Tryd.func30, fn30⟩
  · obtain rfl := Option.some.inj h; exact ⟨p31, Tryd.f31, Tryd.func31, fn31⟩
  · obtain rfl := Option.some.inj h; exact ⟨p32, Tryd.f32, Tryd.func32, fn32⟩
  · obtain rfl := Option.some.inj h; exact ⟨p33, Tryd.f33, Tryd.func33, fn33⟩
  · obtain rfl := Option.some.inj h; exact ⟨p34, Tryd.f34, Tryd.func34, fn34⟩
  · obtain rfl := Option.some.inj h; exact ⟨p35, Tryd.f35, Tryd.func35, fn35⟩
  · obtain rfl := Option.some.inj h; exact ⟨p36, Tryd.f36, Tryd.func36, fn36⟩
  · obtain rfl := Option.some.inj h; exact ⟨p37, Tryd.f37, Tryd.func37, fn37⟩
  · obtain rfl := Option.some.inj h; exact ⟨p38, Tryd.f38, Tryd.func38, fn38⟩
  · obtain rfl := Option.some.inj h; exact ⟨p39, Tryd.f39, Tryd.func39, fn39⟩
  · obtain rfl := Option.some.inj h; exact ⟨p40, Tryd.f40, Tryd.func40, fn40⟩
  · simp at h
end Go.Proofs.YtcmanhhpfbinoaaDoor.Can
