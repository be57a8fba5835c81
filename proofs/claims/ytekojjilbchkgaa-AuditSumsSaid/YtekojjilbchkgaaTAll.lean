/- The canonical program is the program's own. No condition. -/
import Derived.Test.YtekojjilbchkgaaArg
import Derived.Test.YtekojjilbchkgaaKAll
namespace Go.Proofs.Ytekojjilbchkgaa.Can
open Go
theorem progs : Progs Try.prog cp := by
  intro f fn h
  unfold cp at h
  split at h
  · obtain rfl := Option.some.inj h; exact ⟨p3, Try.f3, Try.func3, fn3⟩
  · obtain rfl := Option.some.inj h; exact ⟨p4, Try.f4, Try.func4, fn4⟩
  · obtain rfl := Option.some.inj h; exact ⟨p5, Try.f5, Try.func5, fn5⟩
  · obtain rfl := Option.some.inj h; exact ⟨p6, Try.f6, Try.func6, fn6⟩
  · obtain rfl := Option.some.inj h; exact ⟨p7, Try.f7, Try.func7, fn7⟩
  · obtain rfl := Option.some.inj h; exact ⟨p8, Try.f8, Try.func8, fn8⟩
  · obtain rfl := Option.some.inj h; exact ⟨p9, Try.f9, Try.func9, fn9⟩
  · obtain rfl := Option.some.inj h; exact ⟨p10, Try.f10, Try.func10, fn10⟩
  · obtain rfl := Option.some.inj h; exact ⟨p11, Try.f11, Try.func11, fn11⟩
  · obtain rfl := Option.some.inj h; exact ⟨p12, Try.f12, Try.func12, fn12⟩
  · obtain rfl := Option.some.inj h; exact ⟨p13, Try.f13, Try.func13, fn13⟩
  · obtain rfl := Option.some.inj h; exact ⟨p14, Try.f14, Try.func14, fn14⟩
  · obtain rfl := Option.some.inj h; exact ⟨p15, Try.f15, Try.func15, fn15⟩
  · obtain rfl := Option.some.inj h; exact ⟨p16, Try.f16, Try.func16, fn16⟩
  · obtain rfl := Option.some.inj h; exact ⟨p17, Try.f17, Try.func17, fn17⟩
  · obtain rfl := Option.some.inj h; exact ⟨p18, Try.f18, Try.func18, fn18⟩
  · obtain rfl := Option.some.inj h; exact ⟨p19, Try.f19, Try.func19, fn19⟩
  · obtain rfl := Option.some.inj h; exact ⟨p20, Try.f20, Try.func20, fn20⟩
  · obtain rfl := Option.some.inj h; exact ⟨p21, Try.f21, Try.func21, fn21⟩
  · obtain rfl := Option.some.inj h; exact ⟨p22, Try.f22, Try.func22, fn22⟩
  · obtain rfl := Option.some.inj h; exact ⟨p23, Try.f23, Try.func23, fn23⟩
  · obtain rfl := Option.some.inj h; exact ⟨p24, Try.f24, Try.func24, fn24⟩
  · obtain rfl := Option.some.inj h; exact ⟨p25, Try.f25, Try.func25, fn25⟩
  · obtain rfl := Option.some.inj h; exact ⟨p26, Try.f26, Try.func26, fn26⟩
  · obtain rfl := Option.some.inj h; exact ⟨p27, Try.f27, Try.func27, fn27⟩
  · obtain rfl := Option.some.inj h; exact ⟨p28, Try.f28, Try.func28, fn28⟩
  · obtain rfl := Option.some.inj h; exact ⟨p29, Try.f29, Try.func29, fn29⟩
  · obtain rfl := Option.some.inj h; exact ⟨p30, Try.f30, Try.func30, fn30⟩
  · obtain rfl := Option.some.inj h; exact ⟨p31, Try.f31, Try.func31, fn31⟩
  · obtain rfl := Option.some.inj h; exact ⟨p32, Try.f32, Try.func32, fn32⟩
  · obtain rfl := Option.some.inj h; exact ⟨p33, Try.f33, Try.func33, fn33⟩
  · obtain rfl := Option.some.inj h; exact ⟨p34, Try.f34, Try.func34, fn34⟩
  · obtain rfl := Option.some.inj h; exact ⟨p35, Try.f35, Try.func35, fn35⟩
  · obtain rfl := Option.some.inj h; exact ⟨p36, Try.f36, Try.func36, fn36⟩
  · simp at h
end Go.Proofs.Ytekojjilbchkgaa.Can
