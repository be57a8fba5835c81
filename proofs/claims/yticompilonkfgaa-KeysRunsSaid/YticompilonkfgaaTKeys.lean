/- The canonical program is the program's own. No condition. -/
import Derived.Test.YticompilonkfgaaArg
import Derived.Test.YticompilonkfgaaKKeys
namespace Go.Proofs.Yticompilonkfgaa.Can
open Go
theorem progs : Progs Try.prog cp := by
  intro f fn h
  unfold cp at h
  split at h
  · obtain rfl := Option.some.inj h; exact ⟨p3, Try.f3, Try.func3, fn3⟩
  · obtain rfl := Option.some.inj h; exact ⟨p4, Try.f4, Try.func4, fn4⟩
  · obtain rfl := Option.some.inj h; exact ⟨p5, Try.f5, Try.func5, fn5⟩
  · obtain rfl := Option.some.inj h; exact ⟨p6, Try.f6, Try.func6, fn6⟩
  · obtain rfl := Option.some.inj h; exact ⟨p7, Try.f7, Try.func7, fn7⟩
  · obtain rfl := Option.some.inj h; exact ⟨p8, Try.f8, Try.func8, fn8⟩
  · obtain rfl := Option.some.inj h; exact ⟨p9, Try.f9, Try.func9, fn9⟩
  · obtain rfl := Option.some.inj h; exact ⟨p10, Try.f10, Try.func10, fn10⟩
  · obtain rfl := Option.some.inj h; exact ⟨p11, Try.f11, Try.func11, fn11⟩
  · obtain rfl := Option.some.inj h; exact ⟨p12, Try.f12, Try.func12, fn12⟩
  · obtain rfl := Option.some.inj h; exact ⟨p13, Try.f13, Try.func13, fn13⟩
  · obtain rfl := Option.some.inj h; exact ⟨p14, Try.f14, Try.func14, fn14⟩
  · obtain rfl := Option.some.inj h; exact ⟨p15, Try.f15, Try.func15, fn15⟩
  · obtain rfl := Option.some.inj h; exact ⟨p16, Try.f16, Try.func16, fn16⟩
  · simp at h
end Go.Proofs.Yticompilonkfgaa.Can
