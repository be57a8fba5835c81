/- A law's road from the canonical machine to the program. No condition. -/
import Derived.Test.YticompilonkfgaaCanSound
import Derived.Test.YticompilonkfgaaKKeys
import Derived.Below
namespace Go.Proofs.Yticompilonkfgaa.Can
open Go Go.RowKit
theorem progs : Progs Try.prog cp := by
  intro f fn h
  unfold cp at h
  split at h
  · obtain rfl := Option.some.inj h; exact ⟨p3, Try.f3, Try.func3, fn3⟩
  · obtain rfl := Option.some.inj h; exact ⟨p4, Try.f4, Try.func4, fn4⟩
  · obtain rfl := Option.some.inj h; exact ⟨p5, Try.f5, Try.func5, fn5⟩
  · obtain rfl := Option.some.inj h; exact ⟨p6, Try.f6, Try.func6, fn6⟩
  · obtain rfl := Option.some.inj h; exact ⟨p7, Try.f7, Try.func7, fn7⟩
  · obtain rfl := Option.some.inj h; exact ⟨p8, Try.f8, Try.func8, fn8⟩
  · obtain rfl := Option.some.inj h; exact ⟨p9, Try.f9, Try.func9, fn9⟩
  · obtain rfl := Option.some.inj h; exact ⟨p10, Try.f10, Try.func10, fn10⟩
  · obtain rfl := Option.some.inj h; exact ⟨p11, Try.f11, Try.func11, fn11⟩
  · obtain rfl := Option.some.inj h; exact ⟨p12, Try.f12, Try.func12, fn12⟩
  · obtain rfl := Option.some.inj h; exact ⟨p13, Try.f13, Try.func13, fn13⟩
  · obtain rfl := Option.some.inj h; exact ⟨p14, Try.f14, Try.func14, fn14⟩
  · obtain rfl := Option.some.inj h; exact ⟨p15, Try.f15, Try.func15, fn15⟩
  · obtain rfl := Option.some.inj h; exact ⟨p16, Try.f16, Try.func16, fn16⟩
  · simp at h

/-- Blocks that were there are kept. -/
def Kp (W : World) : Stay := ⟨fun k => k < W.heap.size, fun _ => False⟩
theorem Emb.none (P : Program) (W : World) : Emb P (Kp W) (fun _ => Option.none) ⟨fun _ => .gone, 0⟩ W :=
  ⟨fun b L h => by simp at h, fun b c L K h => by simp at h, fun b L h => by simp at h, fun b L h => by simp at h, fun b L h => by simp at h, fun k h => h.elim id False.elim, fun _ _ => rfl⟩
theorem law_sound {f : FuncId} {args : List Value} {h : Heap} (hc : CALL cp f args h fun v _ => v = .bool true) {m : Map} {W : World} {args' : Array Value} (ha : VL m args args'.toList) (hE : Emb Try.prog (Kp W) m h W) (hf : ∀ b, h.next ≤ b → m b = Option.none) :
    Calls Try.prog f args' W fun e W' => e = .returned (.bool true) ∧ Below W.heap.size W W' := by
  refine (call_sound progs hc ha hE hf).mono fun e W' hp => ?_
  obtain ⟨v, v', h1, m1, rfl, rfl, hv, ho⟩ := hp
  refine ⟨by rw [hv.bool_inv], ho.wd.os, ho.wd.tape, ho.wd.output, ho.wd.size, fun k hk => ho.wd.block k (.inl hk)⟩
end Go.Proofs.Yticompilonkfgaa.Can
