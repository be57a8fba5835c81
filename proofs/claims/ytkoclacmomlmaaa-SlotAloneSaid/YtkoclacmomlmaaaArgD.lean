/- From a law's answer in the canonical machine to the program's, where it goes through maps. No condition. -/
import Derived.Test.YtkoclacmomlmaaaArg
import Derived.Test.YtkoclacmomlmaaaCanNext
namespace Go.Proofs.Ytkoclacmomlmaaa.Can
open Go Go.ChangeShapes Go.WideShapes Go.Deep Go.RowKit
theorem law_soundD {P : Program} {CP : CProg} (hP : Progs P CP) {f : FuncId} {F : Func} (hF : P.funcs[f]? = some F) {p : Pers} {fn : DFn} (hfn : toFnD P p F = some fn) {args : List Value} {h : Heap} (hc : CALLD CP fn args h fun v _ => v = .bool true) {m : Map} {W : World} {args' : Array Value} (ha : VL m args args'.toList) (hE : Emb P ⟨fun k => k < W.heap.size, fun _ => False⟩ m h W) (hf : ∀ b, h.next ≤ b → m b = Option.none) :
    Calls P f args' W fun e W' => e = .returned (.bool true) ∧ Below W.heap.size W W' := by
  refine (callD_sound hP hF hfn hc ha hE hf).mono fun e W' hp => ?_
  obtain ⟨v, v', h1, m1, rfl, rfl, hv, ho⟩ := hp
  refine ⟨by rw [hv.bool_inv], ho.wd.os, ho.wd.tape, ho.wd.output, ho.wd.size, fun k hk => ho.wd.block k (.inl hk)⟩
end Go.Proofs.Ytkoclacmomlmaaa.Can
