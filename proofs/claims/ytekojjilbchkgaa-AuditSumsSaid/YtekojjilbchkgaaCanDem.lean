/- A function that goes through a map, or calls one that does, or one that is known by what it ends in alone: in the canonical machine, whatever the order. No condition. -/
import Derived.Test.YtekojjilbchkgaaCanSound
import Derived.Maps.RangeRun
namespace Go.Proofs.Ytekojjilbchkgaa.Can
open Go
set_option linter.unusedSimpArgs false
set_option linter.unusedVariables false

/-- A statement with calls that may end in more than one way. -/
inductive RD where
  | op (c : COp) (k : Value → RD)
  | dcall (f : FuncId) (args : List Value) (k : Value → RD)
  | done (e : Env)
/-- What calls may end in. -/
abbrev DSem := FuncId → List Value → Heap → (Value → Heap → Prop) → Prop
def runRD (CP : CProg) (DS : DSem) : RD → Heap → Post → Prop
  | .op c k, h, Q => ∃ n v h1, evOp (evF CP n) c h = some (v, h1) ∧ runRD CP DS (k v) h1 Q
  | .dcall f args k, h, Q => DS f args h fun v h1 => runRD CP DS (k v) h1 Q
  | .done e, h, Q => Q .normal e h
/-- Code in which maps are gone through. -/
inductive CD where
  | lift (c : CC)
  | seq (a b : CD)
  | cond (c : Env → Value) (t e : CD)
  | block (id : Nat) (b : CD)
  | loop (b : CD)
  | draw (x : Env → Value) (k : Env → Value → Reg)
  | ent (x : Env → Value) (k : Env → Value → Reg)
  | rd (r : Env → RD)
structure DFn where
  body : CD
  results : List RV

/-- What is left of a map that is gone through. -/
def leftE (es : List MapEntry) (seen : List Nat) : List MapEntry := es.filter fun e => !seen.contains e.born
/-- What a step through a map may come to. -/
def nextOpts (x : Value) (h : Heap) : Option (List (Value × Heap)) :=
  match x with
  | .pointer (some ⟨r, 0, _⟩) => match h.obj r with
    | .miter none _ _ _ => some [(.tuple #[.bool false], h)]
    | .miter (some m) since seen last => match h.obj m with
      | .map es clock =>
        if (es.all fun e => decide (e.born < since)) = true ∧ since ≤ last then
          if (leftE es seen).isEmpty then some [(.tuple #[.bool false], h)]
          else some ((leftE es seen).map fun e => (.tuple #[.bool true, e.key, e.val], h.upd r (.miter (some m) since (seen ++ [e.born]) clock)))
        else none
      | _ => none
    | _ => none
  | _ => none
/-- The entry that the last step came to. -/
def entV (x : Value) (h : Heap) : Option Value :=
  match x with
  | .pointer (some ⟨r, 0, _⟩) => match h.obj r with
    | .miter (some m) _ seen stepped => match h.obj m with
      | .map es clock => if clock = stepped then match seen.getLast? with
        | some b => (es.find? fun e => e.born == b).map fun e => .tuple #[e.key, e.val]
        | none => none
        else none
      | _ => none
    | _ => none
  | _ => none

def evD (CP : CProg) (DS : DSem) : CD → Env → Heap → Post → Prop
  | .lift c, e, h, Q => RunC CP c e h Q
  | .seq a b, e, h, Q => evD CP DS a e h fun x e1 h1 => match x with
    | .normal => evD CP DS b e1 h1 Q
    | x => Q x e1 h1
  | .cond c t f, e, h, Q => match c e with
    | .bool true => evD CP DS t e h Q
    | .bool false => evD CP DS f e h Q
    | _ => False
  | .block id b, e, h, Q => evD CP DS b e h (blockQ id Q)
  | .loop b, e, h, Q => ∃ (I : Nat → Env → Heap → Prop) (d : Nat), I d e h ∧ ∀ d e h, I d e h → evD CP DS b e h (loopQ (fun e h => ∃ d', d' < d ∧ I d' e h) Q)
  | .draw x k, e, h, Q => ∃ l, nextOpts (x e) h = some l ∧ ∀ r ∈ l, RunR CP (k e r.1) r.2 Q
  | .ent x k, e, h, Q => ∃ v, entV (x e) h = some v ∧ RunR CP (k e v) h Q
  | .rd r, e, h, Q => runRD CP DS (r e) h Q

section
variable {P : Program} {S : Stay} {m : Map} {h : Heap} {w : World}
theorem Emb.drew (e : Emb P S m h w) : Emb P S m h w.drew := ⟨e.lt, e.inj, fun b L hb => by
  have := e.obj b L hb
  revert this
  cases h.obj b with
  | gone => exact id
  | cells c t g => exact id
  | map es c => exact id
  | siter s p => exact id
  | miter m s se st => cases m <;> exact id, e.prot, e.far, e.sLt, e.wf⟩
theorem Out.ofDrew {m1 : Map} {h1 : Heap} {w1 : World} (o : Out P S m h w.drew m1 h1 w1) : Out P S m h w m1 h1 w1 :=
  ⟨o.emb, o.ext, o.dom, o.next, ⟨o.wd.os, o.wd.tape, o.wd.output, o.wd.size, o.wd.block⟩, o.same⟩
theorem EntL.left {a b : List MapEntry} (e : EntL m a b) {y : MapEntry} (hy : y ∈ b) : ∃ x, x ∈ a ∧ EntR m x y := by
  obtain ⟨i, hi⟩ := List.getElem?_of_mem hy
  have hl := (List.getElem?_eq_some_iff.1 hi).1
  have hl2 : i < a.length := by rw [e.1]; exact hl
  have ha : a[i]? = some a[i] := List.getElem?_eq_getElem hl2
  exact ⟨_, List.mem_of_getElem? ha, e.2 i _ _ ha hi⟩
theorem EntL.right {a b : List MapEntry} (e : EntL m a b) {x : MapEntry} (hx : x ∈ a) : ∃ y, y ∈ b ∧ EntR m x y := by
  obtain ⟨i, hi⟩ := List.getElem?_of_mem hx
  have hl := (List.getElem?_eq_some_iff.1 hi).1
  have hl2 : i < b.length := by rw [← e.1]; exact hl
  have hb : b[i]? = some b[i] := List.getElem?_eq_getElem hl2
  exact ⟨_, List.mem_of_getElem? hb, e.2 i _ _ hi hb⟩
theorem EntL.find {q : Nat → Bool} : ∀ {a b : List MapEntry}, EntL m a b → ∀ {x : MapEntry}, a.find? (fun e => q e.born) = some x → ∃ y, b.find? (fun e => q e.born) = some y ∧ EntR m x y
  | [], b, e, x, h => by simp at h
  | u :: a, [], e, x, h => by have := e.1; simp at this
  | u :: a, v :: b, e, x, h => by
    have h0 : EntR m u v := e.2 0 u v rfl rfl
    have hr : EntL m a b := ⟨by have := e.1; simpa using this, fun i x y hx hy => e.2 (i + 1) x y (by simpa using hx) (by simpa using hy)⟩
    by_cases c : q u.born = true
    · rw [List.find?_cons_of_pos (p := fun e : MapEntry => q e.born) c] at h
      obtain rfl := Option.some.inj h
      exact ⟨v, List.find?_cons_of_pos (p := fun e : MapEntry => q e.born) (by rw [← h0.1]; exact c), h0⟩
    · rw [List.find?_cons_of_neg (p := fun e : MapEntry => q e.born) c] at h
      obtain ⟨y, h1, h2⟩ := EntL.find hr h
      exact ⟨y, by rw [List.find?_cons_of_neg (p := fun e : MapEntry => q e.born) (by rw [← h0.1]; exact c)]; exact h1, h2⟩
/-- A step through a map comes to one of these. -/
theorem next_sim (e : Emb P S m h w) (ty : TypeId) {x x' : Value} (hx : VR m x x') {l : List (Value × Heap)} (hl : nextOpts x h = some l) :
    ∃ r v' w1, r ∈ l ∧ (Instr.next x' false ty).run P w = .ok v' w1 ∧ VR m r.1 v' ∧ Out P S m h w m r.2 w1 := by
  unfold nextOpts at hl
  split at hl
  case h_2 => simp at hl
  rename_i r sp
  obtain ⟨b, o, L, heq, hb, rfl⟩ := hx.ptr_inv
  obtain ⟨rfl, rfl, rfl⟩ := Addr.mk.inj heq
  split at hl
  case h_3 => simp at hl
  case h_1 =>
    rename_i s1 s2 s3 ho
    have hob := e.obj _ L hb
    rw [ho] at hob
    obtain ⟨hblk, hsh⟩ := hob
    obtain rfl := Option.some.inj hl
    have hgo := run_getObj' (P := P) hblk (by simp)
    have hz : L.sh + 0 = 0 := by rw [hsh]
    refine ⟨_, .tuple #[.bool false], w, List.mem_singleton_self _, ?_, VR.tuple_of (VL.cons (.bool _) (VL.nil m)), Out.refl e⟩
    rw [hz]
    simp only [Instr.next, Sem.run_bind, hgo, Result.andThen_ok, Sem.run_pure]
  case h_2 =>
    rename_i mm since seen last ho
    have hob := e.obj _ L hb
    rw [ho] at hob
    obtain ⟨K, hK, hblk, hsh⟩ := hob
    have hz : L.sh + 0 = 0 := by rw [hsh]
    rw [hz]
    split at hl
    case h_2 => simp at hl
    rename_i es clock hom
    obtain ⟨es', hmb, hE⟩ := obj_map e hK hom
    split at hl
    case isFalse => simp at hl
    rename_i hc
    have hold : ∀ y ∈ es'.toList, y.born < since := fun y hy => by
      obtain ⟨z, hz, hr⟩ := hE.left hy
      have := List.all_eq_true.1 hc.1 z hz
      rw [← hr.1]
      exact of_decide_eq_true this
    have mem : ∀ y ∈ (leftOf es' seen.toArray).toList, ∃ z, z ∈ leftE es seen ∧ EntR m z y := fun y hy => by
      unfold leftOf at hy
      rw [Array.toList_filter, List.mem_filter] at hy
      obtain ⟨z, hz, hr⟩ := hE.left hy.1
      refine ⟨z, List.mem_filter.2 ⟨hz, ?_⟩, hr⟩
      rw [hr.1]
      simpa using hy.2
    have mem2 : ∀ z ∈ leftE es seen, ∃ y, y ∈ (leftOf es' seen.toArray).toList := fun z hz => by
      unfold leftE at hz
      rw [List.mem_filter] at hz
      obtain ⟨y, hy, hr⟩ := hE.right hz.1
      refine ⟨y, ?_⟩
      unfold leftOf
      rw [Array.toList_filter, List.mem_filter]
      refine ⟨hy, ?_⟩
      rw [← hr.1]
      simpa using hz.2
    rcases run_next_at (P := P) w ty L.blk K.blk since last seen.toArray es' clock hblk hmb hold hc.2 with ⟨h0, hrun⟩ | ⟨y, hy, w1, hw1, hrun⟩
    · have he : leftE es seen = [] := by
        cases hq : leftE es seen with
        | nil => rfl
        | cons z t =>
          obtain ⟨y, hy⟩ := mem2 z (by rw [hq]; exact List.mem_cons_self)
          have : (leftOf es' seen.toArray).toList.length = 0 := by simpa using h0
          rw [List.length_eq_zero_iff.1 this] at hy
          simp at hy
      rw [he] at hl
      obtain rfl := Option.some.inj hl
      exact ⟨_, _, w, List.mem_singleton_self _, hrun, VR.tuple_of (VL.cons (.bool _) (VL.nil m)), Out.refl e⟩
    · obtain ⟨z, hz, hr⟩ := mem y hy
      have hne : (leftE es seen).isEmpty = false := by
        cases hq : leftE es seen with
        | nil => rw [hq] at hz; simp at hz
        | cons a t => rfl
      rw [hne] at hl
      obtain rfl := Option.some.inj hl
      refine ⟨_, _, _, List.mem_map.2 ⟨z, hz, rfl⟩, hrun, VR.tuple_of (VL.cons (.bool _) (VL.cons hr.2.1 (VL.cons hr.2.2 (VL.nil m)))), ?_⟩
      have ob : ∀ w1 : World, w1.heap[L.blk]? = some (.mapIter (some K.blk) since (seen.toArray.push y.born) clock) → ObjR P m L w1 (.miter (some mm) since (seen ++ [z.born]) clock) := fun w1 h1 => ⟨K, hK, by rw [h1, hr.1]; simp, hsh⟩
      have wr : (h.obj r).wr = true := by rw [ho]; rfl
      rcases hw1 with rfl | rfl
      · exact upd_obj e hb wr ob
      · exact Out.ofDrew (upd_obj e.drew hb wr ob)
theorem entry_sim (e : Emb P S m h w) {x x' v : Value} (hx : VR m x x') (hv : entV x h = some v) : ∃ v', (Instr.entry x').run P w = .ok v' w ∧ VR m v v' := by
  unfold entV at hv
  split at hv
  case h_2 => simp at hv
  rename_i r sp
  obtain ⟨b, o, L, heq, hb, rfl⟩ := hx.ptr_inv
  obtain ⟨rfl, rfl, rfl⟩ := Addr.mk.inj heq
  split at hv
  case h_2 => simp at hv
  rename_i mm since seen stepped ho
  have hob := e.obj _ L hb
  rw [ho] at hob
  obtain ⟨K, hK, hblk, hsh⟩ := hob
  have hz : L.sh + 0 = 0 := by rw [hsh]
  rw [hz]
  split at hv
  case h_2 => simp at hv
  rename_i es clock hom
  obtain ⟨es', hmb, hE⟩ := obj_map e hK hom
  split at hv
  case isFalse => simp at hv
  rename_i hc
  subst hc
  split at hv
  case h_2 => simp at hv
  rename_i bb hlast
  rw [Option.map_eq_some_iff] at hv
  obtain ⟨z, hz2, rfl⟩ := hv
  obtain ⟨y, hy, hr⟩ := EntL.find (q := fun n => n == bb) hE hz2
  refine ⟨.tuple #[y.key, y.val], ?_, VR.tuple_of (VL.cons hr.2.1 (VL.cons hr.2.2 (VL.nil m)))⟩
  have hgo := run_getObj' (P := P) hblk (by simp)
  have hgm := run_getObj' (P := P) hmb (by simp)
  have hbk : seen.toArray.back? = some bb := by rw [List.back?_toArray]; exact hlast
  have hf : es'.find? (fun e => e.born == bb) = some y := by rw [← Array.find?_toList]; exact hy
  simp only [Instr.entry, Sem.run_bind, hgo, Result.andThen_ok, hbk, hgm, bne_self_eq_false, Bool.false_eq_true, if_false, hf, Sem.run_pure]
end
/-! ### what the program's own code comes to -/
def dcalled (P : Program) (D : FuncId → Bool) (o : Oper) : Option (FuncId × Array Operand) :=
  match o.op, o.guard with
  | .call ⟨.value (.func f), args, _⟩, none => if D f && !noEsc P f then some (f, args) else none
  | _, _ => none
def toRD (P : Program) (D : FuncId → Bool) (p : Pers) : List Oper → Env → Env → RD
  | [], e, _ => .done e
  | o :: rest, e, l =>
    if dstOk p o.dst && o.guard.isNone then
      match dcalled P D o with
      | some (f, args) => .dcall f (args.toList.map (lookE p e l)) fun v => toRD P D p rest (putE p e l o.dst v).1 (putE p e l o.dst v).2
      | none => .op (resOp P o (lookE p e l)) fun v => toRD P D p rest (putE p e l o.dst v).1 (putE p e l o.dst v).2
    else .op .bad fun _ => .done e
def toCD (P : Program) (D : FuncId → Bool) (p : Pers) : Code → CD
  | .region id ops d =>
    if !d && ops.toList.any (fun o => (dcalled P D o).isSome) then .rd fun e => toRD P D p ops.toList e (fun _ => unk) else
    match ops.toList, d with
    | o :: rest, false =>
      match o.op, o.guard, dstOk p o.dst with
      | .next x false, none, true => .draw (fun e => lookE p e (fun _ => unk) x) fun e v => toReg P p ops rest (putE p e (fun _ => unk) o.dst v).1 (putE p e (fun _ => unk) o.dst v).2
      | .entry x, none, true => .ent (fun e => lookE p e (fun _ => unk) x) fun e v => toReg P p ops rest (putE p e (fun _ => unk) o.dst v).1 (putE p e (fun _ => unk) o.dst v).2
      | _, _, _ => .lift (toCC P p (.region id ops d))
    | _, _ => .lift (toCC P p (.region id ops d))
  | .seq a b => .seq (toCD P D p a) (toCD P D p b)
  | .cond c a b => .cond (fun e => lookE p e (fun _ => unk) c) (toCD P D p a) (toCD P D p b)
  | .block id b => .block id (toCD P D p b)
  | .loop b => .loop (toCD P D p b)
  | c => .lift (toCC P p c)
def toFnD (P : Program) (D : FuncId → Bool) (p : Pers) (f : Func) : Option DFn :=
  match f.body, f.results.toList.mapM (resT P) with
  | some c, some rs => if Nat.ble p.size f.ntmps && (rs.all fun r => p.has r.slot) && Nat.ble rs.length 3 && !(f.name == "runtime.NumGoroutine") then some ⟨toCD P D p c, rs⟩ else none
  | _, _ => none
section
variable {P : Program}
theorem Out.free {S : Stay} {m m1 : Map} {h h1 : Heap} {w w1 : World} (o : Out P S m h w m1 h1 w1) (hf : ∀ b, h.next ≤ b → m b = none) : ∀ b, h1.next ≤ b → m1 b = none := fun b hb => by
  cases hm : m1 b with
  | none => rfl
  | some L =>
    rcases o.dom b (by rw [hm]; simp) with h2 | ⟨h2, h3⟩
    · exact absurd (hf b (Nat.le_trans o.next hb)) h2
    · omega
/-- Whatever a call ends in, the program's ends in that. -/
def DSOK (P : Program) (DS : DSem) : Prop := ∀ f args h R, DS f args h R → (∃ F, P.funcs[f]? = some F ∧ (F.name == "runtime.NumGoroutine") = false ∧ F.body.isNone = false) ∧
  ∀ (S : Stay) (m : Map) (w : World) (args' : Array Value), VL m args args'.toList → Emb P S m h w → (∀ b, h.next ≤ b → m b = none) → GlobOK m →
    Calls P f args' w fun e w1 => ∃ v v' h1 m1, e = .returned v' ∧ R v h1 ∧ VR m1 v v' ∧ Out P S m h w m1 h1 w1
theorem freeOf {m : Map} {h : Heap} (hf : ∀ b, h.next ≤ b → m b = none) (n : Nat) : Free m h.next n := fun b hb _ => hf b hb
theorem dcalled_some {D : FuncId → Bool} {o : Oper} {f : FuncId} {args : Array Operand} (h : dcalled P D o = some (f, args)) : ∃ ts, o.op = .call ⟨.value (.func f), args, ts⟩ ∧ o.guard = none := by
  unfold dcalled at h
  split at h
  · rename_i f' args' ts hop hg
    split at h
    · simp only [Option.some.injEq, Prod.mk.injEq] at h
      obtain ⟨rfl, rfl⟩ := h
      exact ⟨ts, hop, hg⟩
    · simp at h
  · simp at h
theorem rd_sim {S : Stay} {CP : CProg} {DS : DSem} (hP : Progs P CP) (hDS : DSOK P DS) {D : FuncId → Bool} (p : Pers) (all : Array Oper) {Q : Exit → Act → World → Prop} {QD : Post} : ∀ (ops : List Oper) (m : Map) (e l : Env) (h : Heap) (a : Act) (w : World),
    runRD CP DS (toRD P D p ops e l) h QD → Slots p m e l a → Emb P S m h w → (∀ b, h.next ≤ b → m b = none) →
    (∀ e1 h1 a1 w1 m1 l1, QD .normal e1 h1 → Slots p m1 e1 l1 a1 → Out P S m h w m1 h1 w1 → Q .normal a1 w1) → wpList P all Q ops a w
  | [], m, e, l, h, a, w, hr, hs, hE, hf, hQ => by
    unfold wpList
    exact hQ e h a w m l hr hs (Out.refl hE)
  | o :: rest, m, e, l, h, a, w, hr, hs, hE, hf, hQ => by
    simp only [toRD] at hr
    split at hr
    case isFalse =>
      obtain ⟨n, v, h1, hc, _⟩ := hr
      simp [evOp, cop] at hc
    rename_i hok
    simp only [Bool.and_eq_true, Option.isNone_iff_eq_none] at hok
    obtain ⟨hd, hg⟩ := hok
    unfold wpList
    rw [if_pos (by simp [Region.wanted, hg])]
    left
    split at hr
    · rename_i f args hdc
      obtain ⟨ts, hop, _⟩ := dcalled_some hdc
      obtain ⟨⟨F, hF, hname, hbody⟩, hruns⟩ := hDS _ _ _ _ hr
      have hal : VL m (args.toList.map (lookE p e l)) (args.map a.eval).toList := by simpa using list_rel hs.eval args.toList
      have hcf : (callFunc f (args.map a.eval)).run P w = .ok (.enter f (args.map a.eval)) w := by
        simp only [callFunc, Sem.run_bind, run_program, Result.andThen_ok, hF, hname, hbody, Bool.false_eq_true, if_false, Sem.run_pure]
      have hrun : (execOp a.eval o).run P w = (callFunc f (args.map a.eval)).run P w := by
        have hfv : a.eval (.func f) = .func (.func f) #[] #[] := rfl
        unfold execOp
        rw [hop]
        simp only [resolve, hfv, Deferred.ofValue, Sem.run_bind, Sem.run_pure, Result.andThen_ok]
        simp [invoke]
      unfold Oper.wp
      rw [hrun, hcf, Oper.upon_enter]
      refine (hruns S m w _ hal hE hf hs.glob).mono fun en w1 hp => ?_
      obtain ⟨v, v', h1, m1, rfl, hR, hv, ho⟩ := hp
      exact rd_sim hP hDS p all rest m1 _ _ h1 _ w1 hR ((hs.ext ho.ext).put hd hv) ho.emb (ho.free hf) fun e2 h2 a2 w2 m2 l2 hq2 hs2 ho2 => hQ e2 h2 a2 w2 m2 l2 hq2 hs2 (ho.trans ho2)
    · obtain ⟨n, v, h1, hc, hR⟩ := hr
      refine op_wp (evF_sound hP n) hE o a hs.eval hc (freeOf hf _) hs.glob fun v' w1 m1 hv ho => ?_
      exact rd_sim hP hDS p all rest m1 _ _ h1 _ w1 hR ((hs.ext ho.ext).put hd hv) ho.emb (ho.free hf) fun e2 h2 a2 w2 m2 l2 hq2 hs2 ho2 => hQ e2 h2 a2 w2 m2 l2 hq2 hs2 (ho.trans ho2)
theorem code_simD {S : Stay} {CP : CProg} {DS : DSem} (hP : Progs P CP) (hDS : DSOK P DS) {D : FuncId → Bool} (p : Pers) (c : Code) : ∀ {QD : Post} {Q : Exit → Act → World → Prop} {m : Map} {e : Env} {h : Heap} {a : Act} {w : World},
    evD CP DS (toCD P D p c) e h QD → Slots p m e (fun _ => unk) a → Emb P S m h w → (∀ b, h.next ≤ b → m b = none) →
    (∀ x e1 h1 a1 w1 m1, QD x e1 h1 → Slots p m1 e1 (fun _ => unk) a1 → Out P S m h w m1 h1 w1 → Q (exitOf x) a1 w1) → c.wp P Q a w := by
  have lifted : ∀ (c : Code) {QD : Post} {Q : Exit → Act → World → Prop} {m : Map} {e : Env} {h : Heap} {a : Act} {w : World},
      evD CP DS (.lift (toCC P p c)) e h QD → Slots p m e (fun _ => unk) a → Emb P S m h w → (∀ b, h.next ≤ b → m b = none) →
      (∀ x e1 h1 a1 w1 m1, QD x e1 h1 → Slots p m1 e1 (fun _ => unk) a1 → Out P S m h w m1 h1 w1 → Q (exitOf x) a1 w1) → c.wp P Q a w := by
    intro c QD Q m e h a w hr hs hE hf hQ
    obtain ⟨N, x, e1, h1, he, hq⟩ := hr
    exact code_sim (evF_sound hP N) N p c he hs hE (fun b hb _ => hf b hb) fun a1 w1 m1 hs1 ho => hQ x e1 h1 a1 w1 m1 hq hs1 ho
  induction c with
  | region id ops d =>
    intro QD Q m e h a w hr hs hE hf hQ
    have first : ∀ (o : Oper) (rest : List Oper), ops.toList = o :: rest → d = false → o.guard = none → dstOk p o.dst = true → ∀ (v v' : Value) (h2 : Heap) (w1 : World), (execOp a.eval o).run P w = .ok (.value v') w1 → VR m v v' → Out P S m h w m h2 w1 →
        RunR CP (toReg P p ops rest (putE p e (fun _ => unk) o.dst v).1 (putE p e (fun _ => unk) o.dst v).2) h2 QD → (Code.region id ops d).wp P Q a w := by
      intro o rest hl hd hg hdst v v' h2 w1 hrun hv ho hrr
      subst hd
      obtain ⟨N, e1, h1, he, hq⟩ := hrr
      refine wp_region_list ?_
      rw [hl]
      unfold wpList
      rw [if_pos (by simp [Region.wanted, hg])]
      left
      unfold Oper.wp
      rw [hrun]
      have hf2 := ho.free hf
      exact reg_sim (evF_sound hP N) p ops rest m _ _ h2 _ w1 he (hs.put hdst hv) ho.emb (fun b hb _ => hf2 b hb) fun a1 w2 m1 l1 hs1 ho1 => hQ .normal e1 h1 a1 w2 m1 hq hs1.drop (ho.trans ho1)
    simp only [toCD] at hr
    split at hr
    · rename_i hany
      simp only [Bool.and_eq_true, Bool.not_eq_true'] at hany
      obtain ⟨hd, _⟩ := hany
      subst hd
      refine wp_region_list ?_
      exact rd_sim hP hDS p ops ops.toList m e _ h a w hr hs hE hf fun e1 h1 a1 w1 m1 l1 hq hs1 ho => hQ .normal e1 h1 a1 w1 m1 hq hs1.drop ho
    rename_i hneg
    clear hneg
    split at hr
    · rename_i o rest hl
      split at hr
      · rename_i x hop hg hdst
        obtain ⟨l, hl2, hall⟩ := hr
        obtain ⟨r, v', w1, hmem, hrun, hv, ho⟩ := next_sim hE o.type (hs.eval x) hl2
        refine first o rest hl rfl hg hdst r.1 v' r.2 w1 ?_ hv ho (hall r hmem)
        unfold execOp
        rw [hop]
        simp only [Sem.run_bind, hrun, Result.andThen_ok, Sem.run_pure]
      · rename_i x hop hg hdst
        obtain ⟨v, hv2, hall⟩ := hr
        obtain ⟨v', hrun, hv⟩ := entry_sim hE (hs.eval x) hv2
        refine first o rest hl rfl hg hdst v v' h w ?_ hv (Out.refl hE) hall
        unfold execOp
        rw [hop]
        simp only [Sem.run_bind, hrun, Result.andThen_ok, Sem.run_pure]
      · exact lifted _ hr hs hE hf hQ
    · exact lifted _ hr hs hE hf hQ
  | seq a b iha ihb =>
    intro QD Q m e h ac w hr hs hE hf hQ
    simp only [toCD, evD] at hr
    refine wp_seq (iha hr hs hE hf fun x e1 h1 a1 w1 m1 hq hs1 ho => ?_)
    cases x with
    | normal => exact ihb hq hs1 ho.emb (ho.free hf) fun x e2 h2 a2 w2 m2 hq2 hs2 ho2 => hQ x e2 h2 a2 w2 m2 hq2 hs2 (ho.trans ho2)
    | exit i => exact hQ _ _ _ _ _ _ hq hs1 ho
    | ret => exact hQ _ _ _ _ _ _ hq hs1 ho
  | cond c a b iha ihb =>
    intro QD Q m e h ac w hr hs hE hf hQ
    simp only [toCD, evD] at hr
    have hv := hs.eval c
    split at hr
    · rename_i hc
      rw [hc] at hv
      exact wp_cond_true hv.bool_inv (iha hr hs hE hf hQ)
    · rename_i hc
      rw [hc] at hv
      exact wp_cond_false hv.bool_inv (ihb hr hs hE hf hQ)
    · exact hr.elim
  | block id b ih =>
    intro QD Q m e h a w hr hs hE hf hQ
    simp only [toCD, evD] at hr
    refine wp_block (ih hr hs hE hf fun x e1 h1 a1 w1 m1 hq hs1 ho => ?_)
    cases x with
    | normal => exact hQ _ _ _ _ _ _ hq hs1 ho
    | exit i =>
      show (if i = id then Q .normal a1 w1 else Q (.exit i) a1 w1)
      have hq : if i = id then QD .normal e1 h1 else QD (.exit i) e1 h1 := hq
      by_cases hi : i = id
      · rw [if_pos hi] at hq ⊢; exact hQ _ _ _ _ _ _ hq hs1 ho
      · rw [if_neg hi] at hq ⊢; exact hQ _ _ _ _ _ _ hq hs1 ho
    | ret => exact hQ _ _ _ _ _ _ hq hs1 ho
  | loop b ih =>
    intro QD Q m e h a w hr hs hE hf hQ
    simp only [toCD, evD] at hr
    obtain ⟨I, d, hI, hstep⟩ := hr
    refine LoopIn.loop ?_
    have key : ∀ (n d : Nat), d < n → ∀ {m : Map} {e : Env} {h : Heap} {a : Act} {w : World}, I d e h → Slots p m e (fun _ => unk) a → Emb P S m h w → (∀ b, h.next ≤ b → m b = none) →
        (∀ x e1 h1 a1 w1 m1, QD x e1 h1 → Slots p m1 e1 (fun _ => unk) a1 → Out P S m h w m1 h1 w1 → Q (exitOf x) a1 w1) → LoopIn P b Q a w := by
      intro n
      induction n with
      | zero => intro d hd; omega
      | succ n ihn =>
        intro d hd m e h a w hI hs hE hf hQ
        refine LoopIn.round (ih (hstep d e h hI) hs hE hf fun x e1 h1 a1 w1 m1 hq hs1 ho => ?_)
        cases x with
        | normal =>
          obtain ⟨d', hd', hI'⟩ := hq
          exact ihn d' (by omega) hI' hs1 ho.emb (ho.free hf) fun x e2 h2 a2 w2 m2 hq2 hs2 ho2 => hQ x e2 h2 a2 w2 m2 hq2 hs2 (ho.trans ho2)
        | exit i => exact hQ _ _ _ _ _ _ hq hs1 ho
        | ret => exact hQ _ _ _ _ _ _ hq hs1 ho
    exact key (d + 1) d (Nat.lt_succ_self _) hI hs hE hf hQ
  | _ => intro QD Q m e h a w hr hs hE hf hQ; exact lifted _ hr hs hE hf hQ
end
def CALLD (CP : CProg) (DS : DSem) (fn : DFn) (args : List Value) (h : Heap) (Q : Value → Heap → Prop) : Prop := evD CP DS fn.body (initE args) h (retQ fn.results Q)
/-- A function that goes through maps: what the canonical machine answers, the program answers. -/
theorem callD_sound {P : Program} {CP : CProg} {DS : DSem} (hP : Progs P CP) (hDS : DSOK P DS) {D : FuncId → Bool} {f : FuncId} {F : Func} (hF : P.funcs[f]? = some F) {p : Pers} {fn : DFn} (hfn : toFnD P D p F = some fn) {args : List Value} {h : Heap} {R : Value → Heap → Prop} (hc : CALLD CP DS fn args h R) {S : Stay} {m : Map} {w : World} {args' : Array Value} (hargs : VL m args args'.toList) (hE : Emb P S m h w) (hf : ∀ b, h.next ≤ b → m b = none) (hgl : GlobOK m := by intro g hg; exact absurd hg (by simp [GLN])) :
    Calls P f args' w fun e w1 => ∃ v v' h1 m1, e = .returned v' ∧ R v h1 ∧ VR m1 v v' ∧ Out P S m h w m1 h1 w1 := by
  unfold toFnD at hfn
  split at hfn
  case h_2 => simp at hfn
  rename_i c rs hb hrs
  split at hfn
  case isFalse => simp at hfn
  rename_i hok
  simp only [Bool.and_eq_true, Bool.not_eq_true', Nat.ble_eq] at hok
  obtain ⟨⟨⟨hsz, hhas⟩, h3⟩, hname⟩ := hok
  obtain rfl := Option.some.inj hfn
  refine calls_of_wp hF hb (code_simD hP hDS p c hc ⟨fun t => ?_, ?_, rfl, hgl⟩ hE hf fun x e1 h1 a1 w1 m1 hq hs1 ho => ?_)
  · unfold lookT
    split
    · simp only [initE, List.getD_eq_getElem?_getD, Array.getD_eq_getD_getElem?]
      by_cases ht : t < args'.size
      · have ht2 : t < args.length := by have := hargs.1; simp only [Array.length_toList] at this; omega
        rw [Array.getElem?_append_left ht, Array.getElem?_eq_getElem ht, List.getElem?_eq_getElem ht2]
        simp only [Option.getD_some]
        exact hargs.2 t _ _ (List.getElem?_eq_getElem ht2) (by simp [ht])
      · have ht2 : args.length ≤ t := by have := hargs.1; simp only [Array.length_toList] at this; omega
        have hu : ((args' ++ Array.replicate (F.ntmps - args'.size) undef)[t]?).getD undef = undef := by
          rw [Array.getElem?_append_right (Nat.le_of_not_lt ht), Array.getElem?_replicate]
          split <;> rfl
        rw [hu, List.getElem?_eq_none ht2]
        exact .tuple _ _ rfl (fun i x y hx => by simp at hx)
    · exact .unk _
  · simp only [Array.size_append, Array.size_replicate]; omega
  · have hd := hs1.defers
    have fin : finQ (resultsV e1 h1 rs) h1 R → ∃ v', (results F a1.tmps).run P w1 = .ok v' w1 ∧ ∃ v'' v h1' m1', Ending.returned v' = .returned v'' ∧ R v h1' ∧ VR m1' v v'' ∧ Out P S m h w m1' h1' w1 := by
      intro hq
      unfold finQ at hq
      split at hq
      · rename_i v hres
        obtain ⟨v', hrun, hv⟩ := results_sim ho.emb hrs h3 hhas hs1 hres
        exact ⟨v', hrun, v', v, h1, m1, rfl, hq, hv, ho⟩
      · exact hq.elim
    cases x with
    | normal =>
      obtain ⟨v', hrun, v'', v, h1', m1', he, hR, hv, ho'⟩ := fin hq
      exact ⟨hd, v', hrun, v, v'', h1', m1', he, hR, hv, ho'⟩
    | ret =>
      obtain ⟨v', hrun, v'', v, h1', m1', he, hR, hv, ho'⟩ := fin hq
      exact ⟨hd, v', hrun, v, v'', h1', m1', he, hR, hv, ho'⟩
    | exit i => exact hq.elim
/-! ### rules -/
section
variable (CP : CProg) (DS : DSem)
def seqE (b : CD) (Q : Post) : Post
  | .normal, e, h => evD CP DS b e h Q
  | x, e, h => Q x e h
def condE (v : Value) (a b : CD) (e : Env) (h : Heap) (Q : Post) : Prop :=
  match v with
  | .bool true => evD CP DS a e h Q
  | .bool false => evD CP DS b e h Q
  | _ => False
variable {CP : CProg} {DS : DSem}
theorem evD_lift (c : CC) (e : Env) (h : Heap) (Q : Post) : evD CP DS (.lift c) e h Q ↔ RunC CP c e h Q := Iff.rfl
theorem evD_seq (a b : CD) (e : Env) (h : Heap) (Q : Post) : evD CP DS (.seq a b) e h Q ↔ evD CP DS a e h (seqE CP DS b Q) := by
  have : (fun (x : X) (e1 : Env) (h1 : Heap) => match x with
    | .normal => evD CP DS b e1 h1 Q
    | x => Q x e1 h1) = seqE CP DS b Q := by
    funext x e1 h1
    cases x <;> rfl
  simp only [evD, this]
theorem evD_cond (c : Env → Value) (a b : CD) (e : Env) (h : Heap) (Q : Post) : evD CP DS (.cond c a b) e h Q ↔ condE CP DS (c e) a b e h Q := by
  unfold condE
  simp only [evD]
theorem evD_block (id : Nat) (b : CD) (e : Env) (h : Heap) (Q : Post) : evD CP DS (.block id b) e h Q ↔ evD CP DS b e h (blockQ id Q) := Iff.rfl
theorem seqE_normal (b : CD) (Q : Post) (e : Env) (h : Heap) : seqE CP DS b Q .normal e h ↔ evD CP DS b e h Q := Iff.rfl
theorem seqE_ret (b : CD) (Q : Post) (e : Env) (h : Heap) : seqE CP DS b Q .ret e h ↔ Q .ret e h := Iff.rfl
theorem seqE_exit (b : CD) (Q : Post) (i : Nat) (e : Env) (h : Heap) : seqE CP DS b Q (.exit i) e h ↔ Q (.exit i) e h := Iff.rfl
theorem condE_true (a b : CD) (e : Env) (h : Heap) (Q : Post) : condE CP DS (.bool true) a b e h Q ↔ evD CP DS a e h Q := Iff.rfl
theorem condE_false (a b : CD) (e : Env) (h : Heap) (Q : Post) : condE CP DS (.bool false) a b e h Q ↔ evD CP DS b e h Q := Iff.rfl
theorem evD_loop (b : CD) (Q : Post) (I : Nat → Env → Heap → Prop) (step : ∀ d e h, I d e h → evD CP DS b e h (loopQ (fun e h => ∃ d', d' < d ∧ I d' e h) Q)) (d : Nat) (e : Env) (h : Heap) (h0 : I d e h) : evD CP DS (.loop b) e h Q :=
  ⟨I, d, h0, step⟩
/-- A step through a map: it is over, or it comes to one of those that are left. -/
theorem evD_draw (x : Env → Value) (k : Env → Value → Reg) (e : Env) (h : Heap) (Q : Post) {r m since last clock : Nat} {seen : List Nat} {es : List MapEntry} (hx : x e = .pointer (some ⟨r, 0, none⟩)) (hr : h.obj r = .miter (some m) since seen last) (hm : h.obj m = .map es clock)
    (hall : ∀ y ∈ es, y.born < since) (hle : since ≤ last) (over : leftE es seen = [] → RunR CP (k e (.tuple #[.bool false])) h Q)
    (one : ∀ y ∈ leftE es seen, RunR CP (k e (.tuple #[.bool true, y.key, y.val])) (h.upd r (.miter (some m) since (seen ++ [y.born]) clock)) Q) : evD CP DS (.draw x k) e h Q := by
  have hc : (es.all fun e => decide (e.born < since)) = true ∧ since ≤ last := ⟨List.all_eq_true.2 fun y hy => decide_eq_true (hall y hy), hle⟩
  by_cases hl : leftE es seen = []
  · refine ⟨[(.tuple #[.bool false], h)], ?_, fun y hy => ?_⟩
    · simp only [nextOpts, hx, hr, hm]
      rw [if_pos hc, if_pos (by rw [hl]; rfl)]
    · rw [List.mem_singleton.1 hy]; exact over hl
  · refine ⟨(leftE es seen).map fun e => (.tuple #[.bool true, e.key, e.val], h.upd r (.miter (some m) since (seen ++ [e.born]) clock)), ?_, fun y hy => ?_⟩
    · simp only [nextOpts, hx, hr, hm]
      rw [if_pos hc, if_neg (by simpa using hl)]
    · obtain ⟨z, hz, rfl⟩ := List.mem_map.1 hy
      exact one z hz
/-- The entry of the round. -/
theorem evD_ent (x : Env → Value) (k : Env → Value → Reg) (e : Env) (h : Heap) (Q : Post) {r m since clock : Nat} {seen : List Nat} {es : List MapEntry} {y : MapEntry} (hx : x e = .pointer (some ⟨r, 0, none⟩)) (hr : h.obj r = .miter (some m) since (seen ++ [y.born]) clock) (hm : h.obj m = .map es clock)
    (hy : y ∈ es) (hn : (es.map (·.born)).Nodup) (one : RunR CP (k e (.tuple #[y.key, y.val])) h Q) : evD CP DS (.ent x k) e h Q := by
  refine ⟨.tuple #[y.key, y.val], ?_, one⟩
  simp only [entV, hx, hr, hm, if_true, List.getLast?_append, List.getLast?_singleton, Option.some_or]
  rw [find_born y es hn hy]
  rfl
theorem evD_rd (r : Env → RD) (e : Env) (h : Heap) (Q : Post) : evD CP DS (.rd r) e h Q ↔ runRD CP DS (r e) h Q := Iff.rfl
theorem runRD_mv (v : Value) (k : Value → RD) (h : Heap) (Q : Post) : runRD CP DS (.op (.mv v) k) h Q ↔ runRD CP DS (k v) h Q := by
  constructor
  · rintro ⟨n, v1, h1, hc, hr⟩
    simp only [evOp, cop, Option.some.injEq, Prod.mk.injEq] at hc
    obtain ⟨rfl, rfl⟩ := hc
    exact hr
  · intro hr
    exact ⟨0, v, h, rfl, hr⟩
theorem runRD_done (e : Env) (h : Heap) (Q : Post) : runRD CP DS (.done e) h Q ↔ Q .normal e h := Iff.rfl
theorem runRD_dcall (f : FuncId) (args : List Value) (k : Value → RD) (h : Heap) (Q : Post) : runRD CP DS (.dcall f args k) h Q ↔ DS f args h fun v h1 => runRD CP DS (k v) h1 Q := Iff.rfl
theorem evD_congr {c c' : CD} (e : Env) (h : Heap) (Q : Post) (q : c = c') : evD CP DS c e h Q = evD CP DS c' e h Q := by rw [q]
theorem condE_congr {v v' : Value} (a b : CD) (e : Env) (h : Heap) (Q : Post) (q : v = v') : condE CP DS v a b e h Q = condE CP DS v' a b e h Q := by rw [q]
theorem runRD_congr {r r' : RD} (h : Heap) (Q : Post) (q : r = r') : runRD CP DS r h Q = runRD CP DS r' h Q := by rw [q]
/-- No call but those of the machine itself. -/
def DS0 : DSem := fun _ _ _ _ => False
theorem ds0_ok (P : Program) : DSOK P DS0 := fun _ _ _ _ h => h.elim
end
end Go.Proofs.Ytekojjilbchkgaa.Can
