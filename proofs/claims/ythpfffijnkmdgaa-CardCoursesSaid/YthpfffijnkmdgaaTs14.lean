/- The framework, Ts11 to Ts14. -/
import Derived.Test.YthpfffijnkmdgaaTs8
import Derived.KernelRfl
set_option linter.unusedVariables false
namespace Go.Cl
open Go Go.RowKit
section
variable {p : Bool} {f : Nat → Nat} {n : Nat}
end
theorem ats_of {f : Nat → Nat × Nat} {n : Nat} {h : List Blk} : ∀ {l : List Blk} {i : Nat}, (∀ j b, l[j]? = some b → At true f n h (i + j) b) → Ats true f n h i l
 | [], i, _ => .nil i
 | b :: l, i, hb => .cons (hb 0 b rfl) (ats_of fun j b' hj => by have := hb (j + 1) b' (by simpa using hj); rwa [show i + (j + 1) = i + 1 + j by omega] at this)
theorem ImpSim.of_TS {P : Program} {g : FuncId} {args : List Value} {base : Nat} {h h1 : List Blk} {v : Value} {fn : Func} {c : Code} (hfn : P.funcs[g]? = some fn) (hc : fn.body = some c)
 (hname : (fn.name == "runtime.NumGoroutine") = false) (hl : h.length ≤ h1.length)
 (ht : TS P base h.length c { tmps := args ++ List.replicate (fn.ntmps - args.length) undef } h
  fun e a1 h2 => (e = .normal ∨ e = .ret) ∧ a1.marks = [] ∧ h2 = h1 ∧ cResults P fn a1 h2 = some v) : ImpSim P g args base h v h1 := by
 refine ⟨⟨fn, c, hfn, hc, hname⟩, fun D β κ N w args' hD hb hR hargs => ?_⟩
 have start : ActR D β κ { tmps := args ++ List.replicate (fn.ntmps - args.length) undef } { tmps := (⟨args'⟩ : Array Value) ++ Array.replicate (fn.ntmps - (⟨args'⟩ : Array Value).size) undef, defers := [] } := by
  refine ⟨?_, rfl, fun m hm => by simp at hm⟩
  have := hargs.app (LR.rep (fn.ntmps - args.length) (VR.undef (D := D) (β := β) (κ := κ)))
  rw [hargs.len] at this ⊢
  simpa using this
 refine callsIn_FW.1 (callsIn_of_wp_marks (F := FW none) (n := 0) hfn hc trivial ?_)
 refine ht N D β κ none (.inl rfl) w w _ _ ⟨D, β, κ, hD, hb, Nat.le_refl _, hR, start, fun i _ => ⟨Iff.rfl, rfl, rfl⟩⟩ (Held.refl _ _) fun e a1 h2 a1' w1 hp hf hbl => ?_
 obtain ⟨he, hm, rfl, hres⟩ := hp
 obtain ⟨D1, β1, κ1, hf⟩ := hf
 obtain ⟨v', h3, h4⟩ := results_sim hf.rel hf.act hres
 have hsub : ∀ i, D1 i → Up D h h2 i := fun i hi => by
  by_cases hil : i < h.length
  · exact .inl ((hf.ext i hil).1.1 hi)
  exact .inr ⟨by omega, hf.dom i hi⟩
 have hO : Out P D β κ base N h w h2 w1 β1 κ1 := {
   le := hl
   ext := fun i hi => (hf.ext i hi).2
   rel := { blk := fun i => (hf.rel.blk i).move hsub Ext.refl rfl rfl, ro := hf.rel.ro, own := hf.rel.own, inj := hf.rel.inj, size := hf.rel.size }
   below := hbl }
 have leaves : LeavesInM (FW none) 0 P fn a1'.tmps (fun e w' => ∃ v' β' κ', e = .returned v' ∧ Out P D β κ base N h w h2 w' β' κ' ∧ VR (Up D h h2) β' κ' v v') a1'.defers .returning w1 := by
  rw [hf.act.marks, hm]
  exact ⟨v', h3, v', _, _, rfl, hO, h4.mono hsub Ext.refl⟩
 rcases he with rfl | rfl <;> exact leaves
end Go.Cl
set_option linter.unusedVariables false
namespace Go.Cl
open Go Go.RowKit
section
variable {P : Program} {base L : Nat} {c : Code} {a a1 a2 : CAct} {h h1 h2 : List Blk} {Φ : Post} {ops : Array Oper} {j : Nat} {Ψ : CAct → List Blk → Prop} {v : Value}
theorem Wk.tm (keep : List Nat) : Wk P base L a h (maskA keep a) h := by
 rintro N D0 β0 κ0 a' w ⟨D, β, κ, hf⟩
 exact ⟨D, β, κ, hf.dom, hf.bl, hf.ll, hf.rel, ⟨maskL_lr hf.act.tmps, hf.act.marks, hf.act.known⟩, hf.ext⟩
theorem TI.val (keep : List Nat) (hq : qAt P base ops j a h = some { val := v }) (hs : maskA keep (putAt ops j a v) = a2) (ht : TI P base L ops (j + 1) a2 h Ψ) : TI P base L ops j a h Ψ :=
 TI.one (h1 := h) hq rfl (by simp [QRes.heap]) (TI.weak (Wk.tm keep) (by rw [hs]; exact ht))
theorem TI.pcall {g : FuncId} {args : List Value} (keep : List Nat) (hc : callAt ops j a = some (g, args)) (hP : PureSim P g args h v []) (hs : maskA keep (putAt ops j a v) = a2) (ht : TI P base L ops (j + 1) a2 h Ψ) : TI P base L ops j a h Ψ :=
 TI.call hc hP rfl (List.append_nil h) (TI.weak (Wk.tm keep) (by rw [hs]; exact ht))
theorem TI.icallT {g : FuncId} {args : List Value} (keep : List Nat) (hc : callAt ops j a = some (g, args)) (hP : ImpSim P g args base h v h1) (hs : maskA keep (putAt ops j a v) = a2) (ht : TI P base L ops (j + 1) a2 h1 Ψ) : TI P base L ops j a h Ψ :=
 TI.icall hc hP rfl (TI.weak (Wk.tm keep) (by rw [hs]; exact ht))
theorem Wk.cut {x : List Blk} (hL : L ≤ h2.length) (hb : base ≤ h2.length) (hat : ∀ (i : Nat) (b : Blk), h2[i]? = some b → At true (fun i => (i, 0)) h2.length (h ++ x) i b)
 (ht : LRn true (fun i => (i, 0)) h2.length a2.tmps a.tmps) (hm : a.marks = []) (hm2 : a2.marks = []) : Wk P base L a (h ++ x) a2 h2 :=
 Wk.ren (fun i => i) (fun i _ => rfl) hL hb (fun i j _ _ e => e) (fun i _ => Iff.rfl) (ats_of fun j b hj => by rw [Nat.zero_add]; exact hat j b hj) ht (by rw [hm, hm2]; rfl) (by rw [hm2]; intro m hm; cases hm)
end
end Go.Cl
set_option linter.unusedVariables false
namespace Go.Cl
open Go Go.RowKit
theorem BR.any {P : Program} {D D' : Nat → Prop} {β β' : Nat → Nat × Nat} {κ κ' : Nat → Nat} {i j : Nat} {b : Blk} {w : World} (hf : blkFlat b = true) (hi : β' j = β i) (h : BR P D β κ i b w) : BR P D' β' κ' j b w := by
 cases b with
 | cells t vs =>
  obtain ⟨arr, T, fz, h1, h2⟩ := h
  refine ⟨arr, T, fz, by rw [hi]; exact h1, fun k v hv => ?_⟩
  obtain ⟨v', h3, h4⟩ := h2 k v hv
  have hfv : isFlat v = true := List.all_eq_true.1 (show vs.all isFlat = true from hf) v (List.mem_of_getElem? hv)
  refine ⟨v', by rw [hi]; exact h3, ?_⟩
  rw [h4.flat hfv]
  exact .of_flat hfv
 | map kt es =>
  obtain ⟨arr, clock, h1, h2⟩ := h
  exact ⟨arr, clock, by rw [hi]; exact h1, h2⟩
 | _ => cases hf
theorem OwnB.any {P : Program} {β β' : Nat → Nat × Nat} {κ κ' : Nat → Nat} {i j : Nat} {b : Blk} {w : World} (hi : β' j = β i) (hk : κ' j = κ i) (h : OwnB P β κ i b w) : OwnB P β' κ' j b w := by
 cases b with
 | cells t vs =>
  obtain ⟨arr, T, h1, h2⟩ := h
  exact ⟨arr, T, by rw [hi]; exact h1, fun s hs => by rw [hi, hk]; exact h2 s hs⟩
 | _ => trivial
end Go.Cl
set_option linter.unusedVariables false
namespace Go.Cl
open Go Go.RowKit
abbrev iv (x : Int) : Value := .int .i64 x
abbrev pt (b o : Nat) : Value := .pointer (some ⟨b, o, none⟩)
abbrev ag (l : List Value) : Value := .agg ⟨l⟩
abbrev cl (t : Nat) (l : List Value) : Blk := .cells t l
abbrev qs (a : CAct) (h : List Blk) (o : List (Nat × Nat × Nat)) (u : List (Nat × Nat)) : QSt := { act := a, heap := h, own := o, upds := u }
theorem accE {p : Bool} {f : Nat → Nat × Nat} {n i i' c c' : Nat} (hi : i < n) (hf : f i = (i', 0)) (hc : c = c') : Rn p f n (accV i c) (accV i' c') := hc ▸ Rn.acc hi hf
section
variable {P : Program} {base L : Nat} {c : Code} {a a1 a2 : CAct} {h h1 h2 new : List Blk} {Φ : Post} {K : List Fr} {ops : Array Oper} {j : Nat} {Ψ : CAct → List Blk → Prop} {q : QRes} {v : Value}
def Code.isReg (b : Bool) : Code → Bool | .region _ _ b' => b == b' | _ => false
theorem Code.isReg_spec {b : Bool} (hc : Code.isReg b c = true) : ∃ id, c = .region id c.rops b := by
 cases c with
 | region id ops b' =>
  have : b = b' := by simpa [Code.isReg] using hc
  exact ⟨id, by rw [this]; rfl⟩
 | _ => cases hc
theorem TS.regionP (hc : Code.isReg false c = true) (ht : TI P base L c.rops 0 a h (NX P base L K Φ .normal)) : TS P base L c a h (NX P base L K Φ) := by
 obtain ⟨id, hc⟩ := Code.isReg_spec hc
 exact TS.region' hc rfl ht
theorem TI.runA (k : Nat) (keep : List Nat) (hs : (runK P base ops j k a h).map (fun p => (maskA keep p.1, p.2)) = some (a2, h)) (ht : TI P base L ops (j + k) a2 h Ψ) : TI P base L ops j a h Ψ := by
 cases hr : runK P base ops j k a h with
 | none => rw [hr] at hs; cases hs
 | some p =>
  rw [hr] at hs
  have e := Option.some.inj hs
  have e1 : maskA keep p.1 = a2 := congrArg Prod.fst e
  have e2 : p.2 = h := congrArg Prod.snd e
  refine TI.bulk k (a1 := p.1) (h1 := p.2) hr (TI.weak (a2 := maskA keep p.1) (h2 := p.2) ?_ ?_)
  · rintro N D0 β0 κ0 a' w ⟨D, β, κ, hf⟩
    exact ⟨D, β, κ, hf.dom, hf.bl, hf.ll, hf.rel, ⟨maskL_lr hf.act.tmps, hf.act.marks, hf.act.known⟩, hf.ext⟩
  rw [e1, e2]
  exact ht
theorem PureSim.anyK {g : FuncId} {args : List Value} (hP : PureSim P g args [] v []) (hf : (args.all isFlat && isFlat v) = true) : PureSim P g args h v [] := by
 simp only [Bool.and_eq_true] at hf
 exact PureSim.any hP (flatL hf.1) hf.2 h
theorem TI.callF {g : FuncId} {args : List Value} (hP : PureSim P g args [] v []) (hc : callAt ops j a = some (g, args)) (hf : (args.all isFlat && isFlat v) = true) (ht : TI P base L ops (j + 1) (putAt ops j a v) h Ψ) :
 TI P base L ops j a h Ψ := TI.call hc (PureSim.anyK hP hf) rfl (List.append_nil h) ht
theorem TI.callP {g : FuncId} {args : List Value} (hP : PureSim P g args h v new) (hc : callAt ops j a = some (g, args)) (ht : TI P base L ops (j + 1) (putAt ops j a v) (h ++ new) Ψ) :
 TI P base L ops j a h Ψ := TI.call hc hP rfl rfl ht
variable {T : List Entry} {s s1 fin : QSt} {us : List (Nat × Nat)} {n : Nat} {Θ : QSt → Prop}
def QJ (P : Program) (T : List Entry) (base : Nat) (ops : Array Oper) (us : List (Nat × Nat)) (n j : Nat) (s : QSt) (Θ : QSt → Prop) : Prop := ∃ fin, QI P T base ops us n j s fin ∧ Θ fin
def SJ (P : Program) (T : List Entry) (base : Nat) (ops : Array Oper) (j : Nat) (a : CAct) (h : List Blk) (keep keepH : List Nat) (a2 : CAct) (h2 : List Blk) : Prop :=
 ∃ a1 h1, SI P T base ops j a h a1 h1 ∧ mk2 keep keepH (a1, h1) = (a2, h2)
theorem QJ.run (k : Nat) (hk : (((ops.toList.take n).drop j).take k).length = k) (hs : runQ P T base ops us n j k s = some s1) (ht : QJ P T base ops us n (j + k) s1 Θ) : QJ P T base ops us n j s Θ := by
 obtain ⟨fin, h1, h2⟩ := ht
 exact ⟨fin, QI.run k hk hs h1, h2⟩
theorem QJ.op (hn : j < n) (hq : qOf P T base ops j s.act (masked (Region.before ops).toList s.own us j s.heap) s.heap.length = some q) (ht : QJ P T base ops us n (j + 1) (nextQ ops j s q) Θ) : QJ P T base ops us n j s Θ := by
 obtain ⟨fin, h1, h2⟩ := ht
 exact ⟨fin, QI.op hn hq rfl h1, h2⟩
theorem QJ.done (hj : ((ops.toList.take n).drop j).isEmpty = true) (ht : Θ s) : QJ P T base ops us n j s Θ := ⟨s, QI.done hj, ht⟩
theorem SJ.run {keep keepH : List Nat} {a3 : CAct} {h3 : List Blk} (k : Nat) (hs : runS P T base ops j k a h = some (a3, h3)) (ht : SJ P T base ops (j + k) a3 h3 keep keepH a2 h2) : SJ P T base ops j a h keep keepH a2 h2 := by
 obtain ⟨a1, h1, x, y⟩ := ht
 exact ⟨a1, h1, SI.run k hs x, y⟩
theorem SJ.op {keep keepH : List Nat} (hi : (match ops.toList[j]? with | some o => isImpCall (orc P T) a.eval o | none => false) = false) (hq : qOf P T base ops j a h h.length = some q) (ht : SJ P T base ops (j + 1) (putAt ops j a q.val) (q.heap h) keep keepH a2 h2) : SJ P T base ops j a h keep keepH a2 h2 := by
 obtain ⟨a1, h1, x, y⟩ := ht
 exact ⟨a1, h1, SI.op hi hq rfl rfl x, y⟩
theorem SJ.done {keep keepH : List Nat} (hj : (ops.toList.drop j).isEmpty = true) (hm : mk2 keep keepH (a, h) = (a2, h2)) : SJ P T base ops j a h keep keepH a2 h2 := ⟨a, h, SI.done hj, hm⟩
theorem TS.drawP (T : List Entry) (hT : ∀ e ∈ T, PureSim P e.g e.args e.h e.v e.new) (hmix : P.follows .mixedOrders = true) {y : Code} (hc : Code.isReg true c = true) (n : Nat)
 (hn : (edgesBack c.rops.toList 0 && quietOk c.rops.toList (Region.before c.rops).toList n && (tailFrom (Region.before c.rops).toList c.rops.size == n)) = true) (keep keepH : List Nat)
 (hq : QJ P T base c.rops [] n 0 { act := a, heap := h } fun fin => fin.upds = [] ∧ SJ P T base c.rops n fin.act fin.heap keep keepH a2 h2)
 (hK : TS P base L y a2 h2 (NX P base L K Φ)) : TS P base L c a h (NX P base L (.sq y :: K) Φ) := by
 obtain ⟨id, hc⟩ := Code.isReg_spec hc
 obtain ⟨fin, hq, hu, a1, h1, hs, hm⟩ := hq
 exact TS.draw' (fin := fin) (fin2 := fin) T hT hmix hc rfl n hn [] hq hu (.inl ⟨rfl, rfl⟩) hs keep keepH hm hK
end
end Go.Cl
namespace Go.Cl
open Go Go.RowKit
theorem SJ.last {P : Program} {T : List Entry} {base j : Nat} {ops : Array Oper} {a a2 : CAct} {h h2 : List Blk} {keep keepH : List Nat} (hs : (seqOps (orc P T) Rec.none base ops.toList (ops.toList.drop j) a h).map (mk2 keep keepH) = some (a2, h2)) : SJ P T base ops j a h keep keepH a2 h2 := by
 cases hr : seqOps (orc P T) Rec.none base ops.toList (ops.toList.drop j) a h with
 | none => rw [hr] at hs; cases hs
 | some p =>
  rw [hr] at hs
  exact ⟨p.1, p.2, hr, Option.some.inj hs⟩
end Go.Cl
namespace Go.Cl
open Go Go.RowKit
def cellsV (v : Value) : List Value := match v with | .agg a => a.toList | v => [v]
def leafI (i : Nat) (l : List Value) : Int := match (l.flatMap cellsV)[i]? with | some (.int _ x) => x | _ => 0
end Go.Cl
namespace Go.Cl
open Go Go.RowKit
end Go.Cl
namespace Go.Cl
open Go Go.RowKit
section
variable {P : Program} {base L : Nat} {c : Code} {a a1 a2 : CAct} {h h1 h2 new : List Blk} {Φ : Post} {K : List Fr} {ops : Array Oper} {j : Nat} {Ψ : CAct → List Blk → Prop} {q : QRes} {v : Value}
theorem TS.sq (ht : TS P base L c.s1 a h (NX P base L (.sq c.s2 :: K) Φ)) (hc : c = .seq c.s1 c.s2 := by kernel_rfl) : TS P base L c a h (NX P base L K Φ) := TS.seq' hc ht
theorem TS.bk (id : Nat) (ht : TS P base L c.bd a h (NX P base L (.bk id :: K) Φ)) (hc : c = .block id c.bd := by kernel_rfl) : TS P base L c a h (NX P base L K Φ) := TS.block' hc ht
theorem TS.cd (o : Operand) (b : Bool) (ht : b = true → TS P base L c.th a h Φ) (hf : b = false → TS P base L c.el a h Φ) (hc : c = .cond o c.th c.el := by kernel_rfl) (hv : a.eval o = .bool b := by kernel_rfl) : TS P base L c a h Φ := TS.cond' hc hv ht hf
theorem TS.cdT (o : Operand) (ht : TS P base L c.th a h Φ) (hc : c = .cond o c.th c.el := by kernel_rfl) (hv : a.eval o = .bool true := by kernel_rfl) : TS P base L c a h Φ := TS.condT' hc hv ht
theorem TS.cdF (o : Operand) (ht : TS P base L c.el a h Φ) (hc : c = .cond o c.th c.el := by kernel_rfl) (hv : a.eval o = .bool false := by kernel_rfl) : TS P base L c a h Φ := TS.condF' hc hv ht
theorem TS.lp (ht : TL P base L c.bd a h Φ) (hc : c = .loop c.bd := by kernel_rfl) : TS P base L c a h Φ := TS.loop' hc ht
theorem TS.rg (ht : TI P base L c.rops 0 a h (NX P base L K Φ .normal)) (hc : Code.isReg false c = true := by kernel_rfl) : TS P base L c a h (NX P base L K Φ) := TS.regionP hc ht
theorem TS.sk (hp : Φ .normal a h) (hc : c = .skip := by kernel_rfl) : TS P base L c a h Φ := TS.skip' hc hp
theorem TS.rt (hp : Φ .ret a h) (hc : c = .ret := by kernel_rfl) : TS P base L c a h Φ := TS.ret' hc hp
theorem TS.ex (id : Nat) (hp : Φ (.exit id) a h) (hc : c = .exit id := by kernel_rfl) : TS P base L c a h Φ := TS.exit' hc hp
theorem TI.dn (hp : Ψ a h) (hj : (ops.toList.drop j).isEmpty = true := by kernel_rfl) : TI P base L ops j a h Ψ := TI.done hj hp
theorem TI.rn (k : Nat) (keep keepH : List Nat) (a2 : CAct) (h2 : List Blk) (ht : TI P base L ops (j + k) a2 h2 Ψ) (hs : (runK P base ops j k a h).map (mk2 keep keepH) = some (a2, h2) := by kernel_rfl) : TI P base L ops j a h Ψ := TI.run k keep keepH hs ht
theorem TI.ra (k : Nat) (keep : List Nat) (a2 : CAct) (ht : TI P base L ops (j + k) a2 h Ψ) (hs : (runK P base ops j k a h).map (fun p => (maskA keep p.1, p.2)) = some (a2, h) := by kernel_rfl) : TI P base L ops j a h Ψ := TI.runA k keep hs ht
theorem TI.cf {g : FuncId} {args : List Value} (hP : PureSim P g args [] v []) (ht : TI P base L ops (j + 1) (putAt ops j a v) h Ψ) (hc : callAt ops j a = some (g, args) := by kernel_rfl) (hf : (args.all isFlat && isFlat v) = true := by kernel_rfl) : TI P base L ops j a h Ψ := TI.callF hP hc hf ht
theorem PureSim.ak {g : FuncId} {args : List Value} (hP : PureSim P g args [] v []) (hf : (args.all isFlat && isFlat v) = true := by kernel_rfl) : PureSim P g args h v [] := PureSim.anyK hP hf
theorem TI.cm {g : FuncId} {args : List Value} (hP : PureSim P g args h v new) (keep keepH : List Nat) (a2 : CAct) (h2 : List Blk) (ht : TI P base L ops (j + 1) a2 h2 Ψ) (hc : callAt ops j a = some (g, args) := by kernel_rfl) (hs : mk2 keep keepH (putAt ops j a v, h ++ new) = (a2, h2) := by kernel_rfl) : TI P base L ops j a h Ψ := TI.callM hc hP keep keepH hs ht
theorem TI.cp (g : FuncId) (args : List Value) (v : Value) (new : List Blk) (hP : PureSim P g args h v new) (ht : TI P base L ops (j + 1) (putAt ops j a v) (h ++ new) Ψ) (hc : callAt ops j a = some (g, args) := by kernel_rfl) : TI P base L ops j a h Ψ := TI.callP hP hc ht
theorem TI.o (q : QRes) (hq : qAt P base ops j a h = some q) (keep keepH : List Nat) (a2 : CAct) (h2 : List Blk) (ht : TI P base L ops (j + 1) a2 h2 Ψ) (hs : mk2 keep keepH (putAt ops j a q.val, q.heap h) = (a2, h2) := by kernel_rfl) : TI P base L ops j a h Ψ := TI.op hq keep keepH hs ht
variable {T : List Entry} {s s1 fin : QSt} {us : List (Nat × Nat)} {n : Nat} {Θ : QSt → Prop} {keep keepH : List Nat}
theorem QJ.rn (s1 : QSt) (k : Nat) (ht : QJ P T base ops us n (j + k) s1 Θ) (hk : (((ops.toList.take n).drop j).take k).length = k := by kernel_rfl) (hs : runQ P T base ops us n j k s = some s1 := by kernel_rfl) : QJ P T base ops us n j s Θ := QJ.run k hk hs ht
theorem QJ.o (q : QRes) (hq : qOf P T base ops j s.act (masked (Region.before ops).toList s.own us j s.heap) s.heap.length = some q) (ht : QJ P T base ops us n (j + 1) (nextQ ops j s q) Θ) (hn : j < n := by decide) : QJ P T base ops us n j s Θ := QJ.op hn hq ht
theorem QJ.dn (ht : Θ s) (hj : ((ops.toList.take n).drop j).isEmpty = true := by kernel_rfl) : QJ P T base ops us n j s Θ := QJ.done hj ht
theorem SJ.rn (a3 : CAct) (h3 : List Blk) (k : Nat) (ht : SJ P T base ops (j + k) a3 h3 keep keepH a2 h2) (hs : runS P T base ops j k a h = some (a3, h3) := by kernel_rfl) : SJ P T base ops j a h keep keepH a2 h2 := SJ.run k hs ht
theorem SJ.o (q : QRes) (hq : qOf P T base ops j a h h.length = some q) (ht : SJ P T base ops (j + 1) (putAt ops j a q.val) (q.heap h) keep keepH a2 h2) (hi : (match ops.toList[j]? with | some o => isImpCall (orc P T) a.eval o | none => false) = false := by kernel_rfl) : SJ P T base ops j a h keep keepH a2 h2 := SJ.op hi hq ht
theorem SJ.dn (hj : (ops.toList.drop j).isEmpty = true := by kernel_rfl) (hm : mk2 keep keepH (a, h) = (a2, h2) := by kernel_rfl) : SJ P T base ops j a h keep keepH a2 h2 := SJ.done hj hm
theorem SJ.la (hs : (seqOps (orc P T) Rec.none base ops.toList (ops.toList.drop j) a h).map (mk2 keep keepH) = some (a2, h2) := by kernel_rfl) : SJ P T base ops j a h keep keepH a2 h2 := SJ.last hs
theorem TS.dp (T : List Entry) (hT : ∀ e ∈ T, PureSim P e.g e.args e.h e.v e.new) (hmix : P.follows .mixedOrders = true) {y : Code} (n : Nat) (keep keepH : List Nat) (a2 : CAct) (h2 : List Blk)
 (hq : QJ P T base c.rops [] n 0 { act := a, heap := h } fun fin => fin.upds = [] ∧ SJ P T base c.rops n fin.act fin.heap keep keepH a2 h2) (hK : TS P base L y a2 h2 (NX P base L K Φ)) (hc : Code.isReg true c = true := by kernel_rfl)
 (hn : (edgesBack c.rops.toList 0 && quietOk c.rops.toList (Region.before c.rops).toList n && (tailFrom (Region.before c.rops).toList c.rops.size == n)) = true := by kernel_rfl) : TS P base L c a h (NX P base L (.sq y :: K) Φ) := TS.drawP T hT hmix hc n hn keep keepH hq hK
end
abbrev fn (k : Nat) : Value := .func (.func k) ⟨[]⟩ ⟨[]⟩
theorem Ats.l {p : Bool} {f : Nat → Nat × Nat} {n i t : Nat} {h : List Blk} {α : Type} {enc : α → List Value} {l : List α} (hb : h[(f i).1]? = some (.cells t (l.flatMap enc)) := by kernel_rfl) (hf : ∀ y, (enc y).all isFlat = true := by exact fun _ => rfl) (h2 : (f i).2 = 0 := by exact rfl) : Ats p f n h i [.cells t (l.flatMap enc)] := .cons (At.blk hb (by rw [h2]; exact RnB.list hf)) (.nil _)
theorem TI.dq {P : Program} {base L j : Nat} {ops : Array Oper} {a : CAct} {h : List Blk} {y : Code} {K : List Fr} {Φ : Post} (ht : TS P base L y a h (NX P base L K Φ)) (hj : (ops.toList.drop j).isEmpty = true := by kernel_rfl) : TI P base L ops j a h (NX P base L (.sq y :: K) Φ .normal) := TI.done hj ht
def sx (a : CAct) (l : List (Nat × Value)) : CAct := { a with tmps := l.foldl (fun t p => t.set p.1 p.2) a.tmps }
section
variable {P : Program} {T : List Entry} {base j : Nat} {ops : Array Oper} {us : List (Nat × Nat)} {n : Nat} {s fin : QSt} {a a1 : CAct} {h h1 : List Blk}
theorem QI.o (q : QRes) (s1 : QSt) (hq : qOf P T base ops j s.act (masked (Region.before ops).toList s.own us j s.heap) s.heap.length = some q) (ht : QI P T base ops us n (j + 1) s1 fin) (hn : j < n := by decide) (hs : nextQ ops j s q = s1 := by kernel_rfl) : QI P T base ops us n j s fin := QI.op hn hq hs ht
theorem QI.r (s1 : QSt) (k : Nat) (ht : QI P T base ops us n (j + k) s1 fin) (hk : (((ops.toList.take n).drop j).take k).length = k := by kernel_rfl) (hs : runQ P T base ops us n j k s = some s1 := by kernel_rfl) : QI P T base ops us n j s fin := QI.run k hk hs ht
theorem SI.o (q : QRes) (a2 : CAct) (h2 : List Blk) (hq : qOf P T base ops j a h h.length = some q) (ht : SI P T base ops (j + 1) a2 h2 a1 h1) (hi : (match ops.toList[j]? with | some o => isImpCall (orc P T) a.eval o | none => false) = false := by kernel_rfl) (ha : putAt ops j a q.val = a2 := by kernel_rfl) (hh : q.heap h = h2 := by kernel_rfl) : SI P T base ops j a h a1 h1 := SI.op hi hq ha hh ht
end
end Go.Cl
