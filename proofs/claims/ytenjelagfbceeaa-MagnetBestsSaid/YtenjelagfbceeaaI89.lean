/- Insertion sort of choices. -/
import Derived.Test.YtenjelagfbceeaaTs14
import Derived.Test.YtenjelagfbceeaaProg
import Derived.KernelRfl
set_option linter.unusedVariables false
set_option linter.unusedSimpArgs false
set_option maxRecDepth 100000
set_option maxHeartbeats 4000000
namespace Go.Proofs.Ytenjelagfbceeaa
open Go Go.Cl
theorem mixed : Try.prog.follows .mixedOrders = true := by kernel_rfl
def anyV (b n : Nat) : Value := .slice (some ⟨b, 0, none⟩) n ANY
theorem Rn.anyV {f : Nat → Nat × Nat} {n i i' c c' : Nat} (hi : i < n) (hf : f i = (i', 0)) (hc : c = c') : Rn true f n (anyV i c) (anyV i' c') := by
  subst hc
  have := Rn.any (p := true) (f := f) (n := n) i 0 0 c ANY ANY hi (by rw [hf]) rfl (by decide)
  rw [hf] at this
  exact this
def ImpFin (P : Program) (fn : Func) (h1 : List Blk) (v : Value) : Post := fun e a h => (e = .normal ∨ e = .ret) ∧ a.marks = [] ∧ h = h1 ∧ cResults P fn a h = some v
def e27 (x : (Int × Int)) : List Value := [.int .i64 x.1, .int .i64 x.2]
def e3 (x : Int) : List Value := [.int .i64 x]
-- cmp.isNaN[int]
noncomputable def c99 : Code := Try.f99.code
def F99 (p0 : Int) : Option Bool :=
  some (p0 != p0)
def V99 (b : Nat) (r : Bool) : Value := .bool r
def N99 (b : Nat) (r : Bool) : List Blk := []
theorem B99 (p0 : Int) (r : Bool) (hF : F99 p0 = some r) : TS Try.prog 0 0 c99 (st 6 [(0, iv p0)]) [] (NX Try.prog 0 0 [] (FinP Try.prog Try.f99 0 (V99 0 r) (N99 0 r))) := by
  unfold F99 at hF
  refine TS.seqP (by kernel_rfl) ?_
  refine TS.regionP (by kernel_rfl) ?_
  refine TI.runA 1 [0] (a2 := (st 6 [(0, iv p0)])) (by kernel_rfl) ?_
  refine TI.done (by kernel_rfl) ?_
  refine NX.sq ?_
  refine TS.seqP (by kernel_rfl) ?_
  refine TS.regionP (by kernel_rfl) ?_
  refine TI.runA 4 [2] (a2 := (st 6 [(2, .bool (p0 != p0))])) (by kernel_rfl) ?_
  refine TI.done (by kernel_rfl) ?_
  refine NX.sq ?_
  refine TS.ret' (by kernel_rfl) ?_
  have hF := Option.some.inj hF
  subst hF
  exact ⟨.inr rfl, rfl, .bool (p0 != p0), by kernel_rfl, WkV.flat0 (by kernel_rfl) (Nat.le_of_ble_eq_true rfl)⟩
theorem C99 (p0 : Int) (r : Bool) (hF : F99 p0 = some r) : PureSim Try.prog 99 [iv p0] [] (V99 0 r) (N99 0 r) :=
  PureSim.of_Fin Try.func99 (c := c99) (by kernel_rfl) (by kernel_rfl) 0 rfl [0] [] (by kernel_rfl) (B99 p0 r hF)

-- cmp.Compare[int]
noncomputable def c88 : Code := Try.f88.code
def F88 (p0 : Int) (p1 : Int) : Option Int :=
  F99 p0 >>= fun r1 =>
  F99 p1 >>= fun r3 =>
  if r1 then
    if r3 then
      some 0
    else
      some (-1)
  else
    if r3 then
      some 1
    else
      if decide (p0 < p1) then
        some (-1)
      else
        if decide (p0 > p1) then
          some 1
        else
          some 0
def V88 (b : Nat) (r : Int) : Value := iv r
def N88 (b : Nat) (r : Int) : List Blk := []
theorem B88 (p0 : Int) (p1 : Int) (r : Int) (hF : F88 p0 p1 = some r) : TS Try.prog 0 0 c88 (st 20 [(0, iv p0), (1, iv p1)]) [] (NX Try.prog 0 0 [] (FinP Try.prog Try.f88 0 (V88 0 r) (N88 0 r))) := by
  unfold F88 at hF
  refine TS.seqP (by kernel_rfl) ?_
  refine TS.regionP (by kernel_rfl) ?_
  refine TI.runA 1 [0, 1] (a2 := (st 20 [(0, iv p0), (1, iv p1)])) (by kernel_rfl) ?_
  refine TI.done (by kernel_rfl) ?_
  refine NX.sq ?_
  refine TS.seqP (by kernel_rfl) ?_
  have hX := of_do hF
  clear hF
  obtain ⟨r1, h2, hF⟩ := hX
  refine TS.regionP (by kernel_rfl) ?_
  refine TI.runA 1 [0, 1, 7] (a2 := (st 20 [(0, iv p0), (1, iv p1), (7, iv p0)])) (by kernel_rfl) ?_
  refine TI.callF (C99 _ _ h2) (by kernel_rfl) (by kernel_rfl) ?_
  refine TI.runA 1 [0, 1, 5] (a2 := (st 20 [(0, iv p0), (1, iv p1), (5, .bool r1)])) (by kernel_rfl) ?_
  refine TI.done (by kernel_rfl) ?_
  refine NX.sq ?_
  refine TS.seqP (by kernel_rfl) ?_
  have hX := of_do hF
  clear hF
  obtain ⟨r3, h4, hF⟩ := hX
  refine TS.regionP (by kernel_rfl) ?_
  refine TI.runA 1 [0, 1, 5, 9] (a2 := (st 20 [(0, iv p0), (1, iv p1), (5, .bool r1), (9, iv p1)])) (by kernel_rfl) ?_
  refine TI.callF (C99 _ _ h4) (by kernel_rfl) (by kernel_rfl) ?_
  refine TI.runA 1 [0, 1, 5, 6] (a2 := (st 20 [(0, iv p0), (1, iv p1), (5, .bool r1), (6, .bool r3)])) (by kernel_rfl) ?_
  refine TI.done (by kernel_rfl) ?_
  refine NX.sq ?_
  refine TS.seqP (by kernel_rfl) ?_
  refine TS.seqP (by kernel_rfl) ?_
  refine TS.regionP (by kernel_rfl) ?_
  refine TI.runA 1 [0, 1, 6, 11] (a2 := (st 20 [(0, iv p0), (1, iv p1), (6, .bool r3), (11, .bool r1)])) (by kernel_rfl) ?_
  refine TI.done (by kernel_rfl) ?_
  refine NX.sq ?_
  cases r1 with
  | true =>
    replace hF := of_pos hF rfl
    refine TS.condTP (o := (.tmp 11)) (by kernel_rfl) (by kernel_rfl) ?_
    refine TS.seqP (by kernel_rfl) ?_
    refine TS.seqP (by kernel_rfl) ?_
    refine TS.regionP (by kernel_rfl) ?_
    refine TI.runA 1 [12] (a2 := (st 20 [(12, .bool r3)])) (by kernel_rfl) ?_
    refine TI.done (by kernel_rfl) ?_
    refine NX.sq ?_
    cases r3 with
    | true =>
      replace hF := of_pos hF rfl
      refine TS.condTP (o := (.tmp 12)) (by kernel_rfl) (by kernel_rfl) ?_
      refine TS.seqP (by kernel_rfl) ?_
      refine TS.regionP (by kernel_rfl) ?_
      refine TI.runA 1 [4] (a2 := (st 20 [(4, iv 0)])) (by kernel_rfl) ?_
      refine TI.done (by kernel_rfl) ?_
      refine NX.sq ?_
      refine TS.ret' (by kernel_rfl) ?_
      refine NX.sqR ?_
      refine NX.sqR ?_
      have hF := Option.some.inj hF
      subst hF
      exact ⟨.inr rfl, rfl, iv 0, by kernel_rfl, WkV.flat0 (by kernel_rfl) (Nat.le_of_ble_eq_true rfl)⟩
    | false =>
      replace hF := of_neg hF rfl
      refine TS.condFP (o := (.tmp 12)) (by kernel_rfl) (by kernel_rfl) ?_
      refine TS.skip' (by kernel_rfl) ?_
      refine NX.sq ?_
      refine TS.seqP (by kernel_rfl) ?_
      refine TS.regionP (by kernel_rfl) ?_
      refine TI.runA 1 [4] (a2 := (st 20 [(4, iv (-1))])) (by kernel_rfl) ?_
      refine TI.done (by kernel_rfl) ?_
      refine NX.sq ?_
      refine TS.ret' (by kernel_rfl) ?_
      refine NX.sqR ?_
      have hF := Option.some.inj hF
      subst hF
      exact ⟨.inr rfl, rfl, iv (-1), by kernel_rfl, WkV.flat0 (by kernel_rfl) (Nat.le_of_ble_eq_true rfl)⟩
  | false =>
    replace hF := of_neg hF rfl
    refine TS.condFP (o := (.tmp 11)) (by kernel_rfl) (by kernel_rfl) ?_
    refine TS.skip' (by kernel_rfl) ?_
    refine NX.sq ?_
    refine TS.seqP (by kernel_rfl) ?_
    refine TS.seqP (by kernel_rfl) ?_
    refine TS.regionP (by kernel_rfl) ?_
    refine TI.runA 1 [0, 1, 13] (a2 := (st 20 [(0, iv p0), (1, iv p1), (13, .bool r3)])) (by kernel_rfl) ?_
    refine TI.done (by kernel_rfl) ?_
    refine NX.sq ?_
    cases r3 with
    | true =>
      replace hF := of_pos hF rfl
      refine TS.condTP (o := (.tmp 13)) (by kernel_rfl) (by kernel_rfl) ?_
      refine TS.seqP (by kernel_rfl) ?_
      refine TS.regionP (by kernel_rfl) ?_
      refine TI.runA 1 [4] (a2 := (st 20 [(4, iv 1)])) (by kernel_rfl) ?_
      refine TI.done (by kernel_rfl) ?_
      refine NX.sq ?_
      refine TS.ret' (by kernel_rfl) ?_
      refine NX.sqR ?_
      have hF := Option.some.inj hF
      subst hF
      exact ⟨.inr rfl, rfl, iv 1, by kernel_rfl, WkV.flat0 (by kernel_rfl) (Nat.le_of_ble_eq_true rfl)⟩
    | false =>
      replace hF := of_neg hF rfl
      refine TS.condFP (o := (.tmp 13)) (by kernel_rfl) (by kernel_rfl) ?_
      refine TS.skip' (by kernel_rfl) ?_
      refine NX.sq ?_
      refine TS.seqP (by kernel_rfl) ?_
      refine TS.seqP (by kernel_rfl) ?_
      refine TS.regionP (by kernel_rfl) ?_
      refine TI.runA 3 [0, 1, 16] (a2 := (st 20 [(0, iv p0), (1, iv p1), (16, .bool (decide (p0 < p1)))])) (by kernel_rfl) ?_
      refine TI.done (by kernel_rfl) ?_
      refine NX.sq ?_
      refine TS.condP (o := (.tmp 16)) (b := decide (p0 < p1)) (by kernel_rfl) (by kernel_rfl) (fun hc5 => ?_) (fun hc5 => ?_)
      · replace hF := of_pos hF hc5
        refine TS.seqP (by kernel_rfl) ?_
        refine TS.regionP (by kernel_rfl) ?_
        refine TI.runA 1 [4] (a2 := (st 20 [(4, iv (-1))])) (by kernel_rfl) ?_
        refine TI.done (by kernel_rfl) ?_
        refine NX.sq ?_
        refine TS.ret' (by kernel_rfl) ?_
        refine NX.sqR ?_
        have hF := Option.some.inj hF
        subst hF
        exact ⟨.inr rfl, rfl, iv (-1), by kernel_rfl, WkV.flat0 (by kernel_rfl) (Nat.le_of_ble_eq_true rfl)⟩
      · replace hF := of_neg hF hc5
        refine TS.skip' (by kernel_rfl) ?_
        refine NX.sq ?_
        refine TS.seqP (by kernel_rfl) ?_
        refine TS.seqP (by kernel_rfl) ?_
        refine TS.regionP (by kernel_rfl) ?_
        refine TI.runA 3 [19] (a2 := (st 20 [(19, .bool (decide (p0 > p1)))])) (by kernel_rfl) ?_
        refine TI.done (by kernel_rfl) ?_
        refine NX.sq ?_
        refine TS.condP (o := (.tmp 19)) (b := decide (p0 > p1)) (by kernel_rfl) (by kernel_rfl) (fun hc6 => ?_) (fun hc6 => ?_)
        · replace hF := of_pos hF hc6
          refine TS.seqP (by kernel_rfl) ?_
          refine TS.regionP (by kernel_rfl) ?_
          refine TI.runA 1 [4] (a2 := (st 20 [(4, iv 1)])) (by kernel_rfl) ?_
          refine TI.done (by kernel_rfl) ?_
          refine NX.sq ?_
          refine TS.ret' (by kernel_rfl) ?_
          refine NX.sqR ?_
          have hF := Option.some.inj hF
          subst hF
          exact ⟨.inr rfl, rfl, iv 1, by kernel_rfl, WkV.flat0 (by kernel_rfl) (Nat.le_of_ble_eq_true rfl)⟩
        · replace hF := of_neg hF hc6
          refine TS.skip' (by kernel_rfl) ?_
          refine NX.sq ?_
          refine TS.seqP (by kernel_rfl) ?_
          refine TS.regionP (by kernel_rfl) ?_
          refine TI.runA 1 [4] (a2 := (st 20 [(4, iv 0)])) (by kernel_rfl) ?_
          refine TI.done (by kernel_rfl) ?_
          refine NX.sq ?_
          refine TS.ret' (by kernel_rfl) ?_
          have hF := Option.some.inj hF
          subst hF
          exact ⟨.inr rfl, rfl, iv 0, by kernel_rfl, WkV.flat0 (by kernel_rfl) (Nat.le_of_ble_eq_true rfl)⟩
theorem C88 (p0 : Int) (p1 : Int) (r : Int) (hF : F88 p0 p1 = some r) : PureSim Try.prog 88 [iv p0, iv p1] [] (V88 0 r) (N88 0 r) :=
  PureSim.of_Fin Try.func88 (c := c88) (by kernel_rfl) (by kernel_rfl) 0 rfl [0, 1] [] (by kernel_rfl) (B88 p0 p1 r hF)

-- cmp.Or[int]
noncomputable def c87 : Code := Try.f87.code
def S87_0 (p0 : (List Int)) (v6 : Int) : CAct := (st 18 [(3, iv 0), (6, .slice (some ⟨0, 0, none⟩) (List.length p0) ANY), (7, iv (List.length p0 : Int)), (8, iv (w64 (v6 + 1)))])
def S87_1 (p0 : (List Int)) (v6 : Int) : CAct := (st 18 [(3, iv 0), (6, .slice (some ⟨0, 0, none⟩) (List.length p0) ANY), (7, iv (List.length p0 : Int)), (8, iv v6)])
def S87_2 (p0 : (List Int)) : CAct := (st 18 [(3, iv 0), (6, .slice (some ⟨0, 0, none⟩) (List.length p0) ANY), (7, iv (List.length p0 : Int)), (8, iv 0)])
def F87l0 (p0 : (List Int)) (v6 : Int) : Option (Int ⊕ Unit) :=
    if decide (v6 < (List.length p0 : Int)) then
      if (0 : Int) ≤ v6 ∧ v6 < (List.length p0 : Int) then
        some (List.getD p0 (Int.toNat v6) 0) >>= fun o15 =>
        if o15 != 0 then
          some (.inl o15)
        else
          F87l0 p0 (w64 (v6 + 1))
      else none
    else
      some (.inr ())
  partial_fixpoint
def F87 (p0 : (List Int)) : Option Int :=
  F87l0 p0 0 >>= fun r18 =>
  match r18 with
  | .inl o20 =>
    some o20
  | .inr o21 =>
    some 0
def V87 (b : Nat) (r : Int) : Value := iv r
def N87 (b : Nat) (r : Int) : List Blk := []
def P87l0 (p0 : (List Int)) (r : (Int ⊕ Unit)) : Post := fun e a h => (match r with | .inl q0 => e = .ret ∧ Wk Try.prog 1 1 a h (st 18 [(2, iv q0)]) [accB 3 (List.length p0) (List.flatMap e3 p0)] | .inr q0 => e = .exit 0 ∧ Wk Try.prog 1 1 a h (st 18 [(3, iv 0)]) [accB 3 (List.length p0) (List.flatMap e3 p0)])
theorem L87l0 (p0 : (List Int)) (v6 : Int) (r : (Int ⊕ Unit)) (hF : F87l0 p0 v6 = some r) : TL Try.prog 1 1 c87.s2.s2.s1.s2.bd.bd (S87_1 p0 v6) [accB 3 (List.length p0) (List.flatMap e3 p0)] (P87l0 p0 r) := by
  refine F87l0.partial_correctness p0 (motive := fun v6 r => TL Try.prog 1 1 c87.s2.s2.s1.s2.bd.bd (S87_1 p0 v6) [accB 3 (List.length p0) (List.flatMap e3 p0)] (P87l0 p0 r)) ?_ v6 r hF
  clear hF r v6
  intro again ih v6 r hF
  refine TL.round ?_
  refine TS.seqP (by kernel_rfl) ?_
  refine TS.regionP (by kernel_rfl) ?_
  refine TI.runA 1 [3, 6, 7, 8, 9] (a2 := (st 18 [(3, iv 0), (6, .slice (some ⟨0, 0, none⟩) (List.length p0) ANY), (7, iv (List.length p0 : Int)), (8, iv v6), (9, .bool (decide (v6 < (List.length p0 : Int))))])) (by kernel_rfl) ?_
  refine TI.done (by kernel_rfl) ?_
  refine NX.sq ?_
  refine TS.seqP (by kernel_rfl) ?_
  refine TS.condP (o := (.tmp 9)) (b := decide (v6 < (List.length p0 : Int))) (by kernel_rfl) (by kernel_rfl) (fun hc13 => ?_) (fun hc13 => ?_)
  · replace hF := of_pos hF hc13
    refine TS.skip' (by kernel_rfl) ?_
    refine NX.sq ?_
    refine TS.seqP (by kernel_rfl) ?_
    refine TS.blockP (id := 1) (by kernel_rfl) ?_
    refine TS.seqP (by kernel_rfl) ?_
    have hX := of_guard hF
    clear hF
    obtain ⟨hg14, hF⟩ := hX
    have hX := of_do hF
    clear hF
    obtain ⟨o15, h16, hF⟩ := hX
    replace h16 := Option.some.inj h16
    refine TS.regionP (by kernel_rfl) ?_
    refine TI.op (q := { val := .pointer (some ⟨0, 0 + (Int.toNat v6) * 1, none⟩) }) (q_ixS 0 0 ((Int.toNat v6) * 1) (by kernel_rfl) hg14) [3, 6, 7, 8, 10] [0] (a2 := (st 18 [(3, iv 0), (6, .slice (some ⟨0, 0, none⟩) (List.length p0) ANY), (7, iv (List.length p0 : Int)), (8, iv v6), (10, .pointer (some ⟨0, 0 + (Int.toNat v6) * 1, none⟩))])) (h2 := [accB 3 (List.length p0) (List.flatMap e3 p0)]) (by kernel_rfl) ?_
    refine TI.op (q := { val := iv o15 }) (q_eqv (q_ld1 (P := Try.prog) (hp := [accB 3 (List.length p0) (List.flatMap e3 p0)]) (t := 3) (b := 0) (off := 0 + (Int.toNat v6) * 1) (l := p0) (enc := e3) (s := 1) (T := 3) (i := Int.toNat v6) (k := 0) (by kernel_rfl) (accB_at (h := [accB 3 (List.length p0) (List.flatMap e3 p0)]) (n := List.length p0) (i := Int.toNat v6) (by kernel_rfl) (by first | omega | (simp only [List.length_set, List.length_replicate, List.length_cons, List.length_nil, List.length_append]; omega))) (by kernel_rfl) (fun _ => rfl) (by omega) (by decide) (by first | omega | (simp only [List.length_set, List.length_replicate, List.length_cons, List.length_nil, List.length_append]; omega)) 0) (congrArg (fun (z : Int) => ({ val := iv z } : QRes)) h16)) [3, 6, 7, 8, 11] [0] (a2 := (st 18 [(3, iv 0), (6, .slice (some ⟨0, 0, none⟩) (List.length p0) ANY), (7, iv (List.length p0 : Int)), (8, iv v6), (11, iv o15)])) (h2 := [accB 3 (List.length p0) (List.flatMap e3 p0)]) (by kernel_rfl) ?_
    refine TI.runA 1 [3, 5, 6, 7, 8] (a2 := (st 18 [(3, iv 0), (5, iv o15), (6, .slice (some ⟨0, 0, none⟩) (List.length p0) ANY), (7, iv (List.length p0 : Int)), (8, iv v6)])) (by kernel_rfl) ?_
    refine TI.done (by kernel_rfl) ?_
    refine NX.sq ?_
    refine TS.seqP (by kernel_rfl) ?_
    refine TS.regionP (by kernel_rfl) ?_
    refine TI.runA 3 [3, 5, 6, 7, 8, 14] (a2 := (st 18 [(3, iv 0), (5, iv o15), (6, .slice (some ⟨0, 0, none⟩) (List.length p0) ANY), (7, iv (List.length p0 : Int)), (8, iv v6), (14, .bool (o15 != 0))])) (by kernel_rfl) ?_
    refine TI.done (by kernel_rfl) ?_
    refine NX.sq ?_
    refine TS.condP (o := (.tmp 14)) (b := o15 != 0) (by kernel_rfl) (by kernel_rfl) (fun hc17 => ?_) (fun hc17 => ?_)
    · replace hF := of_pos hF hc17
      refine TS.seqP (by kernel_rfl) ?_
      refine TS.regionP (by kernel_rfl) ?_
      refine TI.runA 2 [2] (a2 := (st 18 [(2, iv o15)])) (by kernel_rfl) ?_
      refine TI.done (by kernel_rfl) ?_
      refine NX.sq ?_
      refine TS.ret' (by kernel_rfl) ?_
      refine NX.bkR ?_
      refine NX.sqR ?_
      have hF := Option.some.inj hF
      subst hF
      exact Rd.out (e := .ret) (by intro h; cases h) (And.intro rfl (Wk.anew (base := 1) (L := 1) (f := []) (by decide) (by decide) (Nat.le_of_ble_eq_true rfl) rfl (.cons (At.acc (by kernel_rfl) rfl (fun _ => rfl)) (.nil _)) (LRn.stx [2] [iv o15] [iv o15] (.cons (.flat (by kernel_rfl)) .nil) (by kernel_rfl) (by kernel_rfl) rfl) rfl rfl))
    · replace hF := of_neg hF hc17
      refine TS.skip' (by kernel_rfl) ?_
      refine NX.bk ?_
      refine NX.sq ?_
      refine TS.regionP (by kernel_rfl) ?_
      refine TI.runA 2 [3, 6, 7, 8] (a2 := (S87_0 p0 v6)) (by kernel_rfl) ?_
      refine TI.done (by kernel_rfl) ?_
      exact Rd.again (a2 := (S87_0 p0 v6)) (h2 := [accB 3 (List.length p0) (List.flatMap e3 p0)]) (Wk.anew (base := 1) (L := 1) (f := []) (by decide) (by decide) (Nat.le_of_ble_eq_true rfl) rfl (.cons (At.acc (by kernel_rfl) rfl (fun _ => rfl)) (.nil _)) (LRn.stx [3, 6, 7, 8] [iv 0, .slice (some ⟨0, 0, none⟩) (List.length p0) ANY, iv (List.length p0 : Int), iv (w64 (v6 + 1))] [iv 0, .slice (some ⟨0, 0, none⟩) (List.length p0) ANY, iv (List.length p0 : Int), iv (w64 (v6 + 1))] (.cons (.flat (by kernel_rfl)) (.cons (Rn.slice0 _ _ _ _ (Nat.le_of_ble_eq_true rfl) rfl) (.cons (.flat (by kernel_rfl)) (.cons (.flat (by kernel_rfl)) .nil)))) (by kernel_rfl) (by kernel_rfl) rfl) rfl rfl) (ih (w64 (v6 + 1)) _ hF)
  · replace hF := of_neg hF hc13
    refine TS.exit' (id := 0) (by kernel_rfl) ?_
    refine NX.sqX ?_
    have hF := Option.some.inj hF
    subst hF
    exact Rd.out (e := .exit 0) (by intro h; cases h) (And.intro rfl (Wk.anew (base := 1) (L := 1) (f := []) (by decide) (by decide) (Nat.le_of_ble_eq_true rfl) rfl (.cons (At.acc (by kernel_rfl) rfl (fun _ => rfl)) (.nil _)) (LRn.stx [3] [iv 0] [iv 0] (.cons (.flat (by kernel_rfl)) .nil) (by kernel_rfl) (by kernel_rfl) rfl) rfl rfl))
theorem B87 (p0 : (List Int)) (r : Int) (hF : F87 p0 = some r) : TS Try.prog 1 1 c87 (st 18 [(0, .slice (some ⟨0, 0, none⟩) (List.length p0) ANY)]) [accB 3 (List.length p0) (List.flatMap e3 p0)] (NX Try.prog 1 1 [] (FinP Try.prog Try.f87 1 (V87 1 r) (N87 1 r))) := by
  unfold F87 at hF
  refine TS.seqP (by kernel_rfl) ?_
  refine TS.regionP (by kernel_rfl) ?_
  refine TI.runA 1 [0] (a2 := (st 18 [(0, .slice (some ⟨0, 0, none⟩) (List.length p0) ANY)])) (by kernel_rfl) ?_
  refine TI.done (by kernel_rfl) ?_
  refine NX.sq ?_
  refine TS.seqP (by kernel_rfl) ?_
  refine TS.regionP (by kernel_rfl) ?_
  refine TI.runA 1 [0, 3] (a2 := (st 18 [(0, .slice (some ⟨0, 0, none⟩) (List.length p0) ANY), (3, iv 0)])) (by kernel_rfl) ?_
  refine TI.done (by kernel_rfl) ?_
  refine NX.sq ?_
  refine TS.seqP (by kernel_rfl) ?_
  refine TS.seqP (by kernel_rfl) ?_
  refine TS.regionP (by kernel_rfl) ?_
  refine TI.runA 3 [3, 6, 7, 8] (a2 := (S87_2 p0)) (by kernel_rfl) ?_
  refine TI.done (by kernel_rfl) ?_
  refine NX.sq ?_
  refine TS.blockP (id := 0) (by kernel_rfl) ?_
  have hX := of_do hF
  clear hF
  obtain ⟨r18, h19, hF⟩ := hX
  refine TS.loopP (by kernel_rfl) (TL.weak (a2 := (S87_2 p0)) (h2 := [accB 3 (List.length p0) (List.flatMap e3 p0)]) (Wk.anew (base := 1) (L := 1) (f := []) (by decide) (by decide) (Nat.le_of_ble_eq_true rfl) rfl (.cons (At.acc (by kernel_rfl) rfl (fun _ => rfl)) (.nil _)) (LRn.stx [3, 6, 7, 8] [iv 0, .slice (some ⟨0, 0, none⟩) (List.length p0) ANY, iv (List.length p0 : Int), iv 0] [iv 0, .slice (some ⟨0, 0, none⟩) (List.length p0) ANY, iv (List.length p0 : Int), iv 0] (.cons (.flat (by kernel_rfl)) (.cons (Rn.slice0 _ _ _ _ (Nat.le_of_ble_eq_true rfl) rfl) (.cons (.flat (by kernel_rfl)) (.cons (.flat (by kernel_rfl)) .nil)))) (by kernel_rfl) (by kernel_rfl) rfl) rfl rfl) (TL.post (L87l0 p0 0 r18 h19) ?_))
  rintro e a1 h1 hp
  rcases r18 with o20 | o21
  · skip
    obtain ⟨rfl, hw⟩ := hp
    refine ⟨(st 18 [(2, iv o20)]), [accB 3 (List.length p0) (List.flatMap e3 p0)], ?_, hw⟩
    refine NX.bkR ?_
    refine NX.sqR ?_
    have hF := Option.some.inj hF
    subst hF
    exact ⟨.inr rfl, rfl, iv o20, by kernel_rfl, WkV.flat0 (by kernel_rfl) (Nat.le_of_ble_eq_true rfl)⟩
  · skip
    obtain ⟨rfl, hw⟩ := hp
    refine ⟨(st 18 [(3, iv 0)]), [accB 3 (List.length p0) (List.flatMap e3 p0)], ?_, hw⟩
    refine NX.bkX ?_
    refine NX.sq ?_
    refine TS.seqP (by kernel_rfl) ?_
    refine TS.regionP (by kernel_rfl) ?_
    refine TI.runA 2 [2] (a2 := (st 18 [(2, iv 0)])) (by kernel_rfl) ?_
    refine TI.done (by kernel_rfl) ?_
    refine NX.sq ?_
    refine TS.ret' (by kernel_rfl) ?_
    have hF := Option.some.inj hF
    subst hF
    exact ⟨.inr rfl, rfl, iv 0, by kernel_rfl, WkV.flat0 (by kernel_rfl) (Nat.le_of_ble_eq_true rfl)⟩
theorem C87 (p0 : (List Int)) (r : Int) (hF : F87 p0 = some r) : PureSim Try.prog 87 [.slice (some ⟨0, 0, none⟩) (List.length p0) ANY] [accB 3 (List.length p0) (List.flatMap e3 p0)] (V87 1 r) (N87 1 r) :=
  PureSim.of_Fin Try.func87 (c := c87) (by kernel_rfl) (by kernel_rfl) 1 rfl [0] [0] (by kernel_rfl) (B87 p0 r hF)

-- (agonic/magnet.Choice).compare
noncomputable def c83 : Code := Try.f83.code
def F83 (p0 : Int) (p1 : Int) (p2 : Int) (p3 : Int) : Option Int :=
  F88 p0 p2 >>= fun r1 =>
  F88 p1 p3 >>= fun r3 =>
  F87 ([r1, r3]) >>= fun r5 =>
  some r5
def V83 (b : Nat) (r : Int) : Value := iv r
def N83 (b : Nat) (r : Int) : List Blk := []
theorem B83 (p0 : Int) (p1 : Int) (p2 : Int) (p3 : Int) (r : Int) (hF : F83 p0 p1 p2 p3 = some r) : TS Try.prog 0 0 c83 (st 17 [(0, ag [iv p0, iv p1]), (1, ag [iv p2, iv p3])]) [] (NX Try.prog 0 0 [] (FinP Try.prog Try.f83 0 (V83 0 r) (N83 0 r))) := by
  unfold F83 at hF
  refine TS.seqP (by kernel_rfl) ?_
  refine TS.regionP (by kernel_rfl) ?_
  refine TI.run 3 [2, 3] [0, 1] (a2 := (st 17 [(2, pt 0 0), (3, pt 1 0)])) (h2 := [cl 27 [iv p0, iv p1], cl 27 [iv p2, iv p3]]) (by kernel_rfl) ?_
  refine TI.done (by kernel_rfl) ?_
  refine NX.sq ?_
  refine TS.seqP (by kernel_rfl) ?_
  have hX := of_do hF
  clear hF
  obtain ⟨r1, h2, hF⟩ := hX
  have hX := of_do hF
  clear hF
  obtain ⟨r3, h4, hF⟩ := hX
  have hX := of_do hF
  clear hF
  obtain ⟨r5, h6, hF⟩ := hX
  have hT : ∀ e ∈ ([⟨88, [iv p0, iv p2], [cl 27 [iv p0, iv p1], cl 27 [iv p2, iv p3]], iv r1, []⟩, ⟨88, [iv p1, iv p3], [cl 27 [iv p0, iv p1], cl 27 [iv p2, iv p3]], iv r3, []⟩, ⟨87, [.slice (some ⟨2, 0, none⟩) 2 2], [cl 27 [iv p0, iv p1], cl 27 [iv p2, iv p3], cl 3 [iv r1, iv r3]], iv r5, []⟩] : List Entry), PureSim Try.prog e.g e.args e.h e.v e.new := by
    intro e he
    simp only [List.mem_cons, List.not_mem_nil, or_false] at he
    rcases he with rfl | rfl | rfl
    · exact PureSim.anyK (C88 _ _ _ h2) (by kernel_rfl)
    · exact PureSim.anyK (C88 _ _ _ h4) (by kernel_rfl)
    · exact (PureSim.ren (hc := [accB 3 (List.length ([r1, r3])) (List.flatMap e3 ([r1, r3]))]) (fun i => List.getD [(2, 0)] i (0, 0)) (C87 _ _ h6) (.cons (At.accU (by kernel_rfl) rfl (fun _ => rfl)) (.nil _)) (.cons (Rn.any _ _ _ _ _ _ (Nat.le_of_ble_eq_true rfl) rfl rfl (by decide)) .nil) (.flat (by kernel_rfl)) newflat_nil)
  refine TS.drawP [⟨88, [iv p0, iv p2], [cl 27 [iv p0, iv p1], cl 27 [iv p2, iv p3]], iv r1, []⟩, ⟨88, [iv p1, iv p3], [cl 27 [iv p0, iv p1], cl 27 [iv p2, iv p3]], iv r3, []⟩, ⟨87, [.slice (some ⟨2, 0, none⟩) 2 2], [cl 27 [iv p0, iv p1], cl 27 [iv p2, iv p3], cl 3 [iv r1, iv r3]], iv r5, []⟩] hT mixed (by kernel_rfl) 9 (by kernel_rfl) [4] [] (a2 := (st 17 [(4, iv r5)])) (h2 := [.dead, .dead, .dead]) ?_ ?_
  · refine QJ.run (s1 := (qs (st 17 [(2, pt 0 0), (3, pt 1 0), (5, pt 0 0), (6, iv p0), (7, pt 1 0), (8, iv p2)]) [cl 27 [iv p0, iv p1], cl 27 [iv p2, iv p3]] [] [])) 4 (by kernel_rfl) (by kernel_rfl) ?_
    refine QJ.op (q := { val := iv r1, new := [] }) (by decide) (qOf_call (g := 88) (args := [iv p0, iv p2]) (by kernel_rfl) lookC_hit) ?_
    refine QJ.run (s1 := (qs (st 17 [(2, pt 0 0), (3, pt 1 0), (5, pt 0 0), (6, iv p0), (7, pt 1 0), (8, iv p2), (9, iv r1), (10, pt 0 1), (11, iv p1), (12, pt 1 1), (13, iv p3)]) [cl 27 [iv p0, iv p1], cl 27 [iv p2, iv p3]] [] [])) 4 (by kernel_rfl) (by kernel_rfl) ?_
    refine QJ.done (by kernel_rfl) ⟨rfl, ?_⟩
    refine SJ.op (q := { val := iv r3, new := [] }) (by kernel_rfl) (qOf_call (g := 88) (args := [iv p1, iv p3]) (by kernel_rfl) (lookC_skip (by intro _ ha _; have hr := Option.some.inj (h2.symm.trans (Eq.trans (congr (congrArg F88 (show p0 = p1 from congrArg (leafI 0) ha)) (show p2 = p3 from congrArg (leafI 1) ha)) h4)); first | (subst hr; rfl) | (cases hr; done) | (cases hr; rfl)) lookC_hit)) ?_
    refine SJ.run (a3 := (st 17 [(2, pt 0 0), (3, pt 1 0), (5, pt 0 0), (6, iv p0), (7, pt 1 0), (8, iv p2), (9, iv r1), (10, pt 0 1), (11, iv p1), (12, pt 1 1), (13, iv p3), (14, iv r3), (15, .slice (some ⟨2, 0, none⟩) 2 2)])) (h3 := [cl 27 [iv p0, iv p1], cl 27 [iv p2, iv p3], cl 3 [iv r1, iv r3]]) 1 (by kernel_rfl) ?_
    refine SJ.op (q := { val := iv r5, new := [] }) (by kernel_rfl) (qOf_call (g := 87) (args := [.slice (some ⟨2, 0, none⟩) 2 2]) (by kernel_rfl) (lookC_skip (fun hg => absurd (show (88 : Nat) = 87 from hg) (by decide)) (lookC_skip (fun hg => absurd (show (88 : Nat) = 87 from hg) (by decide)) lookC_hit))) ?_
    refine SJ.last (by kernel_rfl)
  refine TS.ret' (by kernel_rfl) ?_
  have hF := Option.some.inj hF
  subst hF
  exact ⟨.inr rfl, rfl, iv r5, by kernel_rfl, WkV.flat0 (by kernel_rfl) (Nat.le_of_ble_eq_true rfl)⟩
theorem C83 (p0 : Int) (p1 : Int) (p2 : Int) (p3 : Int) (r : Int) (hF : F83 p0 p1 p2 p3 = some r) : PureSim Try.prog 83 [ag [iv p0, iv p1], ag [iv p2, iv p3]] [] (V83 0 r) (N83 0 r) :=
  PureSim.of_Fin Try.func83 (c := c83) (by kernel_rfl) (by kernel_rfl) 0 rfl [0, 1] [] (by kernel_rfl) (B83 p0 p1 p2 p3 r hF)
noncomputable def c89 : Code := Try.f89.code
def S89_0 (v137 : (List (Int × Int))) (p1 : Int) (p2 : Int) (v58 : Int) (v136 : Int) (o167 : (Int × Int)) (o170 : (Int × Int)) : CAct := (st 53 [(0, anyV 0 (List.length v137)), (1, iv p1), (2, iv p2), (3, .func (.func 83) ⟨[]⟩ ⟨[]⟩), (8, iv v58), (9, iv v136), (34, .bool true), (37, anyV 0 (List.length v137)), (38, iv v136), (39, anyV 0 (List.length v137)), (40, iv v136), (41, iv (w64 (v136 - 1))), (42, anyV 0 (List.length v137)), (43, iv v136), (44, iv (w64 (v136 - 1))), (45, .pointer (some ⟨0, 0 + (Int.toNat (w64 (v136 - 1))) * 2, none⟩)), (46, ag [iv o167.1, iv o167.2]), (47, anyV 0 (List.length v137)), (48, iv v136), (49, .pointer (some ⟨0, 0 + (Int.toNat v136) * 2, none⟩)), (50, ag [iv o170.1, iv o170.2]), (51, .pointer (some ⟨0, 0 + (Int.toNat v136) * 2, none⟩)), (52, .pointer (some ⟨0, 0 + (Int.toNat (w64 (v136 - 1))) * 2, none⟩))])
def S89_1 (v137 : (List (Int × Int))) (p1 : Int) (p2 : Int) (v58 : Int) (v136 : Int) (o167 : (Int × Int)) (o170 : (Int × Int)) : CAct := (st 53 [(0, anyV 0 (List.length v137)), (1, iv p1), (2, iv p2), (3, .func (.func 83) ⟨[]⟩ ⟨[]⟩), (8, iv v58), (9, iv v136), (34, .bool true), (37, anyV 0 (List.length v137)), (38, iv v136), (39, anyV 0 (List.length v137)), (40, iv v136), (41, iv (w64 (v136 - 1))), (42, anyV 0 (List.length v137)), (43, iv v136), (44, iv (w64 (v136 - 1))), (45, .pointer (some ⟨0, 0 + (Int.toNat (w64 (v136 - 1))) * 2, none⟩)), (46, ag [iv o167.1, iv o167.2]), (47, anyV 0 (List.length v137)), (48, iv v136), (49, .pointer (some ⟨0, 0 + (Int.toNat v136) * 2, none⟩)), (50, ag [iv o170.1, iv o170.2]), (51, .pointer (some ⟨0, 0 + (Int.toNat v136) * 2, none⟩))])
def S89_2 (v137 : (List (Int × Int))) (p1 : Int) (p2 : Int) (v58 : Int) (v136 : Int) (o167 : (Int × Int)) (o170 : (Int × Int)) : CAct := (st 53 [(0, anyV 0 (List.length v137)), (1, iv p1), (2, iv p2), (3, .func (.func 83) ⟨[]⟩ ⟨[]⟩), (8, iv v58), (9, iv v136), (34, .bool true), (37, anyV 0 (List.length v137)), (38, iv v136), (39, anyV 0 (List.length v137)), (40, iv v136), (41, iv (w64 (v136 - 1))), (42, anyV 0 (List.length v137)), (43, iv v136), (44, iv (w64 (v136 - 1))), (45, .pointer (some ⟨0, 0 + (Int.toNat (w64 (v136 - 1))) * 2, none⟩)), (46, ag [iv o167.1, iv o167.2]), (47, anyV 0 (List.length v137)), (48, iv v136), (49, .pointer (some ⟨0, 0 + (Int.toNat v136) * 2, none⟩)), (50, ag [iv o170.1, iv o170.2])])
def S89_3 (v137 : (List (Int × Int))) (p1 : Int) (p2 : Int) (v58 : Int) (v136 : Int) (o167 : (Int × Int)) : CAct := (st 53 [(0, anyV 0 (List.length v137)), (1, iv p1), (2, iv p2), (3, .func (.func 83) ⟨[]⟩ ⟨[]⟩), (8, iv v58), (9, iv v136), (34, .bool true), (37, anyV 0 (List.length v137)), (38, iv v136), (39, anyV 0 (List.length v137)), (40, iv v136), (41, iv (w64 (v136 - 1))), (42, anyV 0 (List.length v137)), (43, iv v136), (44, iv (w64 (v136 - 1))), (45, .pointer (some ⟨0, 0 + (Int.toNat (w64 (v136 - 1))) * 2, none⟩)), (46, ag [iv o167.1, iv o167.2]), (47, anyV 0 (List.length v137)), (48, iv v136), (49, .pointer (some ⟨0, 0 + (Int.toNat v136) * 2, none⟩))])
def S89_4 (v137 : (List (Int × Int))) (p1 : Int) (p2 : Int) (v58 : Int) (v136 : Int) (o167 : (Int × Int)) : CAct := (st 53 [(0, anyV 0 (List.length v137)), (1, iv p1), (2, iv p2), (3, .func (.func 83) ⟨[]⟩ ⟨[]⟩), (8, iv v58), (9, iv v136), (34, .bool true), (37, anyV 0 (List.length v137)), (38, iv v136), (39, anyV 0 (List.length v137)), (40, iv v136), (41, iv (w64 (v136 - 1))), (42, anyV 0 (List.length v137)), (43, iv v136), (44, iv (w64 (v136 - 1))), (45, .pointer (some ⟨0, 0 + (Int.toNat (w64 (v136 - 1))) * 2, none⟩)), (46, ag [iv o167.1, iv o167.2]), (47, anyV 0 (List.length v137)), (48, iv v136)])
def S89_5 (v137 : (List (Int × Int))) (p1 : Int) (p2 : Int) (v58 : Int) (v136 : Int) (o167 : (Int × Int)) : CAct := (st 53 [(0, anyV 0 (List.length v137)), (1, iv p1), (2, iv p2), (3, .func (.func 83) ⟨[]⟩ ⟨[]⟩), (8, iv v58), (9, iv v136), (34, .bool true), (37, anyV 0 (List.length v137)), (38, iv v136), (39, anyV 0 (List.length v137)), (40, iv v136), (41, iv (w64 (v136 - 1))), (42, anyV 0 (List.length v137)), (43, iv v136), (44, iv (w64 (v136 - 1))), (45, .pointer (some ⟨0, 0 + (Int.toNat (w64 (v136 - 1))) * 2, none⟩)), (46, ag [iv o167.1, iv o167.2])])
def S89_6 (v137 : (List (Int × Int))) (p1 : Int) (p2 : Int) (v58 : Int) (v136 : Int) : CAct := (st 53 [(0, anyV 0 (List.length v137)), (1, iv p1), (2, iv p2), (3, .func (.func 83) ⟨[]⟩ ⟨[]⟩), (8, iv v58), (9, iv v136), (34, .bool true), (37, anyV 0 (List.length v137)), (38, iv v136), (39, anyV 0 (List.length v137)), (40, iv v136), (41, iv (w64 (v136 - 1))), (42, anyV 0 (List.length v137)), (43, iv v136), (44, iv (w64 (v136 - 1))), (45, .pointer (some ⟨0, 0 + (Int.toNat (w64 (v136 - 1))) * 2, none⟩))])
def S89_7 (v137 : (List (Int × Int))) (p1 : Int) (p2 : Int) (v58 : Int) (v136 : Int) : CAct := (st 53 [(0, anyV 0 (List.length v137)), (1, iv p1), (2, iv p2), (3, .func (.func 83) ⟨[]⟩ ⟨[]⟩), (8, iv v58), (9, iv v136), (34, .bool true), (37, anyV 0 (List.length v137)), (38, iv v136), (39, anyV 0 (List.length v137)), (40, iv v136), (41, iv (w64 (v136 - 1))), (42, anyV 0 (List.length v137)), (43, iv v136), (44, iv (w64 (v136 - 1)))])
def H89_8 (v137 : (List (Int × Int))) (v136 : Int) (o167 : (Int × Int)) (o170 : (Int × Int)) : List Blk := [.cells 27 (List.flatMap e27 (List.set (List.set v137 (Int.toNat v136) (o167.1, o167.2)) (Int.toNat (w64 (v136 - 1))) (o170.1, o170.2)))]
def H89_9 (v137 : (List (Int × Int))) (v136 : Int) (o167 : (Int × Int)) : List Blk := [.cells 27 (List.flatMap e27 (List.set v137 (Int.toNat v136) (o167.1, o167.2)))]
def F89l1 (p1 : Int) (p2 : Int) (v58 : Int) (v136 : Int) (v137 : (List (Int × Int))) : Option (List (Int × Int)) :=
    (
      if decide (v136 > p1) then
        if (0 : Int) ≤ v136 ∧ v136 < (List.length v137 : Int) then
          some (List.getD v137 (Int.toNat v136) (0, 0)) >>= fun o158 =>
          if (0 : Int) ≤ w64 (v136 - 1) ∧ w64 (v136 - 1) < (List.length v137 : Int) then
            some (List.getD v137 (Int.toNat (w64 (v136 - 1))) (0, 0)) >>= fun o161 =>
            F83 o158.1 o158.2 o161.1 o161.2 >>= fun r163 =>
            some (decide (r163 < 0))
          else none
        else none
      else
        some (false)
    : Option Bool) >>= fun m165 =>
    if m165 then
      if (0 : Int) ≤ w64 (v136 - 1) ∧ w64 (v136 - 1) < (List.length v137 : Int) then
        some (List.getD v137 (Int.toNat (w64 (v136 - 1))) (0, 0)) >>= fun o167 =>
        if (0 : Int) ≤ v136 ∧ v136 < (List.length v137 : Int) then
          some (List.getD v137 (Int.toNat v136) (0, 0)) >>= fun o170 =>
          F89l1 p1 p2 v58 (w64 (v136 - 1)) (List.set (List.set v137 (Int.toNat v136) (o167.1, o167.2)) (Int.toNat (w64 (v136 - 1))) (o170.1, o170.2))
        else none
      else none
    else
      some v137
  partial_fixpoint
def F89l0 (p1 : Int) (p2 : Int) (v58 : Int) (v59 : (List (Int × Int))) : Option (List (Int × Int)) :=
    if decide (v58 < p2) then
      F89l1 p1 p2 v58 v58 v59 >>= fun r173 =>
      F89l0 p1 p2 (w64 (v58 + 1)) r173
    else
      some v59
  partial_fixpoint
def F89 (p0 : List (Int × Int)) (p1 p2 : Int) : Option (List (Int × Int)) :=
  F89l0 p1 p2 (w64 (p1 + 1)) p0 >>= fun r175 =>
  some r175
def P89l1 (p1 : Int) (p2 : Int) (v58 : Int) (r : (List (Int × Int))) : Post := fun e a h => e = .exit 2 ∧ Wk Try.prog 0 1 a h (st 53 [(0, anyV 0 (List.length r)), (1, iv p1), (2, iv p2), (3, .func (.func 83) ⟨[]⟩ ⟨[]⟩), (8, iv v58)]) [.cells 27 (List.flatMap e27 r)]
theorem L89l1 (p1 : Int) (p2 : Int) (v58 : Int) (v136 : Int) (v137 : (List (Int × Int))) (r : (List (Int × Int))) (hF : F89l1 p1 p2 v58 v136 v137 = some r) : TL Try.prog 0 1 c89.s2.bd.bd.s2.s1.bd.s2.bd.bd (st 53 [(0, anyV 0 (List.length v137)), (1, iv p1), (2, iv p2), (3, .func (.func 83) ⟨[]⟩ ⟨[]⟩), (8, iv v58), (9, iv v136)]) [.cells 27 (List.flatMap e27 v137)] (P89l1 p1 p2 v58 r) := by
  refine F89l1.partial_correctness p1 p2 v58 (motive := fun v136 v137 r => TL Try.prog 0 1 c89.s2.bd.bd.s2.s1.bd.s2.bd.bd (st 53 [(0, anyV 0 (List.length v137)), (1, iv p1), (2, iv p2), (3, .func (.func 83) ⟨[]⟩ ⟨[]⟩), (8, iv v58), (9, iv v136)]) [.cells 27 (List.flatMap e27 v137)] (P89l1 p1 p2 v58 r)) ?_ v136 v137 r hF
  clear hF r v136 v137
  intro again ih v136 v137 r hF
  refine TL.round ?_
  refine TS.seqP (by kernel_rfl) ?_
  refine TS.seqP (by kernel_rfl) ?_
  have hX := of_do hF
  clear hF
  obtain ⟨m165, hm172, hF⟩ := hX
  have hK : NX Try.prog 0 1 [.sq c89.s2.bd.bd.s2.s1.bd.s2.bd.bd.s1.s2, .sq c89.s2.bd.bd.s2.s1.bd.s2.bd.bd.s2] (Rd Try.prog 0 1 c89.s2.bd.bd.s2.s1.bd.s2.bd.bd (P89l1 p1 p2 v58 r)) .normal (st 53 [(0, anyV 0 (List.length v137)), (1, iv p1), (2, iv p2), (3, .func (.func 83) ⟨[]⟩ ⟨[]⟩), (8, iv v58), (9, iv v136), (34, .bool m165)]) [.cells 27 (List.flatMap e27 v137)] := by
    refine NX.sq ?_
    cases m165 with
    | true =>
      replace hF := of_pos hF rfl
      refine TS.condTP (o := (.tmp 34)) (by kernel_rfl) (by kernel_rfl) ?_
      refine TS.skip' (by kernel_rfl) ?_
      refine NX.sq ?_
      refine TS.seqP (by kernel_rfl) ?_
      refine TS.blockP (id := 3) (by kernel_rfl) ?_
      have hX := of_guard hF
      clear hF
      obtain ⟨hg166, hF⟩ := hX
      have hX := of_do hF
      clear hF
      obtain ⟨o167, h168, hF⟩ := hX
      replace h168 := Option.some.inj h168
      have hX := of_guard hF
      clear hF
      obtain ⟨hg169, hF⟩ := hX
      have hX := of_do hF
      clear hF
      obtain ⟨o170, h171, hF⟩ := hX
      replace h171 := Option.some.inj h171
      refine TS.drawE (id := 6) (b := true) (ops := c89.s2.bd.bd.s2.s1.bd.s2.bd.bd.s2.s1.bd.rops) (fin := (qs (S89_1 v137 p1 p2 v58 v136 o167 o170) (H89_9 v137 v136 o167) [] [(15, 0)])) (fin2 := (qs (S89_1 v137 p1 p2 v58 v136 o167 o170) (H89_9 v137 v136 o167) [] [(15, 0)])) (a1 := (S89_0 v137 p1 p2 v58 v136 o167 o170)) (h1 := (H89_8 v137 v136 o167 o170)) [] (fun e he => by cases he) mixed (by kernel_rfl) rfl 16 (by kernel_rfl) [(15, 0)] ?_ rfl (.inr ⟨?_, (by kernel_rfl)⟩) ?_ ?_
      · refine QI.run (s1 := (qs (S89_7 v137 p1 p2 v58 v136) [.cells 27 (List.flatMap e27 v137)] [] [])) 8 (by kernel_rfl) (by kernel_rfl) ?_
        refine QI.op (q := { val := .pointer (some ⟨0, 0 + (Int.toNat (w64 (v136 - 1))) * 2, none⟩) }) (s1 := (qs (S89_6 v137 p1 p2 v58 v136) [.cells 27 (List.flatMap e27 v137)] [] [])) (by decide) (q_ixS 0 0 ((Int.toNat (w64 (v136 - 1))) * 2) (by kernel_rfl) hg166) (by kernel_rfl) ?_
        refine QI.op (q := { val := ag [iv o167.1, iv o167.2] }) (s1 := (qs (S89_5 v137 p1 p2 v58 v136 o167) [.cells 27 (List.flatMap e27 v137)] [] [])) (by decide) (q_eqv (q_ldA (P := Try.prog) (hp := [.cells 27 (List.flatMap e27 v137)]) (t := 27) (b := 0) (off := 0 + (Int.toNat (w64 (v136 - 1))) * 2) (l := v137) (enc := e27) (s := 2) (T := 27) (i := Int.toNat (w64 (v136 - 1))) (by kernel_rfl) (by kernel_rfl) (by kernel_rfl) (by kernel_rfl) (fun _ => rfl) (by omega) (by first | omega | (simp only [List.length_set, List.length_replicate, List.length_cons, List.length_nil, List.length_append]; omega)) (0, 0)) (congrArg (fun (z : (Int × Int)) => ({ val := ag [iv z.1, iv z.2] } : QRes)) h168)) (by kernel_rfl) ?_
        refine QI.run (s1 := (qs (S89_4 v137 p1 p2 v58 v136 o167) [.cells 27 (List.flatMap e27 v137)] [] [])) 2 (by kernel_rfl) (by kernel_rfl) ?_
        refine QI.op (q := { val := .pointer (some ⟨0, 0 + (Int.toNat v136) * 2, none⟩) }) (s1 := (qs (S89_3 v137 p1 p2 v58 v136 o167) [.cells 27 (List.flatMap e27 v137)] [] [])) (by decide) (q_ixS 0 0 ((Int.toNat v136) * 2) (by kernel_rfl) hg169) (by kernel_rfl) ?_
        refine QI.op (q := { val := ag [iv o170.1, iv o170.2] }) (s1 := (qs (S89_2 v137 p1 p2 v58 v136 o167 o170) [.cells 27 (List.flatMap e27 v137)] [] [])) (by decide) (q_eqv (q_ldA (P := Try.prog) (hp := [.cells 27 (List.flatMap e27 v137)]) (t := 27) (b := 0) (off := 0 + (Int.toNat v136) * 2) (l := v137) (enc := e27) (s := 2) (T := 27) (i := Int.toNat v136) (by kernel_rfl) (by kernel_rfl) (by kernel_rfl) (by kernel_rfl) (fun _ => rfl) (by omega) (by first | omega | (simp only [List.length_set, List.length_replicate, List.length_cons, List.length_nil, List.length_append]; omega)) (0, 0)) (congrArg (fun (z : (Int × Int)) => ({ val := ag [iv z.1, iv z.2] } : QRes)) h171)) (by kernel_rfl) ?_
        refine QI.op (q := { val := .pointer (some ⟨0, 0 + (Int.toNat v136) * 2, none⟩) }) (s1 := (qs (S89_1 v137 p1 p2 v58 v136 o167 o170) [.cells 27 (List.flatMap e27 v137)] [] [])) (by decide) (q_ixS 0 0 ((Int.toNat v136) * 2) (by kernel_rfl) hg169) (by kernel_rfl) ?_
        refine QI.op (q := { val := undef, upd := some (0, .cells 27 (List.flatMap e27 (List.set v137 (Int.toNat v136) (o167.1, o167.2)))) }) (s1 := (qs (S89_1 v137 p1 p2 v58 v136 o167 o170) (H89_9 v137 v136 o167) [] [(15, 0)])) (by decide) (q_st (P := Try.prog) (base := 0) (hp := [.cells 27 (List.flatMap e27 v137)]) (t := 27) (b := 0) (off := 0 + (Int.toNat v136) * 2) (l := v137) (enc := e27) (s := 2) (T := 27) (i := Int.toNat v136) (k := 0) (n := 2) (y := ag [iv o167.1, iv o167.2]) (xs := [iv o167.1, iv o167.2]) (0, 0) (o167.1, o167.2) (by kernel_rfl) (by kernel_rfl) (by decide) (by kernel_rfl) (by kernel_rfl) rfl (by kernel_rfl) (fun _ => rfl) (by omega) (Nat.le_of_ble_eq_true rfl) (by first | omega | (simp only [List.length_set, List.length_replicate, List.length_cons, List.length_nil, List.length_append]; omega)) rfl) (by kernel_rfl) ?_
        exact QI.done (by kernel_rfl)
      · refine QI.run (s1 := (qs (S89_7 v137 p1 p2 v58 v136) [.cells 27 (List.flatMap e27 v137)] [] [])) 8 (by kernel_rfl) (by kernel_rfl) ?_
        refine QI.op (q := { val := .pointer (some ⟨0, 0 + (Int.toNat (w64 (v136 - 1))) * 2, none⟩) }) (s1 := (qs (S89_6 v137 p1 p2 v58 v136) [.cells 27 (List.flatMap e27 v137)] [] [])) (by decide) (q_ixS 0 0 ((Int.toNat (w64 (v136 - 1))) * 2) (by kernel_rfl) hg166) (by kernel_rfl) ?_
        refine QI.op (q := { val := ag [iv o167.1, iv o167.2] }) (s1 := (qs (S89_5 v137 p1 p2 v58 v136 o167) [.cells 27 (List.flatMap e27 v137)] [] [])) (by decide) (q_eqv (q_ldA (P := Try.prog) (hp := [.cells 27 (List.flatMap e27 v137)]) (t := 27) (b := 0) (off := 0 + (Int.toNat (w64 (v136 - 1))) * 2) (l := v137) (enc := e27) (s := 2) (T := 27) (i := Int.toNat (w64 (v136 - 1))) (by kernel_rfl) (by kernel_rfl) (by kernel_rfl) (by kernel_rfl) (fun _ => rfl) (by omega) (by first | omega | (simp only [List.length_set, List.length_replicate, List.length_cons, List.length_nil, List.length_append]; omega)) (0, 0)) (congrArg (fun (z : (Int × Int)) => ({ val := ag [iv z.1, iv z.2] } : QRes)) h168)) (by kernel_rfl) ?_
        refine QI.run (s1 := (qs (S89_4 v137 p1 p2 v58 v136 o167) [.cells 27 (List.flatMap e27 v137)] [] [])) 2 (by kernel_rfl) (by kernel_rfl) ?_
        refine QI.op (q := { val := .pointer (some ⟨0, 0 + (Int.toNat v136) * 2, none⟩) }) (s1 := (qs (S89_3 v137 p1 p2 v58 v136 o167) [.cells 27 (List.flatMap e27 v137)] [] [])) (by decide) (q_ixS 0 0 ((Int.toNat v136) * 2) (by kernel_rfl) hg169) (by kernel_rfl) ?_
        refine QI.op (q := { val := ag [iv o170.1, iv o170.2] }) (s1 := (qs (S89_2 v137 p1 p2 v58 v136 o167 o170) [.cells 27 (List.flatMap e27 v137)] [] [])) (by decide) (q_eqv (q_ldA (P := Try.prog) (hp := [.cells 27 (List.flatMap e27 v137)]) (t := 27) (b := 0) (off := 0 + (Int.toNat v136) * 2) (l := v137) (enc := e27) (s := 2) (T := 27) (i := Int.toNat v136) (by kernel_rfl) (by kernel_rfl) (by kernel_rfl) (by kernel_rfl) (fun _ => rfl) (by omega) (by first | omega | (simp only [List.length_set, List.length_replicate, List.length_cons, List.length_nil, List.length_append]; omega)) (0, 0)) (congrArg (fun (z : (Int × Int)) => ({ val := ag [iv z.1, iv z.2] } : QRes)) h171)) (by kernel_rfl) ?_
        refine QI.op (q := { val := .pointer (some ⟨0, 0 + (Int.toNat v136) * 2, none⟩) }) (s1 := (qs (S89_1 v137 p1 p2 v58 v136 o167 o170) [.cells 27 (List.flatMap e27 v137)] [] [])) (by decide) (q_ixS 0 0 ((Int.toNat v136) * 2) (by kernel_rfl) hg169) (by kernel_rfl) ?_
        refine QI.op (q := { val := undef, upd := some (0, .cells 27 (List.flatMap e27 (List.set v137 (Int.toNat v136) (o167.1, o167.2)))) }) (s1 := (qs (S89_1 v137 p1 p2 v58 v136 o167 o170) (H89_9 v137 v136 o167) [] [(15, 0)])) (by decide) (q_st (P := Try.prog) (base := 0) (hp := [.cells 27 (List.flatMap e27 v137)]) (t := 27) (b := 0) (off := 0 + (Int.toNat v136) * 2) (l := v137) (enc := e27) (s := 2) (T := 27) (i := Int.toNat v136) (k := 0) (n := 2) (y := ag [iv o167.1, iv o167.2]) (xs := [iv o167.1, iv o167.2]) (0, 0) (o167.1, o167.2) (by kernel_rfl) (by kernel_rfl) (by decide) (by kernel_rfl) (by kernel_rfl) rfl (by kernel_rfl) (fun _ => rfl) (by omega) (Nat.le_of_ble_eq_true rfl) (by first | omega | (simp only [List.length_set, List.length_replicate, List.length_cons, List.length_nil, List.length_append]; omega)) rfl) (by kernel_rfl) ?_
        exact QI.done (by kernel_rfl)
      · refine SI.op (q := { val := .pointer (some ⟨0, 0 + (Int.toNat (w64 (v136 - 1))) * 2, none⟩) }) (a2 := (S89_0 v137 p1 p2 v58 v136 o167 o170)) (h2 := (H89_9 v137 v136 o167)) (by kernel_rfl) (q_ixS 0 0 ((Int.toNat (w64 (v136 - 1))) * 2) (by kernel_rfl) hg166) (by kernel_rfl) (by kernel_rfl) ?_
        refine SI.op (q := { val := undef, upd := some (0, .cells 27 (List.flatMap e27 (List.set (List.set v137 (Int.toNat v136) (o167.1, o167.2)) (Int.toNat (w64 (v136 - 1))) (o170.1, o170.2)))) }) (a2 := (S89_0 v137 p1 p2 v58 v136 o167 o170)) (h2 := (H89_8 v137 v136 o167 o170)) (by kernel_rfl) (q_st (P := Try.prog) (base := 0) (hp := (H89_9 v137 v136 o167)) (t := 27) (b := 0) (off := 0 + (Int.toNat (w64 (v136 - 1))) * 2) (l := List.set v137 (Int.toNat v136) (o167.1, o167.2)) (enc := e27) (s := 2) (T := 27) (i := Int.toNat (w64 (v136 - 1))) (k := 0) (n := 2) (y := ag [iv o170.1, iv o170.2]) (xs := [iv o170.1, iv o170.2]) (0, 0) (o170.1, o170.2) (by kernel_rfl) (by kernel_rfl) (by decide) (by kernel_rfl) (by kernel_rfl) rfl (by kernel_rfl) (fun _ => rfl) (by omega) (Nat.le_of_ble_eq_true rfl) (by first | omega | (simp only [List.length_set, List.length_replicate, List.length_cons, List.length_nil, List.length_append]; omega)) rfl) (by kernel_rfl) (by kernel_rfl) ?_
        exact SI.done (by kernel_rfl)
      refine NX.bk ?_
      refine NX.sq ?_
      refine TS.regionP (by kernel_rfl) ?_
      refine TI.runA 3 [0, 1, 2, 3, 8, 9] (a2 := (st 53 [(0, anyV 0 (List.length v137)), (1, iv p1), (2, iv p2), (3, .func (.func 83) ⟨[]⟩ ⟨[]⟩), (8, iv v58), (9, iv (w64 (v136 - 1)))])) (by kernel_rfl) ?_
      refine TI.done (by kernel_rfl) ?_
      exact Rd.again (a2 := (st 53 [(0, anyV 0 (List.length (List.set (List.set v137 (Int.toNat v136) (o167.1, o167.2)) (Int.toNat (w64 (v136 - 1))) (o170.1, o170.2)))), (1, iv p1), (2, iv p2), (3, .func (.func 83) ⟨[]⟩ ⟨[]⟩), (8, iv v58), (9, iv (w64 (v136 - 1)))])) (h2 := (H89_8 v137 v136 o167 o170)) (Wk.anew (base := 0) (L := 1) (f := []) (by decide) (by decide) (Nat.le_of_ble_eq_true rfl) rfl (.cons (At.blk (by kernel_rfl) (RnB.list (fun _ => rfl))) (.nil _)) (LRn.stx [0, 1, 2, 3, 8, 9] [anyV 0 (List.length (List.set (List.set v137 (Int.toNat v136) (o167.1, o167.2)) (Int.toNat (w64 (v136 - 1))) (o170.1, o170.2))), iv p1, iv p2, .func (.func 83) ⟨[]⟩ ⟨[]⟩, iv v58, iv (w64 (v136 - 1))] [anyV 0 (List.length v137), iv p1, iv p2, .func (.func 83) ⟨[]⟩ ⟨[]⟩, iv v58, iv (w64 (v136 - 1))] (.cons (Rn.anyV (Nat.le_of_ble_eq_true rfl) rfl (by simp only [List.length_set])) (.cons (.flat (by kernel_rfl)) (.cons (.flat (by kernel_rfl)) (.cons (Rn.func' .nil .nil) (.cons (.flat (by kernel_rfl)) (.cons (.flat (by kernel_rfl)) .nil)))))) (by kernel_rfl) (by kernel_rfl) rfl) rfl rfl) (ih (w64 (v136 - 1)) (List.set (List.set v137 (Int.toNat v136) (o167.1, o167.2)) (Int.toNat (w64 (v136 - 1))) (o170.1, o170.2)) _ hF)
    | false =>
      replace hF := of_neg hF rfl
      refine TS.condFP (o := (.tmp 34)) (by kernel_rfl) (by kernel_rfl) ?_
      refine TS.exit' (id := 2) (by kernel_rfl) ?_
      refine NX.sqX ?_
      have hF := Option.some.inj hF
      subst hF
      exact Rd.out (e := .exit 2) (by intro h; cases h) (And.intro rfl (Wk.anew (base := 0) (L := 1) (f := []) (by decide) (by decide) (Nat.le_of_ble_eq_true rfl) rfl (.cons (At.blk (by kernel_rfl) (RnB.list (fun _ => rfl))) (.nil _)) (LRn.stx [0, 1, 2, 3, 8] [anyV 0 (List.length v137), iv p1, iv p2, .func (.func 83) ⟨[]⟩ ⟨[]⟩, iv v58] [anyV 0 (List.length v137), iv p1, iv p2, .func (.func 83) ⟨[]⟩ ⟨[]⟩, iv v58] (.cons (Rn.anyV (Nat.le_of_ble_eq_true rfl) rfl (by simp only [List.length_set])) (.cons (.flat (by kernel_rfl)) (.cons (.flat (by kernel_rfl)) (.cons (Rn.func' .nil .nil) (.cons (.flat (by kernel_rfl)) .nil))))) (by kernel_rfl) (by kernel_rfl) rfl) rfl rfl))
  rcases Bool.eq_false_or_eq_true (decide (v136 > p1)) with hc156 | hc156
  · replace hm172 := of_pos hm172 hc156
    have hX := of_guard hm172
    clear hm172
    obtain ⟨hg157, hm172⟩ := hX
    have hX := of_do hm172
    clear hm172
    obtain ⟨o158, h159, hm172⟩ := hX
    replace h159 := Option.some.inj h159
    have hX := of_guard hm172
    clear hm172
    obtain ⟨hg160, hm172⟩ := hX
    have hX := of_do hm172
    clear hm172
    obtain ⟨o161, h162, hm172⟩ := hX
    replace h162 := Option.some.inj h162
    have hX := of_do hm172
    clear hm172
    obtain ⟨r163, h164, hm172⟩ := hX
    have hm172 := Option.some.inj hm172
    subst hm172
    have hT : ∀ e ∈ ([⟨83, [ag [iv o158.1, iv o158.2], ag [iv o161.1, iv o161.2]], [.cells 27 (List.flatMap e27 v137)], iv r163, []⟩] : List Entry), PureSim Try.prog e.g e.args e.h e.v e.new := by
      intro e he
      simp only [List.mem_cons, List.not_mem_nil, or_false] at he
      rcases he with rfl
      · exact PureSim.anyK (C83 _ _ _ _ _ h164) (by kernel_rfl)
    refine TS.drawP [⟨83, [ag [iv o158.1, iv o158.2], ag [iv o161.1, iv o161.2]], [.cells 27 (List.flatMap e27 v137)], iv r163, []⟩] hT mixed (by kernel_rfl) 14 (by kernel_rfl) [0, 1, 2, 3, 8, 9, 34] [0] (a2 := (st 53 [(0, anyV 0 (List.length v137)), (1, iv p1), (2, iv p2), (3, .func (.func 83) ⟨[]⟩ ⟨[]⟩), (8, iv v58), (9, iv v136), (34, .bool (decide (r163 < 0)))])) (h2 := [.cells 27 (List.flatMap e27 v137)]) ?_ ?_
    · refine QJ.run (s1 := (qs (st 53 [(0, anyV 0 (List.length v137)), (1, iv p1), (2, iv p2), (3, .func (.func 83) ⟨[]⟩ ⟨[]⟩), (8, iv v58), (9, iv v136), (18, iv v136), (19, iv p1)]) [.cells 27 (List.flatMap e27 v137)] [] [])) 2 (by kernel_rfl) (by kernel_rfl) ?_
      refine QJ.op (q := { val := .bool true }) (by decide) (q_conv (e := decide (v136 > p1)) (b := true) (by kernel_rfl) hc156) ?_
      refine QJ.run (s1 := (qs (st 53 [(0, anyV 0 (List.length v137)), (1, iv p1), (2, iv p2), (3, .func (.func 83) ⟨[]⟩ ⟨[]⟩), (8, iv v58), (9, iv v136), (18, iv v136), (19, iv p1), (20, .bool true), (21, .bool true), (22, .func (.func 83) ⟨[]⟩ ⟨[]⟩), (23, anyV 0 (List.length v137)), (24, iv v136)]) [.cells 27 (List.flatMap e27 v137)] [] [])) 4 (by kernel_rfl) (by kernel_rfl) ?_
      refine QJ.op (q := { val := .pointer (some ⟨0, 0 + (Int.toNat v136) * 2, none⟩) }) (by decide) (q_ixS 0 0 ((Int.toNat v136) * 2) (by kernel_rfl) hg157) ?_
      refine QJ.op (q := { val := ag [iv o158.1, iv o158.2] }) (by decide) (q_eqv (q_ldA (P := Try.prog) (hp := [.cells 27 (List.flatMap e27 v137)]) (t := 27) (b := 0) (off := 0 + (Int.toNat v136) * 2) (l := v137) (enc := e27) (s := 2) (T := 27) (i := Int.toNat v136) (by kernel_rfl) (by kernel_rfl) (by kernel_rfl) (by kernel_rfl) (fun _ => rfl) (by omega) (by first | omega | (simp only [List.length_set, List.length_replicate, List.length_cons, List.length_nil, List.length_append]; omega)) (0, 0)) (congrArg (fun (z : (Int × Int)) => ({ val := ag [iv z.1, iv z.2] } : QRes)) h159)) ?_
      refine QJ.run (s1 := (qs (st 53 [(0, anyV 0 (List.length v137)), (1, iv p1), (2, iv p2), (3, .func (.func 83) ⟨[]⟩ ⟨[]⟩), (8, iv v58), (9, iv v136), (18, iv v136), (19, iv p1), (20, .bool true), (21, .bool true), (22, .func (.func 83) ⟨[]⟩ ⟨[]⟩), (23, anyV 0 (List.length v137)), (24, iv v136), (25, .pointer (some ⟨0, 0 + (Int.toNat v136) * 2, none⟩)), (26, ag [iv o158.1, iv o158.2]), (27, anyV 0 (List.length v137)), (28, iv v136), (29, iv (w64 (v136 - 1)))]) [.cells 27 (List.flatMap e27 v137)] [] [])) 3 (by kernel_rfl) (by kernel_rfl) ?_
      refine QJ.op (q := { val := .pointer (some ⟨0, 0 + (Int.toNat (w64 (v136 - 1))) * 2, none⟩) }) (by decide) (q_ixS 0 0 ((Int.toNat (w64 (v136 - 1))) * 2) (by kernel_rfl) hg160) ?_
      refine QJ.op (q := { val := ag [iv o161.1, iv o161.2] }) (by decide) (q_eqv (q_ldA (P := Try.prog) (hp := [.cells 27 (List.flatMap e27 v137)]) (t := 27) (b := 0) (off := 0 + (Int.toNat (w64 (v136 - 1))) * 2) (l := v137) (enc := e27) (s := 2) (T := 27) (i := Int.toNat (w64 (v136 - 1))) (by kernel_rfl) (by kernel_rfl) (by kernel_rfl) (by kernel_rfl) (fun _ => rfl) (by omega) (by first | omega | (simp only [List.length_set, List.length_replicate, List.length_cons, List.length_nil, List.length_append]; omega)) (0, 0)) (congrArg (fun (z : (Int × Int)) => ({ val := ag [iv z.1, iv z.2] } : QRes)) h162)) ?_
      refine QJ.done (by kernel_rfl) ⟨rfl, ?_⟩
      refine SJ.op (q := { val := iv r163, new := [] }) (by kernel_rfl) (qOf_call (g := 83) (args := [ag [iv o158.1, iv o158.2], ag [iv o161.1, iv o161.2]]) (by kernel_rfl) lookC_hit) ?_
      refine SJ.last (by kernel_rfl)
    exact hK
  · replace hm172 := of_neg hm172 hc156
    have hm172 := Option.some.inj hm172
    subst hm172
    refine TS.drawP [] (fun e he => by cases he) mixed (by kernel_rfl) 14 (by kernel_rfl) [0, 1, 2, 3, 8, 9, 34] [0] (a2 := (st 53 [(0, anyV 0 (List.length v137)), (1, iv p1), (2, iv p2), (3, .func (.func 83) ⟨[]⟩ ⟨[]⟩), (8, iv v58), (9, iv v136), (34, .bool false)])) (h2 := [.cells 27 (List.flatMap e27 v137)]) ?_ ?_
    · refine QJ.run (s1 := (qs (st 53 [(0, anyV 0 (List.length v137)), (1, iv p1), (2, iv p2), (3, .func (.func 83) ⟨[]⟩ ⟨[]⟩), (8, iv v58), (9, iv v136), (18, iv v136), (19, iv p1)]) [.cells 27 (List.flatMap e27 v137)] [] [])) 2 (by kernel_rfl) (by kernel_rfl) ?_
      refine QJ.op (q := { val := .bool false }) (by decide) (q_conv (e := decide (v136 > p1)) (b := false) (by kernel_rfl) hc156) ?_
      refine QJ.run (s1 := (qs (st 53 [(0, anyV 0 (List.length v137)), (1, iv p1), (2, iv p2), (3, .func (.func 83) ⟨[]⟩ ⟨[]⟩), (8, iv v58), (9, iv v136), (18, iv v136), (19, iv p1), (20, .bool false), (21, .bool false), (22, undef), (23, undef), (24, undef), (25, undef), (26, undef), (27, undef), (28, undef), (29, undef), (30, undef), (31, undef)]) [.cells 27 (List.flatMap e27 v137)] [] [])) 11 (by kernel_rfl) (by kernel_rfl) ?_
      refine QJ.done (by kernel_rfl) ⟨rfl, ?_⟩
      refine SJ.last (by kernel_rfl)
    exact hK
def P89l0 (p1 : Int) (p2 : Int) (r : (List (Int × Int))) : Post := fun e a h => e = .exit 0 ∧ Wk Try.prog 0 1 a h (st 53 [(0, anyV 0 (List.length r))]) [.cells 27 (List.flatMap e27 r)]
theorem L89l0 (p1 : Int) (p2 : Int) (v58 : Int) (v59 : (List (Int × Int))) (r : (List (Int × Int))) (hF : F89l0 p1 p2 v58 v59 = some r) : TL Try.prog 0 1 c89.s2.bd.bd (st 53 [(0, anyV 0 (List.length v59)), (1, iv p1), (2, iv p2), (3, .func (.func 83) ⟨[]⟩ ⟨[]⟩), (8, iv v58)]) [.cells 27 (List.flatMap e27 v59)] (P89l0 p1 p2 r) := by
  refine F89l0.partial_correctness p1 p2 (motive := fun v58 v59 r => TL Try.prog 0 1 c89.s2.bd.bd (st 53 [(0, anyV 0 (List.length v59)), (1, iv p1), (2, iv p2), (3, .func (.func 83) ⟨[]⟩ ⟨[]⟩), (8, iv v58)]) [.cells 27 (List.flatMap e27 v59)] (P89l0 p1 p2 r)) ?_ v58 v59 r hF
  clear hF r v58 v59
  intro again ih v58 v59 r hF
  refine TL.round ?_
  refine TS.seqP (by kernel_rfl) ?_
  refine TS.seqP (by kernel_rfl) ?_
  refine TS.regionP (by kernel_rfl) ?_
  refine TI.runA 3 [0, 1, 2, 3, 8, 14] (a2 := (st 53 [(0, anyV 0 (List.length v59)), (1, iv p1), (2, iv p2), (3, .func (.func 83) ⟨[]⟩ ⟨[]⟩), (8, iv v58), (14, .bool (decide (v58 < p2)))])) (by kernel_rfl) ?_
  refine TI.done (by kernel_rfl) ?_
  refine NX.sq ?_
  refine TS.condP (o := (.tmp 14)) (b := decide (v58 < p2)) (by kernel_rfl) (by kernel_rfl) (fun hc118 => ?_) (fun hc118 => ?_)
  · replace hF := of_pos hF hc118
    refine TS.skip' (by kernel_rfl) ?_
    refine NX.sq ?_
    refine TS.seqP (by kernel_rfl) ?_
    refine TS.blockP (id := 1) (by kernel_rfl) ?_
    refine TS.seqP (by kernel_rfl) ?_
    refine TS.regionP (by kernel_rfl) ?_
    refine TI.runA 2 [0, 1, 2, 3, 8, 9] (a2 := (st 53 [(0, anyV 0 (List.length v59)), (1, iv p1), (2, iv p2), (3, .func (.func 83) ⟨[]⟩ ⟨[]⟩), (8, iv v58), (9, iv v58)])) (by kernel_rfl) ?_
    refine TI.done (by kernel_rfl) ?_
    refine NX.sq ?_
    refine TS.blockP (id := 2) (by kernel_rfl) ?_
    have hX := of_do hF
    clear hF
    obtain ⟨r173, h174, hF⟩ := hX
    refine TS.loopP (by kernel_rfl) (TL.weak (a2 := (st 53 [(0, anyV 0 (List.length v59)), (1, iv p1), (2, iv p2), (3, .func (.func 83) ⟨[]⟩ ⟨[]⟩), (8, iv v58), (9, iv v58)])) (h2 := [.cells 27 (List.flatMap e27 v59)]) (Wk.anew (base := 0) (L := 1) (f := []) (by decide) (by decide) (Nat.le_of_ble_eq_true rfl) rfl (.cons (At.blk (by kernel_rfl) (RnB.list (fun _ => rfl))) (.nil _)) (LRn.stx [0, 1, 2, 3, 8, 9] [anyV 0 (List.length v59), iv p1, iv p2, .func (.func 83) ⟨[]⟩ ⟨[]⟩, iv v58, iv v58] [anyV 0 (List.length v59), iv p1, iv p2, .func (.func 83) ⟨[]⟩ ⟨[]⟩, iv v58, iv v58] (.cons (Rn.anyV (Nat.le_of_ble_eq_true rfl) rfl (by simp only [List.length_set])) (.cons (.flat (by kernel_rfl)) (.cons (.flat (by kernel_rfl)) (.cons (Rn.func' .nil .nil) (.cons (.flat (by kernel_rfl)) (.cons (.flat (by kernel_rfl)) .nil)))))) (by kernel_rfl) (by kernel_rfl) rfl) rfl rfl) (TL.post (L89l1 p1 p2 v58 v58 v59 r173 h174) ?_))
    rintro e a1 h1 hp
    obtain ⟨rfl, hw⟩ := hp
    refine ⟨(st 53 [(0, anyV 0 (List.length r173)), (1, iv p1), (2, iv p2), (3, .func (.func 83) ⟨[]⟩ ⟨[]⟩), (8, iv v58)]), [.cells 27 (List.flatMap e27 r173)], ?_, hw⟩
    refine NX.bkX ?_
    refine NX.bk ?_
    refine NX.sq ?_
    refine TS.regionP (by kernel_rfl) ?_
    refine TI.runA 3 [0, 1, 2, 3, 8] (a2 := (st 53 [(0, anyV 0 (List.length r173)), (1, iv p1), (2, iv p2), (3, .func (.func 83) ⟨[]⟩ ⟨[]⟩), (8, iv (w64 (v58 + 1)))])) (by kernel_rfl) ?_
    refine TI.done (by kernel_rfl) ?_
    exact Rd.again (a2 := (st 53 [(0, anyV 0 (List.length r173)), (1, iv p1), (2, iv p2), (3, .func (.func 83) ⟨[]⟩ ⟨[]⟩), (8, iv (w64 (v58 + 1)))])) (h2 := [.cells 27 (List.flatMap e27 r173)]) (Wk.anew (base := 0) (L := 1) (f := []) (by decide) (by decide) (Nat.le_of_ble_eq_true rfl) rfl (.cons (At.blk (by kernel_rfl) (RnB.list (fun _ => rfl))) (.nil _)) (LRn.stx [0, 1, 2, 3, 8] [anyV 0 (List.length r173), iv p1, iv p2, .func (.func 83) ⟨[]⟩ ⟨[]⟩, iv (w64 (v58 + 1))] [anyV 0 (List.length r173), iv p1, iv p2, .func (.func 83) ⟨[]⟩ ⟨[]⟩, iv (w64 (v58 + 1))] (.cons (Rn.anyV (Nat.le_of_ble_eq_true rfl) rfl (by simp only [List.length_set])) (.cons (.flat (by kernel_rfl)) (.cons (.flat (by kernel_rfl)) (.cons (Rn.func' .nil .nil) (.cons (.flat (by kernel_rfl)) .nil))))) (by kernel_rfl) (by kernel_rfl) rfl) rfl rfl) (ih (w64 (v58 + 1)) r173 _ hF)
  · replace hF := of_neg hF hc118
    refine TS.exit' (id := 0) (by kernel_rfl) ?_
    refine NX.sqX ?_
    have hF := Option.some.inj hF
    subst hF
    exact Rd.out (e := .exit 0) (by intro h; cases h) (And.intro rfl (Wk.anew (base := 0) (L := 1) (f := []) (by decide) (by decide) (Nat.le_of_ble_eq_true rfl) rfl (.cons (At.blk (by kernel_rfl) (RnB.list (fun _ => rfl))) (.nil _)) (LRn.stx [0] [anyV 0 (List.length v59)] [anyV 0 (List.length v59)] (.cons (Rn.anyV (Nat.le_of_ble_eq_true rfl) rfl (by simp only [List.length_set])) .nil) (by kernel_rfl) (by kernel_rfl) rfl) rfl rfl))
theorem B89 (p0 : List (Int × Int)) (p1 p2 : Int) (r : List (Int × Int)) (hF : F89 p0 p1 p2 = some r) : TS Try.prog 0 1 c89 (st 53 [(0, anyV 0 (List.length p0)), (1, iv p1), (2, iv p2), (3, .func (.func 83) ⟨[]⟩ ⟨[]⟩)]) [.cells 27 (List.flatMap e27 p0)] (NX Try.prog 0 1 [] (ImpFin Try.prog Try.f89 [.cells 27 (List.flatMap e27 r)] (.tuple #[]))) := by
  unfold F89 at hF
  refine TS.seqP (by kernel_rfl) ?_
  refine TS.regionP (by kernel_rfl) ?_
  refine TI.runA 3 [0, 1, 2, 3, 8] (a2 := (st 53 [(0, anyV 0 (List.length p0)), (1, iv p1), (2, iv p2), (3, .func (.func 83) ⟨[]⟩ ⟨[]⟩), (8, iv (w64 (p1 + 1)))])) (by kernel_rfl) ?_
  refine TI.done (by kernel_rfl) ?_
  refine NX.sq ?_
  refine TS.blockP (id := 0) (by kernel_rfl) ?_
  have hX := of_do hF
  clear hF
  obtain ⟨r175, h176, hF⟩ := hX
  refine TS.loopP (by kernel_rfl) (TL.weak (a2 := (st 53 [(0, anyV 0 (List.length p0)), (1, iv p1), (2, iv p2), (3, .func (.func 83) ⟨[]⟩ ⟨[]⟩), (8, iv (w64 (p1 + 1)))])) (h2 := [.cells 27 (List.flatMap e27 p0)]) (Wk.anew (base := 0) (L := 1) (f := []) (by decide) (by decide) (Nat.le_of_ble_eq_true rfl) rfl (.cons (At.blk (by kernel_rfl) (RnB.list (fun _ => rfl))) (.nil _)) (LRn.stx [0, 1, 2, 3, 8] [anyV 0 (List.length p0), iv p1, iv p2, .func (.func 83) ⟨[]⟩ ⟨[]⟩, iv (w64 (p1 + 1))] [anyV 0 (List.length p0), iv p1, iv p2, .func (.func 83) ⟨[]⟩ ⟨[]⟩, iv (w64 (p1 + 1))] (.cons (Rn.anyV (Nat.le_of_ble_eq_true rfl) rfl (by simp only [List.length_set])) (.cons (.flat (by kernel_rfl)) (.cons (.flat (by kernel_rfl)) (.cons (Rn.func' .nil .nil) (.cons (.flat (by kernel_rfl)) .nil))))) (by kernel_rfl) (by kernel_rfl) rfl) rfl rfl) (TL.post (L89l0 p1 p2 (w64 (p1 + 1)) p0 r175 h176) ?_))
  rintro e a1 h1 hp
  obtain ⟨rfl, hw⟩ := hp
  refine ⟨(st 53 [(0, anyV 0 (List.length r175))]), [.cells 27 (List.flatMap e27 r175)], ?_, hw⟩
  refine NX.bkX ?_
  have hF := Option.some.inj hF
  subst hF
  exact ⟨.inl rfl, rfl, rfl, by kernel_rfl⟩

end Go.Proofs.Ytenjelagfbceeaa
