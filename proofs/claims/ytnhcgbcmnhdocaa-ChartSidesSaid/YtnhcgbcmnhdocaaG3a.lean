/- What functions of the program compute, and that they do. -/
import Derived.Test.YtnhcgbcmnhdocaaTs7
import Derived.Test.YtnhcgbcmnhdocaaProg
import Derived.KernelRfl
import Derived.Test.YtnhcgbcmnhdocaaGiven
set_option linter.unusedVariables false
set_option linter.unusedSimpArgs false
set_option maxRecDepth 100000
set_option maxHeartbeats 4000000
namespace Go.Proofs.Ytnhcgbcmnhdocaa
open Go Go.Cl
theorem mixed : Try.prog.follows .mixedOrders = true := by kernel_rfl
def e25 (x : (Int × Int × (Int × Int))) : List Value := [.int .i64 x.1, .int .i64 x.2.1, .int .i64 x.2.2.1, .int .i64 x.2.2.2]
def e35 (x : (Int × Int × (Int × Int))) : List Value := [.int .i64 x.1, .int .i64 x.2.1, .int .i64 x.2.2.1, .int .i64 x.2.2.2]
def e3 (x : Int) : List Value := [.int .i64 x]
-- agonic/agoniclaw07.given
noncomputable def c12 : Code := Try.f12.code
def F12l0 (p0 : (List (Int × Int × (Int × Int)))) (v6 : (List (Int × Int × (Int × Int)))) (v5 : Int) : Option (List (Int × Int × (Int × Int))) :=
    if decide (v5 < (List.length p0 : Int)) then
      if (0 : Int) ≤ v5 ∧ v5 < (List.length p0 : Int) then
        some (List.getD p0 (Int.toNat v5) (0, 0, (0, 0))) >>= fun o15 =>
        if List.length v6 ≤ 1000000000 then
          F12l0 p0 (v6 ++ [(o15.1, o15.2.1, (o15.2.2.1, o15.2.2.2))]) (w64 (v5 + 1))
        else none
      else none
    else
      some v6
  partial_fixpoint
def F12 (p0 : (List (Int × Int × (Int × Int)))) : Option (List (Int × Int × (Int × Int))) :=
  F12l0 p0 ([]) 0 >>= fun r18 =>
  some r18
def V12 (b : Nat) (r : (List (Int × Int × (Int × Int)))) : Value := accV (b + 0) (List.length r)
def N12 (b : Nat) (r : (List (Int × Int × (Int × Int)))) : List Blk := [accB 35 (List.length r) (List.flatMap e35 r)]
def P12l0 (p0 : (List (Int × Int × (Int × Int)))) (r : (List (Int × Int × (Int × Int)))) : Post := fun e a h => e = .exit 0 ∧ Wk Try.prog 1 1 a h (st 19 [(3, accV 1 (List.length r))]) [accB 25 (List.length p0) (List.flatMap e25 p0), accB 35 (List.length r) (List.flatMap e35 r)]
theorem L12l0 (p0 : (List (Int × Int × (Int × Int)))) (v6 : (List (Int × Int × (Int × Int)))) (v5 : Int) (r : (List (Int × Int × (Int × Int)))) (hF : F12l0 p0 v6 v5 = some r) : TL Try.prog 1 1 c12.s2.s2.s1.s2.bd.bd (st 19 [(0, .slice (some ⟨0, 0, none⟩) (List.length p0) ANY), (3, accV 1 (List.length v6)), (4, .int .i64 v5)]) [accB 25 (List.length p0) (List.flatMap e25 p0), accB 35 (List.length v6) (List.flatMap e35 v6)] (P12l0 p0 r) := by
  refine F12l0.partial_correctness p0 (motive := fun v6 v5 r => TL Try.prog 1 1 c12.s2.s2.s1.s2.bd.bd (st 19 [(0, .slice (some ⟨0, 0, none⟩) (List.length p0) ANY), (3, accV 1 (List.length v6)), (4, .int .i64 v5)]) [accB 25 (List.length p0) (List.flatMap e25 p0), accB 35 (List.length v6) (List.flatMap e35 v6)] (P12l0 p0 r)) ?_ v6 v5 r hF
  clear hF r v6 v5
  intro again ih v6 v5 r hF
  refine TL.round ?_
  refine TS.seq' (x := c12.s2.s2.s1.s2.bd.bd.s1) (y := c12.s2.s2.s1.s2.bd.bd.s2) (by kernel_rfl) ?_
  refine TS.seq' (x := c12.s2.s2.s1.s2.bd.bd.s1.s1) (y := c12.s2.s2.s1.s2.bd.bd.s1.s2) (by kernel_rfl) ?_
  refine TS.region' (id := 3) (b := false) (ops := c12.s2.s2.s1.s2.bd.bd.s1.s1.rops) (by kernel_rfl) rfl ?_
  refine TI.run 4 [0, 3, 4, 8] [0, 1] (a2 := (st 19 [(0, .slice (some ⟨0, 0, none⟩) (List.length p0) ANY), (3, accV 1 (List.length v6)), (4, .int .i64 v5), (8, .bool (decide (v5 < (List.length p0 : Int))))])) (h2 := [accB 25 (List.length p0) (List.flatMap e25 p0), accB 35 (List.length v6) (List.flatMap e35 v6)]) (by kernel_rfl) ?_
  refine TI.done (by kernel_rfl) ?_
  refine NX.sq ?_
  refine TS.cond' (o := (.tmp 8)) (x := c12.s2.s2.s1.s2.bd.bd.s1.s2.th) (y := c12.s2.s2.s1.s2.bd.bd.s1.s2.el) (b := decide (v5 < (List.length p0 : Int))) (by kernel_rfl) (by kernel_rfl) (fun hc13 => ?_) (fun hc13 => ?_)
  · replace hF := of_pos hF hc13
    refine TS.skip' (by kernel_rfl) ?_
    refine NX.sq ?_
    refine TS.seq' (x := c12.s2.s2.s1.s2.bd.bd.s2.s1) (y := c12.s2.s2.s1.s2.bd.bd.s2.s2) (by kernel_rfl) ?_
    refine TS.block' (id := 1) (x := c12.s2.s2.s1.s2.bd.bd.s2.s1.bd) (by kernel_rfl) ?_
    have hX := of_guard hF
    clear hF
    obtain ⟨hg14, hF⟩ := hX
    have hX := of_do hF
    clear hF
    obtain ⟨o15, h16, hF⟩ := hX
    replace h16 := Option.some.inj h16
    have hX := of_guard hF
    clear hF
    obtain ⟨hg17, hF⟩ := hX
    refine TS.region' (id := 5) (b := false) (ops := c12.s2.s2.s1.s2.bd.bd.s2.s1.bd.rops) (by kernel_rfl) rfl ?_
    refine TI.run 3 [0, 4, 11, 12, 13] [0, 1] (a2 := (st 19 [(0, .slice (some ⟨0, 0, none⟩) (List.length p0) ANY), (4, .int .i64 v5), (11, accV 1 (List.length v6)), (12, .slice (some ⟨0, 0, none⟩) (List.length p0) ANY), (13, .int .i64 v5)])) (h2 := [accB 25 (List.length p0) (List.flatMap e25 p0), accB 35 (List.length v6) (List.flatMap e35 v6)]) (by kernel_rfl) ?_
    refine TI.op (q := { val := .pointer (some ⟨0, 0 + (Int.toNat v5) * 4, none⟩) }) (q_ixS 0 0 ((Int.toNat v5) * 4) (by kernel_rfl) hg14) [0, 4, 11, 14] [0, 1] (a2 := (st 19 [(0, .slice (some ⟨0, 0, none⟩) (List.length p0) ANY), (4, .int .i64 v5), (11, accV 1 (List.length v6)), (14, .pointer (some ⟨0, 0 + (Int.toNat v5) * 4, none⟩))])) (h2 := [accB 25 (List.length p0) (List.flatMap e25 p0), accB 35 (List.length v6) (List.flatMap e35 v6)]) (by kernel_rfl) ?_
    refine TI.op (q := { val := .agg ⟨[.int .i64 o15.1, .int .i64 o15.2.1, .int .i64 o15.2.2.1, .int .i64 o15.2.2.2]⟩ }) (q_eqv (q_ldA (P := Try.prog) (hp := [accB 25 (List.length p0) (List.flatMap e25 p0), accB 35 (List.length v6) (List.flatMap e35 v6)]) (t := 25) (b := 0) (off := 0 + (Int.toNat v5) * 4) (l := p0) (enc := e25) (s := 4) (T := 25) (i := Int.toNat v5) (by kernel_rfl) (accB_at (h := [accB 25 (List.length p0) (List.flatMap e25 p0), accB 35 (List.length v6) (List.flatMap e35 v6)]) (n := List.length p0) (i := Int.toNat v5) (by kernel_rfl) (by first | omega | (simp only [List.length_set, List.length_replicate, List.length_cons, List.length_nil, List.length_append]; omega))) (by kernel_rfl) (by kernel_rfl) (fun _ => rfl) (by omega) (by first | omega | (simp only [List.length_set, List.length_replicate, List.length_cons, List.length_nil, List.length_append]; omega)) (0, 0, (0, 0))) (congrArg (fun (z : (Int × Int × (Int × Int))) => ({ val := .agg ⟨[.int .i64 z.1, .int .i64 z.2.1, .int .i64 z.2.2.1, .int .i64 z.2.2.2]⟩ } : QRes)) h16)) [0, 4, 11, 15] [0, 1] (a2 := (st 19 [(0, .slice (some ⟨0, 0, none⟩) (List.length p0) ANY), (4, .int .i64 v5), (11, accV 1 (List.length v6)), (15, .agg ⟨[.int .i64 o15.1, .int .i64 o15.2.1, .int .i64 o15.2.2.1, .int .i64 o15.2.2.2]⟩)])) (h2 := [accB 25 (List.length p0) (List.flatMap e25 p0), accB 35 (List.length v6) (List.flatMap e35 v6)]) (by kernel_rfl) ?_
    refine TI.run 1 [0, 4, 11, 16] [0, 1, 2] (a2 := (st 19 [(0, .slice (some ⟨0, 0, none⟩) (List.length p0) ANY), (4, .int .i64 v5), (11, accV 1 (List.length v6)), (16, .slice (some ⟨2, 0, none⟩) 1 1)])) (h2 := [accB 25 (List.length p0) (List.flatMap e25 p0), accB 35 (List.length v6) (List.flatMap e35 v6), .cells 35 [.int .i64 o15.1, .int .i64 o15.2.1, .int .i64 o15.2.2.1, .int .i64 o15.2.2.2]]) (by kernel_rfl) ?_
    refine TI.acc (l := v6) (b := 1) (ts := #[27, 27]) (e := 35) (bytes := 32) (z := .agg ⟨[.int .i64 0, .int .i64 0, .int .i64 0, .int .i64 0]⟩) (y := .slice (some ⟨2, 0, none⟩) 1 1) (ys := [(o15.1, o15.2.1, (o15.2.2.1, o15.2.2.2))]) (xs := List.flatMap e35 ([(o15.1, o15.2.1, (o15.2.2.1, o15.2.2.2))])) (m := 1) (s := 4) (enc := e35) (by kernel_rfl) (by kernel_rfl) (by decide) (by kernel_rfl) (by kernel_rfl) (by kernel_rfl) (by kernel_rfl) (by kernel_rfl) (by kernel_rfl) (by kernel_rfl) (by kernel_rfl) (fun _ => rfl) rfl rfl (by omega) [0, 4, 17] [0, 3] (a2 := (st 19 [(0, .slice (some ⟨0, 0, none⟩) (List.length p0) ANY), (4, .int .i64 v5), (17, .slice (some ⟨3, 0, none⟩) (List.length (v6 ++ [(o15.1, o15.2.1, (o15.2.2.1, o15.2.2.2))])) UNK)])) (h2 := [accB 25 (List.length p0) (List.flatMap e25 p0), .dead, .dead, .cells 35 (List.flatMap e35 (v6 ++ [(o15.1, o15.2.1, (o15.2.2.1, o15.2.2.2))]))]) (by kernel_rfl) ?_
    refine TI.run 1 [0, 3, 4] [0, 3] (a2 := (st 19 [(0, .slice (some ⟨0, 0, none⟩) (List.length p0) ANY), (3, .slice (some ⟨3, 0, none⟩) (List.length (v6 ++ [(o15.1, o15.2.1, (o15.2.2.1, o15.2.2.2))])) UNK), (4, .int .i64 v5)])) (h2 := [accB 25 (List.length p0) (List.flatMap e25 p0), .dead, .dead, .cells 35 (List.flatMap e35 (v6 ++ [(o15.1, o15.2.1, (o15.2.2.1, o15.2.2.2))]))]) (by kernel_rfl) ?_
    refine TI.done (by kernel_rfl) ?_
    refine NX.bk ?_
    refine NX.sq ?_
    refine TS.region' (id := 4) (b := false) (ops := c12.s2.s2.s1.s2.bd.bd.s2.s2.rops) (by kernel_rfl) rfl ?_
    refine TI.run 3 [0, 3, 4] [0, 3] (a2 := (st 19 [(0, .slice (some ⟨0, 0, none⟩) (List.length p0) ANY), (3, .slice (some ⟨3, 0, none⟩) (List.length (v6 ++ [(o15.1, o15.2.1, (o15.2.2.1, o15.2.2.2))])) UNK), (4, .int .i64 (w64 (v5 + 1)))])) (h2 := [accB 25 (List.length p0) (List.flatMap e25 p0), .dead, .dead, .cells 35 (List.flatMap e35 (v6 ++ [(o15.1, o15.2.1, (o15.2.2.1, o15.2.2.2))]))]) (by kernel_rfl) ?_
    refine TI.done (by kernel_rfl) ?_
    exact Rd.again (a2 := (st 19 [(0, .slice (some ⟨0, 0, none⟩) (List.length p0) ANY), (3, accV 1 (List.length (v6 ++ [(o15.1, o15.2.1, (o15.2.2.1, o15.2.2.2))]))), (4, .int .i64 (w64 (v5 + 1)))])) (h2 := [accB 25 (List.length p0) (List.flatMap e25 p0), accB 35 (List.length (v6 ++ [(o15.1, o15.2.1, (o15.2.2.1, o15.2.2.2))])) (List.flatMap e35 (v6 ++ [(o15.1, o15.2.1, (o15.2.2.1, o15.2.2.2))]))]) (Wk.anew (base := 1) (L := 1) (f := [3]) (by decide) (by decide) (Nat.le_of_ble_eq_true rfl) rfl (.cons (At.acc (by kernel_rfl) rfl (fun _ => rfl)) (.cons (At.accU (by kernel_rfl) rfl (fun _ => rfl)) (.nil _))) (LRn.stx [0, 3, 4] [.slice (some ⟨0, 0, none⟩) (List.length p0) ANY, accV 1 (List.length (v6 ++ [(o15.1, o15.2.1, (o15.2.2.1, o15.2.2.2))])), .int .i64 (w64 (v5 + 1))] [.slice (some ⟨0, 0, none⟩) (List.length p0) ANY, .slice (some ⟨3, 0, none⟩) (List.length (v6 ++ [(o15.1, o15.2.1, (o15.2.2.1, o15.2.2.2))])) UNK, .int .i64 (w64 (v5 + 1))] (.cons (Rn.slice0 _ _ _ _ (Nat.le_of_ble_eq_true rfl) rfl) (.cons (Rn.accU (Nat.le_of_ble_eq_true rfl) rfl (by simp)) (.cons (.flat (by kernel_rfl)) .nil))) (by kernel_rfl) (by kernel_rfl) rfl) rfl rfl) (ih (v6 ++ [(o15.1, o15.2.1, (o15.2.2.1, o15.2.2.2))]) (w64 (v5 + 1)) _ hF)
  · replace hF := of_neg hF hc13
    refine TS.exit' (id := 0) (by kernel_rfl) ?_
    refine NX.sqX ?_
    have hF := Option.some.inj hF
    subst hF
    exact Rd.out (e := .exit 0) (by intro h; cases h) (And.intro rfl (Wk.anew (base := 1) (L := 1) (f := [1]) (by decide) (by decide) (Nat.le_of_ble_eq_true rfl) rfl (.cons (At.acc (by kernel_rfl) rfl (fun _ => rfl)) (.cons (At.acc (by kernel_rfl) rfl (fun _ => rfl)) (.nil _))) (LRn.stx [3] [accV 1 (List.length v6)] [accV 1 (List.length v6)] (.cons (Rn.acc (Nat.le_of_ble_eq_true rfl) rfl) .nil) (by kernel_rfl) (by kernel_rfl) rfl) rfl rfl))
theorem B12 (p0 : (List (Int × Int × (Int × Int)))) (r : (List (Int × Int × (Int × Int)))) (hF : F12 p0 = some r) : TS Try.prog 1 1 c12 (st 19 [(0, .slice (some ⟨0, 0, none⟩) (List.length p0) ANY)]) [accB 25 (List.length p0) (List.flatMap e25 p0)] (NX Try.prog 1 1 [] (FinP Try.prog Try.f12 1 (V12 1 r) (N12 1 r))) := by
  unfold F12 at hF
  refine TS.seq' (x := c12.s1) (y := c12.s2) (by kernel_rfl) ?_
  refine TS.region' (id := 0) (b := false) (ops := c12.s1.rops) (by kernel_rfl) rfl ?_
  refine TI.run 1 [0] [0] (a2 := (st 19 [(0, .slice (some ⟨0, 0, none⟩) (List.length p0) ANY)])) (h2 := [accB 25 (List.length p0) (List.flatMap e25 p0)]) (by kernel_rfl) ?_
  refine TI.done (by kernel_rfl) ?_
  refine NX.sq ?_
  refine TS.seq' (x := c12.s2.s1) (y := c12.s2.s2) (by kernel_rfl) ?_
  refine TS.region' (id := 1) (b := false) (ops := c12.s2.s1.rops) (by kernel_rfl) rfl ?_
  refine TI.run 1 [0, 3] [0] (a2 := (st 19 [(0, .slice (some ⟨0, 0, none⟩) (List.length p0) ANY), (3, .slice none 0 0)])) (h2 := [accB 25 (List.length p0) (List.flatMap e25 p0)]) (by kernel_rfl) ?_
  refine TI.done (by kernel_rfl) ?_
  refine NX.sq ?_
  refine TS.seq' (x := c12.s2.s2.s1) (y := c12.s2.s2.s2) (by kernel_rfl) ?_
  refine TS.seq' (x := c12.s2.s2.s1.s1) (y := c12.s2.s2.s1.s2) (by kernel_rfl) ?_
  refine TS.region' (id := 2) (b := false) (ops := c12.s2.s2.s1.s1.rops) (by kernel_rfl) rfl ?_
  refine TI.run 1 [0, 3, 4] [0] (a2 := (st 19 [(0, .slice (some ⟨0, 0, none⟩) (List.length p0) ANY), (3, .slice none 0 0), (4, .int .i64 0)])) (h2 := [accB 25 (List.length p0) (List.flatMap e25 p0)]) (by kernel_rfl) ?_
  refine TI.done (by kernel_rfl) ?_
  refine NX.sq ?_
  refine TS.block' (id := 0) (x := c12.s2.s2.s1.s2.bd) (by kernel_rfl) ?_
  have hX := of_do hF
  clear hF
  obtain ⟨r18, h19, hF⟩ := hX
  refine TS.loop' (x := c12.s2.s2.s1.s2.bd.bd) (by kernel_rfl) (TL.weak (a2 := (st 19 [(0, .slice (some ⟨0, 0, none⟩) (List.length p0) ANY), (3, accV 1 (List.length ([]))), (4, .int .i64 0)])) (h2 := [accB 25 (List.length p0) (List.flatMap e25 p0), accB 35 (List.length ([])) (List.flatMap e35 ([]))]) (Wk.anew (base := 1) (L := 1) (f := [1]) (by decide) (by decide) (Nat.le_of_ble_eq_true rfl) rfl (.cons (At.acc (by kernel_rfl) rfl (fun _ => rfl)) (.cons At.accN (.nil _))) (LRn.stx [0, 3, 4] [.slice (some ⟨0, 0, none⟩) (List.length p0) ANY, accV 1 (List.length ([])), .int .i64 0] [.slice (some ⟨0, 0, none⟩) (List.length p0) ANY, .slice none 0 0, .int .i64 0] (.cons (Rn.slice0 _ _ _ _ (Nat.le_of_ble_eq_true rfl) rfl) (.cons (Rn.accN) (.cons (.flat (by kernel_rfl)) .nil))) (by kernel_rfl) (by kernel_rfl) rfl) rfl rfl) (TL.post (L12l0 p0 ([]) 0 r18 h19) ?_))
  rintro e a1 h1 hp
  obtain ⟨rfl, hw⟩ := hp
  refine ⟨(st 19 [(3, accV 1 (List.length r18))]), [accB 25 (List.length p0) (List.flatMap e25 p0), accB 35 (List.length r18) (List.flatMap e35 r18)], ?_, hw⟩
  refine NX.bkX ?_
  refine NX.sq ?_
  refine TS.seq' (x := c12.s2.s2.s2.s1) (y := c12.s2.s2.s2.s2) (by kernel_rfl) ?_
  refine TS.region' (id := 6) (b := false) (ops := c12.s2.s2.s2.s1.rops) (by kernel_rfl) rfl ?_
  refine TI.run 2 [2] [0, 1] (a2 := (st 19 [(2, accV 1 (List.length r18))])) (h2 := [accB 25 (List.length p0) (List.flatMap e25 p0), accB 35 (List.length r18) (List.flatMap e35 r18)]) (by kernel_rfl) ?_
  refine TI.done (by kernel_rfl) ?_
  refine NX.sq ?_
  refine TS.ret' (by kernel_rfl) ?_
  have hF := Option.some.inj hF
  subst hF
  exact ⟨.inr rfl, rfl, accV 1 (List.length r18), by kernel_rfl, WkV.made (L := 1) (f := [1]) (by decide) (by decide) rfl (.cons (At.acc (by kernel_rfl) rfl (fun _ => rfl)) (.nil _)) (Rn.acc (Nat.le_of_ble_eq_true rfl) rfl)⟩
theorem C12 (p0 : (List (Int × Int × (Int × Int)))) (r : (List (Int × Int × (Int × Int)))) (hF : F12 p0 = some r) : PureSim Try.prog 12 [.slice (some ⟨0, 0, none⟩) (List.length p0) ANY] [accB 25 (List.length p0) (List.flatMap e25 p0)] (V12 1 r) (N12 1 r) :=
  PureSim.of_Fin Try.func12 (c := c12) (by kernel_rfl) (by kernel_rfl) 1 rfl [0] [0] (by kernel_rfl) (B12 p0 r hF)

-- (agonic/chart.Station).point
noncomputable def c41 : Code := Try.f41.code
def F41 (p0 : Int) (p1 : Int) (p2 : Int) (p3 : Int) : Option (Int × Int) :=
  some (p0, p1)
def V41 (b : Nat) (r : (Int × Int)) : Value := .agg ⟨[.int .i64 r.1, .int .i64 r.2]⟩
def N41 (b : Nat) (r : (Int × Int)) : List Blk := []
theorem B41 (p0 : Int) (p1 : Int) (p2 : Int) (p3 : Int) (r : (Int × Int)) (hF : F41 p0 p1 p2 p3 = some r) : TS Try.prog 0 0 c41 (st 8 [(0, .agg ⟨[.int .i64 p0, .int .i64 p1, .int .i64 p2, .int .i64 p3]⟩)]) [] (NX Try.prog 0 0 [] (FinP Try.prog Try.f41 0 (V41 0 r) (N41 0 r))) := by
  unfold F41 at hF
  refine TS.seq' (x := c41.s1) (y := c41.s2) (by kernel_rfl) ?_
  refine TS.region' (id := 0) (b := false) (ops := c41.s1.rops) (by kernel_rfl) rfl ?_
  refine TI.run 2 [1, 2] [0, 1] (a2 := (st 8 [(1, .pointer (some ⟨0, 0, none⟩)), (2, .pointer (some ⟨1, 0, none⟩))])) (h2 := [.cells 25 [.int .i64 p0, .int .i64 p1, .int .i64 p2, .int .i64 p3], .cells 87 [.int .i64 0, .int .i64 0]]) (by kernel_rfl) ?_
  refine TI.done (by kernel_rfl) ?_
  refine NX.sq ?_
  refine TS.seq' (x := c41.s2.s1) (y := c41.s2.s2) (by kernel_rfl) ?_
  refine TS.region' (id := 1) (b := false) (ops := c41.s2.s1.rops) (by kernel_rfl) rfl ?_
  refine TI.run 6 [2] [1] (a2 := (st 8 [(2, .pointer (some ⟨1, 0, none⟩))])) (h2 := [.dead, .cells 87 [.int .i64 p0, .int .i64 p1]]) (by kernel_rfl) ?_
  refine TI.done (by kernel_rfl) ?_
  refine NX.sq ?_
  refine TS.ret' (by kernel_rfl) ?_
  have hF := Option.some.inj hF
  subst hF
  exact ⟨.inr rfl, rfl, .agg ⟨[.int .i64 p0, .int .i64 p1]⟩, by kernel_rfl, WkV.flat0 (by kernel_rfl) (Nat.le_of_ble_eq_true rfl)⟩
theorem C41 (p0 : Int) (p1 : Int) (p2 : Int) (p3 : Int) (r : (Int × Int)) (hF : F41 p0 p1 p2 p3 = some r) : PureSim Try.prog 41 [.agg ⟨[.int .i64 p0, .int .i64 p1, .int .i64 p2, .int .i64 p3]⟩] [] (V41 0 r) (N41 0 r) :=
  PureSim.of_Fin Try.func41 (c := c41) (by kernel_rfl) (by kernel_rfl) 0 rfl [0] [] (by kernel_rfl) (B41 p0 p1 p2 p3 r hF)

-- agonic/chart.between
noncomputable def c59 : Code := Try.f59.code
def F59 (p0 : Int) (p1 : Int) (p2 : Int) : Option Bool :=
  (
    if decide (p0 ≤ p1) then
      some (decide (p1 ≤ p2))
    else
      some (false)
  : Option Bool) >>= fun m2 =>
  some m2
def V59 (b : Nat) (r : Bool) : Value := .bool r
def N59 (b : Nat) (r : Bool) : List Blk := []
theorem B59 (p0 : Int) (p1 : Int) (p2 : Int) (r : Bool) (hF : F59 p0 p1 p2 = some r) : TS Try.prog 0 0 c59 (st 15 [(0, .int .i64 p0), (1, .int .i64 p1), (2, .int .i64 p2)]) [] (NX Try.prog 0 0 [] (FinP Try.prog Try.f59 0 (V59 0 r) (N59 0 r))) := by
  unfold F59 at hF
  refine TS.seq' (x := c59.s1) (y := c59.s2) (by kernel_rfl) ?_
  refine TS.region' (id := 0) (b := false) (ops := c59.s1.rops) (by kernel_rfl) rfl ?_
  refine TI.run 1 [0, 1, 2] [] (a2 := (st 15 [(0, .int .i64 p0), (1, .int .i64 p1), (2, .int .i64 p2)])) (h2 := []) (by kernel_rfl) ?_
  refine TI.done (by kernel_rfl) ?_
  refine NX.sq ?_
  refine TS.seq' (x := c59.s2.s1) (y := c59.s2.s2) (by kernel_rfl) ?_
  have hX := of_do hF
  clear hF
  obtain ⟨m2, hm3, hF⟩ := hX
  have hK : NX Try.prog 0 0 [.sq c59.s2.s2] (FinP Try.prog Try.f59 0 (V59 0 r) (N59 0 r)) .normal (st 15 [(6, .bool m2)]) [] := by
    refine NX.sq ?_
    refine TS.ret' (by kernel_rfl) ?_
    have hF := Option.some.inj hF
    subst hF
    exact ⟨.inr rfl, rfl, .bool m2, by kernel_rfl, WkV.flat0 (by kernel_rfl) (Nat.le_of_ble_eq_true rfl)⟩
  rcases Bool.eq_false_or_eq_true (decide (p0 ≤ p1)) with hc1 | hc1
  · replace hm3 := of_pos hm3 hc1
    have hm3 := Option.some.inj hm3
    subst hm3
    refine TS.region' (id := 1) (b := false) (ops := c59.s2.s1.rops) (by kernel_rfl) rfl ?_
    refine TI.run 2 [1, 2, 7, 8] [] (a2 := (st 15 [(1, .int .i64 p1), (2, .int .i64 p2), (7, .int .i64 p0), (8, .int .i64 p1)])) (h2 := []) (by kernel_rfl) ?_
    refine TI.op (q := { val := .bool true }) (q_conv (e := decide (p0 ≤ p1)) (b := true) (by kernel_rfl) hc1) [1, 2, 9] [] (a2 := (st 15 [(1, .int .i64 p1), (2, .int .i64 p2), (9, .bool true)])) (h2 := []) (by kernel_rfl) ?_
    refine TI.run 6 [6] [] (a2 := (st 15 [(6, .bool (decide (p1 ≤ p2)))])) (h2 := []) (by kernel_rfl) ?_
    refine TI.done (by kernel_rfl) ?_
    exact hK
  · replace hm3 := of_neg hm3 hc1
    have hm3 := Option.some.inj hm3
    subst hm3
    refine TS.region' (id := 1) (b := false) (ops := c59.s2.s1.rops) (by kernel_rfl) rfl ?_
    refine TI.run 2 [1, 2, 7, 8] [] (a2 := (st 15 [(1, .int .i64 p1), (2, .int .i64 p2), (7, .int .i64 p0), (8, .int .i64 p1)])) (h2 := []) (by kernel_rfl) ?_
    refine TI.op (q := { val := .bool false }) (q_conv (e := decide (p0 ≤ p1)) (b := false) (by kernel_rfl) hc1) [1, 2, 9] [] (a2 := (st 15 [(1, .int .i64 p1), (2, .int .i64 p2), (9, .bool false)])) (h2 := []) (by kernel_rfl) ?_
    refine TI.run 6 [6] [] (a2 := (st 15 [(6, .bool false)])) (h2 := []) (by kernel_rfl) ?_
    refine TI.done (by kernel_rfl) ?_
    exact hK
theorem C59 (p0 : Int) (p1 : Int) (p2 : Int) (r : Bool) (hF : F59 p0 p1 p2 = some r) : PureSim Try.prog 59 [.int .i64 p0, .int .i64 p1, .int .i64 p2] [] (V59 0 r) (N59 0 r) :=
  PureSim.of_Fin Try.func59 (c := c59) (by kernel_rfl) (by kernel_rfl) 0 rfl [0, 1, 2] [] (by kernel_rfl) (B59 p0 p1 p2 r hF)

-- (agonic/chart.point).good
noncomputable def c42 : Code := Try.f42.code
def F42 (p0 : Int) (p1 : Int) : Option Bool :=
  F59 (-100) p0 100 >>= fun r1 =>
  (
    if r1 then
      F59 (-100) p1 100 >>= fun r3 =>
      some (r3)
    else
      some (false)
  : Option Bool) >>= fun m5 =>
  some m5
def V42 (b : Nat) (r : Bool) : Value := .bool r
def N42 (b : Nat) (r : Bool) : List Blk := []
theorem B42 (p0 : Int) (p1 : Int) (r : Bool) (hF : F42 p0 p1 = some r) : TS Try.prog 0 0 c42 (st 11 [(0, .agg ⟨[.int .i64 p0, .int .i64 p1]⟩)]) [] (NX Try.prog 0 0 [] (FinP Try.prog Try.f42 0 (V42 0 r) (N42 0 r))) := by
  unfold F42 at hF
  refine TS.seq' (x := c42.s1) (y := c42.s2) (by kernel_rfl) ?_
  refine TS.region' (id := 0) (b := false) (ops := c42.s1.rops) (by kernel_rfl) rfl ?_
  refine TI.run 2 [1] [0] (a2 := (st 11 [(1, .pointer (some ⟨0, 0, none⟩))])) (h2 := [.cells 87 [.int .i64 p0, .int .i64 p1]]) (by kernel_rfl) ?_
  refine TI.done (by kernel_rfl) ?_
  refine NX.sq ?_
  refine TS.seq' (x := c42.s2.s1) (y := c42.s2.s2) (by kernel_rfl) ?_
  have hX := of_do hF
  clear hF
  obtain ⟨r1, h2, hF⟩ := hX
  have hX := of_do hF
  clear hF
  obtain ⟨m5, hm6, hF⟩ := hX
  have hK : NX Try.prog 0 0 [.sq c42.s2.s2] (FinP Try.prog Try.f42 0 (V42 0 r) (N42 0 r)) .normal (st 11 [(2, .bool m5)]) [.dead] := by
    refine NX.sq ?_
    refine TS.ret' (by kernel_rfl) ?_
    have hF := Option.some.inj hF
    subst hF
    exact ⟨.inr rfl, rfl, .bool m5, by kernel_rfl, WkV.flat0 (by kernel_rfl) (Nat.le_of_ble_eq_true rfl)⟩
  cases r1 with
  | true =>
    replace hm6 := of_pos hm6 rfl
    have hX := of_do hm6
    clear hm6
    obtain ⟨r3, h4, hm6⟩ := hX
    have hm6 := Option.some.inj hm6
    subst hm6
    refine TS.region' (id := 1) (b := false) (ops := c42.s2.s1.rops) (by kernel_rfl) rfl ?_
    refine TI.run 2 [1, 4] [0] (a2 := (st 11 [(1, .pointer (some ⟨0, 0, none⟩)), (4, .int .i64 p0)])) (h2 := [.cells 87 [.int .i64 p0, .int .i64 p1]]) (by kernel_rfl) ?_
    refine TI.callM (g := 59) (args := [.int .i64 (-100), .int .i64 p0, .int .i64 100]) (v := .bool true) (new := []) (by kernel_rfl) (PureSim.any (C59 (-100) p0 100 true h2) (flatL (by kernel_rfl)) (by kernel_rfl) [.cells 87 [.int .i64 p0, .int .i64 p1]]) [1, 5] [0] (a2 := (st 11 [(1, .pointer (some ⟨0, 0, none⟩)), (5, .bool true)])) (h2 := [.cells 87 [.int .i64 p0, .int .i64 p1]]) (by kernel_rfl) ?_
    refine TI.run 3 [6, 8] [] (a2 := (st 11 [(6, .bool true), (8, .int .i64 p1)])) (h2 := [.dead]) (by kernel_rfl) ?_
    refine TI.callM (g := 59) (args := [.int .i64 (-100), .int .i64 p1, .int .i64 100]) (v := .bool r3) (new := []) (by kernel_rfl) (PureSim.any (C59 (-100) p1 100 r3 h4) (flatL (by kernel_rfl)) (by kernel_rfl) [.dead]) [6, 9] [] (a2 := (st 11 [(6, .bool true), (9, .bool r3)])) (h2 := [.dead]) (by kernel_rfl) ?_
    refine TI.run 2 [2] [] (a2 := (st 11 [(2, .bool r3)])) (h2 := [.dead]) (by kernel_rfl) ?_
    refine TI.done (by kernel_rfl) ?_
    exact hK
  | false =>
    replace hm6 := of_neg hm6 rfl
    have hm6 := Option.some.inj hm6
    subst hm6
    refine TS.region' (id := 1) (b := false) (ops := c42.s2.s1.rops) (by kernel_rfl) rfl ?_
    refine TI.run 2 [1, 4] [0] (a2 := (st 11 [(1, .pointer (some ⟨0, 0, none⟩)), (4, .int .i64 p0)])) (h2 := [.cells 87 [.int .i64 p0, .int .i64 p1]]) (by kernel_rfl) ?_
    refine TI.callM (g := 59) (args := [.int .i64 (-100), .int .i64 p0, .int .i64 100]) (v := .bool false) (new := []) (by kernel_rfl) (PureSim.any (C59 (-100) p0 100 false h2) (flatL (by kernel_rfl)) (by kernel_rfl) [.cells 87 [.int .i64 p0, .int .i64 p1]]) [1, 5] [0] (a2 := (st 11 [(1, .pointer (some ⟨0, 0, none⟩)), (5, .bool false)])) (h2 := [.cells 87 [.int .i64 p0, .int .i64 p1]]) (by kernel_rfl) ?_
    refine TI.run 6 [2] [] (a2 := (st 11 [(2, .bool false)])) (h2 := [.dead]) (by kernel_rfl) ?_
    refine TI.done (by kernel_rfl) ?_
    exact hK
theorem C42 (p0 : Int) (p1 : Int) (r : Bool) (hF : F42 p0 p1 = some r) : PureSim Try.prog 42 [.agg ⟨[.int .i64 p0, .int .i64 p1]⟩] [] (V42 0 r) (N42 0 r) :=
  PureSim.of_Fin Try.func42 (c := c42) (by kernel_rfl) (by kernel_rfl) 0 rfl [0] [] (by kernel_rfl) (B42 p0 p1 r hF)

-- (agonic/chart.point).minus
noncomputable def c65 : Code := Try.f65.code
def F65 (p0 : Int) (p1 : Int) (p2 : Int) (p3 : Int) : Option (Int × Int) :=
  some (w64 (p0 - p2), w64 (p1 - p3))
def V65 (b : Nat) (r : (Int × Int)) : Value := .agg ⟨[.int .i64 r.1, .int .i64 r.2]⟩
def N65 (b : Nat) (r : (Int × Int)) : List Blk := []
theorem B65 (p0 : Int) (p1 : Int) (p2 : Int) (p3 : Int) (r : (Int × Int)) (hF : F65 p0 p1 p2 p3 = some r) : TS Try.prog 0 0 c65 (st 16 [(0, .agg ⟨[.int .i64 p0, .int .i64 p1]⟩), (1, .agg ⟨[.int .i64 p2, .int .i64 p3]⟩)]) [] (NX Try.prog 0 0 [] (FinP Try.prog Try.f65 0 (V65 0 r) (N65 0 r))) := by
  unfold F65 at hF
  refine TS.seq' (x := c65.s1) (y := c65.s2) (by kernel_rfl) ?_
  refine TS.region' (id := 0) (b := false) (ops := c65.s1.rops) (by kernel_rfl) rfl ?_
  refine TI.run 3 [2, 3, 4] [0, 1, 2] (a2 := (st 16 [(2, .pointer (some ⟨0, 0, none⟩)), (3, .pointer (some ⟨1, 0, none⟩)), (4, .pointer (some ⟨2, 0, none⟩))])) (h2 := [.cells 87 [.int .i64 p0, .int .i64 p1], .cells 87 [.int .i64 p2, .int .i64 p3], .cells 87 [.int .i64 0, .int .i64 0]]) (by kernel_rfl) ?_
  refine TI.done (by kernel_rfl) ?_
  refine NX.sq ?_
  refine TS.seq' (x := c65.s2.s1) (y := c65.s2.s2) (by kernel_rfl) ?_
  refine TS.region' (id := 1) (b := false) (ops := c65.s2.s1.rops) (by kernel_rfl) rfl ?_
  refine TI.run 12 [4] [2] (a2 := (st 16 [(4, .pointer (some ⟨2, 0, none⟩))])) (h2 := [.dead, .dead, .cells 87 [.int .i64 (w64 (p0 - p2)), .int .i64 (w64 (p1 - p3))]]) (by kernel_rfl) ?_
  refine TI.done (by kernel_rfl) ?_
  refine NX.sq ?_
  refine TS.ret' (by kernel_rfl) ?_
  have hF := Option.some.inj hF
  subst hF
  exact ⟨.inr rfl, rfl, .agg ⟨[.int .i64 (w64 (p0 - p2)), .int .i64 (w64 (p1 - p3))]⟩, by kernel_rfl, WkV.flat0 (by kernel_rfl) (Nat.le_of_ble_eq_true rfl)⟩
theorem C65 (p0 : Int) (p1 : Int) (p2 : Int) (p3 : Int) (r : (Int × Int)) (hF : F65 p0 p1 p2 p3 = some r) : PureSim Try.prog 65 [.agg ⟨[.int .i64 p0, .int .i64 p1]⟩, .agg ⟨[.int .i64 p2, .int .i64 p3]⟩] [] (V65 0 r) (N65 0 r) :=
  PureSim.of_Fin Try.func65 (c := c65) (by kernel_rfl) (by kernel_rfl) 0 rfl [0, 1] [] (by kernel_rfl) (B65 p0 p1 p2 p3 r hF)

-- (agonic/chart.point).cross
noncomputable def c66 : Code := Try.f66.code
def F66 (p0 : Int) (p1 : Int) (p2 : Int) (p3 : Int) : Option Int :=
  some (w64 ((w64 (p0 * p3)) - (w64 (p1 * p2))))
def V66 (b : Nat) (r : Int) : Value := .int .i64 r
def N66 (b : Nat) (r : Int) : List Blk := []
theorem B66 (p0 : Int) (p1 : Int) (p2 : Int) (p3 : Int) (r : Int) (hF : F66 p0 p1 p2 p3 = some r) : TS Try.prog 0 0 c66 (st 16 [(0, .agg ⟨[.int .i64 p0, .int .i64 p1]⟩), (1, .agg ⟨[.int .i64 p2, .int .i64 p3]⟩)]) [] (NX Try.prog 0 0 [] (FinP Try.prog Try.f66 0 (V66 0 r) (N66 0 r))) := by
  unfold F66 at hF
  refine TS.seq' (x := c66.s1) (y := c66.s2) (by kernel_rfl) ?_
  refine TS.region' (id := 0) (b := false) (ops := c66.s1.rops) (by kernel_rfl) rfl ?_
  refine TI.run 3 [2, 3] [0, 1] (a2 := (st 16 [(2, .pointer (some ⟨0, 0, none⟩)), (3, .pointer (some ⟨1, 0, none⟩))])) (h2 := [.cells 87 [.int .i64 p0, .int .i64 p1], .cells 87 [.int .i64 p2, .int .i64 p3]]) (by kernel_rfl) ?_
  refine TI.done (by kernel_rfl) ?_
  refine NX.sq ?_
  refine TS.seq' (x := c66.s2.s1) (y := c66.s2.s2) (by kernel_rfl) ?_
  refine TS.region' (id := 1) (b := false) (ops := c66.s2.s1.rops) (by kernel_rfl) rfl ?_
  refine TI.run 12 [4] [] (a2 := (st 16 [(4, .int .i64 (w64 ((w64 (p0 * p3)) - (w64 (p1 * p2)))))])) (h2 := [.dead, .dead]) (by kernel_rfl) ?_
  refine TI.done (by kernel_rfl) ?_
  refine NX.sq ?_
  refine TS.ret' (by kernel_rfl) ?_
  have hF := Option.some.inj hF
  subst hF
  exact ⟨.inr rfl, rfl, .int .i64 (w64 ((w64 (p0 * p3)) - (w64 (p1 * p2)))), by kernel_rfl, WkV.flat0 (by kernel_rfl) (Nat.le_of_ble_eq_true rfl)⟩
theorem C66 (p0 : Int) (p1 : Int) (p2 : Int) (p3 : Int) (r : Int) (hF : F66 p0 p1 p2 p3 = some r) : PureSim Try.prog 66 [.agg ⟨[.int .i64 p0, .int .i64 p1]⟩, .agg ⟨[.int .i64 p2, .int .i64 p3]⟩] [] (V66 0 r) (N66 0 r) :=
  PureSim.of_Fin Try.func66 (c := c66) (by kernel_rfl) (by kernel_rfl) 0 rfl [0, 1] [] (by kernel_rfl) (B66 p0 p1 p2 p3 r hF)

-- agonic/chart.turn
noncomputable def c44 : Code := Try.f44.code
def F44 (p0 : Int) (p1 : Int) (p2 : Int) (p3 : Int) (p4 : Int) (p5 : Int) : Option Int :=
  F65 p2 p3 p0 p1 >>= fun r1 =>
  F65 p4 p5 p0 p1 >>= fun r3 =>
  F66 r1.1 r1.2 r3.1 r3.2 >>= fun r5 =>
  some r5
def V44 (b : Nat) (r : Int) : Value := .int .i64 r
def N44 (b : Nat) (r : Int) : List Blk := []
theorem B44 (p0 : Int) (p1 : Int) (p2 : Int) (p3 : Int) (p4 : Int) (p5 : Int) (r : Int) (hF : F44 p0 p1 p2 p3 p4 p5 = some r) : TS Try.prog 0 0 c44 (st 14 [(0, .agg ⟨[.int .i64 p0, .int .i64 p1]⟩), (1, .agg ⟨[.int .i64 p2, .int .i64 p3]⟩), (2, .agg ⟨[.int .i64 p4, .int .i64 p5]⟩)]) [] (NX Try.prog 0 0 [] (FinP Try.prog Try.f44 0 (V44 0 r) (N44 0 r))) := by
  unfold F44 at hF
  refine TS.seq' (x := c44.s1) (y := c44.s2) (by kernel_rfl) ?_
  refine TS.region' (id := 0) (b := false) (ops := c44.s1.rops) (by kernel_rfl) rfl ?_
  refine TI.run 4 [3, 4, 5] [0, 1, 2] (a2 := (st 14 [(3, .pointer (some ⟨0, 0, none⟩)), (4, .pointer (some ⟨1, 0, none⟩)), (5, .pointer (some ⟨2, 0, none⟩))])) (h2 := [.cells 87 [.int .i64 p0, .int .i64 p1], .cells 87 [.int .i64 p2, .int .i64 p3], .cells 87 [.int .i64 p4, .int .i64 p5]]) (by kernel_rfl) ?_
  refine TI.done (by kernel_rfl) ?_
  refine NX.sq ?_
  refine TS.seq' (x := c44.s2.s1) (y := c44.s2.s2) (by kernel_rfl) ?_
  have hX := of_do hF
  clear hF
  obtain ⟨r1, h2, hF⟩ := hX
  have hX := of_do hF
  clear hF
  obtain ⟨r3, h4, hF⟩ := hX
  have hX := of_do hF
  clear hF
  obtain ⟨r5, h6, hF⟩ := hX
  have hT : ∀ e ∈ ([⟨65, [.agg ⟨[.int .i64 p2, .int .i64 p3]⟩, .agg ⟨[.int .i64 p0, .int .i64 p1]⟩], [.cells 87 [.int .i64 p0, .int .i64 p1], .cells 87 [.int .i64 p2, .int .i64 p3], .cells 87 [.int .i64 p4, .int .i64 p5]], .agg ⟨[.int .i64 r1.1, .int .i64 r1.2]⟩, []⟩, ⟨65, [.agg ⟨[.int .i64 p4, .int .i64 p5]⟩, .agg ⟨[.int .i64 p0, .int .i64 p1]⟩], [.cells 87 [.int .i64 p0, .int .i64 p1], .cells 87 [.int .i64 p2, .int .i64 p3], .cells 87 [.int .i64 p4, .int .i64 p5]], .agg ⟨[.int .i64 r3.1, .int .i64 r3.2]⟩, []⟩, ⟨66, [.agg ⟨[.int .i64 r1.1, .int .i64 r1.2]⟩, .agg ⟨[.int .i64 r3.1, .int .i64 r3.2]⟩], [.cells 87 [.int .i64 p0, .int .i64 p1], .cells 87 [.int .i64 p2, .int .i64 p3], .cells 87 [.int .i64 p4, .int .i64 p5]], .int .i64 r5, []⟩] : List Entry), PureSim Try.prog e.g e.args e.h e.v e.new := by
    intro e he
    simp only [List.mem_cons, List.not_mem_nil, or_false] at he
    rcases he with rfl | rfl | rfl
    · exact (PureSim.any (C65 p2 p3 p0 p1 r1 h2) (flatL (by kernel_rfl)) (by kernel_rfl) [.cells 87 [.int .i64 p0, .int .i64 p1], .cells 87 [.int .i64 p2, .int .i64 p3], .cells 87 [.int .i64 p4, .int .i64 p5]])
    · exact (PureSim.any (C65 p4 p5 p0 p1 r3 h4) (flatL (by kernel_rfl)) (by kernel_rfl) [.cells 87 [.int .i64 p0, .int .i64 p1], .cells 87 [.int .i64 p2, .int .i64 p3], .cells 87 [.int .i64 p4, .int .i64 p5]])
    · exact (PureSim.any (C66 r1.1 r1.2 r3.1 r3.2 r5 h6) (flatL (by kernel_rfl)) (by kernel_rfl) [.cells 87 [.int .i64 p0, .int .i64 p1], .cells 87 [.int .i64 p2, .int .i64 p3], .cells 87 [.int .i64 p4, .int .i64 p5]])
  refine TS.draw' (id := 1) (b := true) (ops := c44.s2.s1.rops) (fin := ({ act := (st 14 [(3, .pointer (some ⟨0, 0, none⟩)), (4, .pointer (some ⟨1, 0, none⟩)), (5, .pointer (some ⟨2, 0, none⟩)), (7, .agg ⟨[.int .i64 p2, .int .i64 p3]⟩), (8, .agg ⟨[.int .i64 p0, .int .i64 p1]⟩), (9, .agg ⟨[.int .i64 r1.1, .int .i64 r1.2]⟩), (10, .agg ⟨[.int .i64 p4, .int .i64 p5]⟩), (11, .agg ⟨[.int .i64 p0, .int .i64 p1]⟩)]), heap := [.cells 87 [.int .i64 p0, .int .i64 p1], .cells 87 [.int .i64 p2, .int .i64 p3], .cells 87 [.int .i64 p4, .int .i64 p5]], own := [], upds := [] } : QSt)) (fin2 := ({ act := (st 14 [(3, .pointer (some ⟨0, 0, none⟩)), (4, .pointer (some ⟨1, 0, none⟩)), (5, .pointer (some ⟨2, 0, none⟩)), (7, .agg ⟨[.int .i64 p2, .int .i64 p3]⟩), (8, .agg ⟨[.int .i64 p0, .int .i64 p1]⟩), (9, .agg ⟨[.int .i64 r1.1, .int .i64 r1.2]⟩), (10, .agg ⟨[.int .i64 p4, .int .i64 p5]⟩), (11, .agg ⟨[.int .i64 p0, .int .i64 p1]⟩)]), heap := [.cells 87 [.int .i64 p0, .int .i64 p1], .cells 87 [.int .i64 p2, .int .i64 p3], .cells 87 [.int .i64 p4, .int .i64 p5]], own := [], upds := [] } : QSt)) (a1 := (st 14 [(3, .pointer (some ⟨0, 0, none⟩)), (4, .pointer (some ⟨1, 0, none⟩)), (5, .pointer (some ⟨2, 0, none⟩)), (6, .int .i64 r5), (7, .agg ⟨[.int .i64 p2, .int .i64 p3]⟩), (8, .agg ⟨[.int .i64 p0, .int .i64 p1]⟩), (9, .agg ⟨[.int .i64 r1.1, .int .i64 r1.2]⟩), (10, .agg ⟨[.int .i64 p4, .int .i64 p5]⟩), (11, .agg ⟨[.int .i64 p0, .int .i64 p1]⟩), (12, .agg ⟨[.int .i64 r3.1, .int .i64 r3.2]⟩), (13, .int .i64 r5)])) (h1 := [.cells 87 [.int .i64 p0, .int .i64 p1], .cells 87 [.int .i64 p2, .int .i64 p3], .cells 87 [.int .i64 p4, .int .i64 p5]]) (a2 := (st 14 [(6, .int .i64 r5)])) (h2 := [.dead, .dead, .dead]) [⟨65, [.agg ⟨[.int .i64 p2, .int .i64 p3]⟩, .agg ⟨[.int .i64 p0, .int .i64 p1]⟩], [.cells 87 [.int .i64 p0, .int .i64 p1], .cells 87 [.int .i64 p2, .int .i64 p3], .cells 87 [.int .i64 p4, .int .i64 p5]], .agg ⟨[.int .i64 r1.1, .int .i64 r1.2]⟩, []⟩, ⟨65, [.agg ⟨[.int .i64 p4, .int .i64 p5]⟩, .agg ⟨[.int .i64 p0, .int .i64 p1]⟩], [.cells 87 [.int .i64 p0, .int .i64 p1], .cells 87 [.int .i64 p2, .int .i64 p3], .cells 87 [.int .i64 p4, .int .i64 p5]], .agg ⟨[.int .i64 r3.1, .int .i64 r3.2]⟩, []⟩, ⟨66, [.agg ⟨[.int .i64 r1.1, .int .i64 r1.2]⟩, .agg ⟨[.int .i64 r3.1, .int .i64 r3.2]⟩], [.cells 87 [.int .i64 p0, .int .i64 p1], .cells 87 [.int .i64 p2, .int .i64 p3], .cells 87 [.int .i64 p4, .int .i64 p5]], .int .i64 r5, []⟩] hT mixed (by kernel_rfl) rfl 5 (by kernel_rfl) [] ?_ rfl (.inl ⟨rfl, rfl⟩) ?_ [6] [] (by kernel_rfl) ?_
  · refine QI.run (s1 := ({ act := (st 14 [(3, .pointer (some ⟨0, 0, none⟩)), (4, .pointer (some ⟨1, 0, none⟩)), (5, .pointer (some ⟨2, 0, none⟩)), (7, .agg ⟨[.int .i64 p2, .int .i64 p3]⟩), (8, .agg ⟨[.int .i64 p0, .int .i64 p1]⟩)]), heap := [.cells 87 [.int .i64 p0, .int .i64 p1], .cells 87 [.int .i64 p2, .int .i64 p3], .cells 87 [.int .i64 p4, .int .i64 p5]], own := [], upds := [] } : QSt)) 2 (by kernel_rfl) (by kernel_rfl) ?_
    refine QI.op (q := { val := .agg ⟨[.int .i64 r1.1, .int .i64 r1.2]⟩, new := [] }) (s1 := ({ act := (st 14 [(3, .pointer (some ⟨0, 0, none⟩)), (4, .pointer (some ⟨1, 0, none⟩)), (5, .pointer (some ⟨2, 0, none⟩)), (7, .agg ⟨[.int .i64 p2, .int .i64 p3]⟩), (8, .agg ⟨[.int .i64 p0, .int .i64 p1]⟩), (9, .agg ⟨[.int .i64 r1.1, .int .i64 r1.2]⟩)]), heap := [.cells 87 [.int .i64 p0, .int .i64 p1], .cells 87 [.int .i64 p2, .int .i64 p3], .cells 87 [.int .i64 p4, .int .i64 p5]], own := [], upds := [] } : QSt)) (by decide) (qOf_call (g := 65) (args := [.agg ⟨[.int .i64 p2, .int .i64 p3]⟩, .agg ⟨[.int .i64 p0, .int .i64 p1]⟩]) (by kernel_rfl) lookC_hit) (by kernel_rfl) ?_
    refine QI.run (s1 := ({ act := (st 14 [(3, .pointer (some ⟨0, 0, none⟩)), (4, .pointer (some ⟨1, 0, none⟩)), (5, .pointer (some ⟨2, 0, none⟩)), (7, .agg ⟨[.int .i64 p2, .int .i64 p3]⟩), (8, .agg ⟨[.int .i64 p0, .int .i64 p1]⟩), (9, .agg ⟨[.int .i64 r1.1, .int .i64 r1.2]⟩), (10, .agg ⟨[.int .i64 p4, .int .i64 p5]⟩), (11, .agg ⟨[.int .i64 p0, .int .i64 p1]⟩)]), heap := [.cells 87 [.int .i64 p0, .int .i64 p1], .cells 87 [.int .i64 p2, .int .i64 p3], .cells 87 [.int .i64 p4, .int .i64 p5]], own := [], upds := [] } : QSt)) 2 (by kernel_rfl) (by kernel_rfl) ?_
    exact QI.done (by kernel_rfl)
  · refine SI.op (q := { val := .agg ⟨[.int .i64 r3.1, .int .i64 r3.2]⟩, new := [] }) (a2 := (st 14 [(3, .pointer (some ⟨0, 0, none⟩)), (4, .pointer (some ⟨1, 0, none⟩)), (5, .pointer (some ⟨2, 0, none⟩)), (7, .agg ⟨[.int .i64 p2, .int .i64 p3]⟩), (8, .agg ⟨[.int .i64 p0, .int .i64 p1]⟩), (9, .agg ⟨[.int .i64 r1.1, .int .i64 r1.2]⟩), (10, .agg ⟨[.int .i64 p4, .int .i64 p5]⟩), (11, .agg ⟨[.int .i64 p0, .int .i64 p1]⟩), (12, .agg ⟨[.int .i64 r3.1, .int .i64 r3.2]⟩)])) (h2 := [.cells 87 [.int .i64 p0, .int .i64 p1], .cells 87 [.int .i64 p2, .int .i64 p3], .cells 87 [.int .i64 p4, .int .i64 p5]]) (by kernel_rfl) (qOf_call (g := 65) (args := [.agg ⟨[.int .i64 p4, .int .i64 p5]⟩, .agg ⟨[.int .i64 p0, .int .i64 p1]⟩]) (by kernel_rfl) (lookC_skip (by intro _ ha _; have hq := h2; have hi := h4; clear hF; first | (exfalso; simp at ha; done) | ((try simp at ha); have hr := Option.some.inj (hq.symm.trans (Eq.trans (by first | rfl | (congr 1 <;> first | rfl | omega | simp_all)) hi)); subst hr; rfl)) lookC_hit)) (by kernel_rfl) (by kernel_rfl) ?_
    refine SI.op (q := { val := .int .i64 r5, new := [] }) (a2 := (st 14 [(3, .pointer (some ⟨0, 0, none⟩)), (4, .pointer (some ⟨1, 0, none⟩)), (5, .pointer (some ⟨2, 0, none⟩)), (7, .agg ⟨[.int .i64 p2, .int .i64 p3]⟩), (8, .agg ⟨[.int .i64 p0, .int .i64 p1]⟩), (9, .agg ⟨[.int .i64 r1.1, .int .i64 r1.2]⟩), (10, .agg ⟨[.int .i64 p4, .int .i64 p5]⟩), (11, .agg ⟨[.int .i64 p0, .int .i64 p1]⟩), (12, .agg ⟨[.int .i64 r3.1, .int .i64 r3.2]⟩), (13, .int .i64 r5)])) (h2 := [.cells 87 [.int .i64 p0, .int .i64 p1], .cells 87 [.int .i64 p2, .int .i64 p3], .cells 87 [.int .i64 p4, .int .i64 p5]]) (by kernel_rfl) (qOf_call (g := 66) (args := [.agg ⟨[.int .i64 r1.1, .int .i64 r1.2]⟩, .agg ⟨[.int .i64 r3.1, .int .i64 r3.2]⟩]) (by kernel_rfl) (lookC_skip (fun hg => absurd (show (65 : Nat) = 66 from hg) (by decide)) (lookC_skip (fun hg => absurd (show (65 : Nat) = 66 from hg) (by decide)) lookC_hit))) (by kernel_rfl) (by kernel_rfl) ?_
    refine SI.run (a2 := (st 14 [(3, .pointer (some ⟨0, 0, none⟩)), (4, .pointer (some ⟨1, 0, none⟩)), (5, .pointer (some ⟨2, 0, none⟩)), (6, .int .i64 r5), (7, .agg ⟨[.int .i64 p2, .int .i64 p3]⟩), (8, .agg ⟨[.int .i64 p0, .int .i64 p1]⟩), (9, .agg ⟨[.int .i64 r1.1, .int .i64 r1.2]⟩), (10, .agg ⟨[.int .i64 p4, .int .i64 p5]⟩), (11, .agg ⟨[.int .i64 p0, .int .i64 p1]⟩), (12, .agg ⟨[.int .i64 r3.1, .int .i64 r3.2]⟩), (13, .int .i64 r5)])) (h2 := [.cells 87 [.int .i64 p0, .int .i64 p1], .cells 87 [.int .i64 p2, .int .i64 p3], .cells 87 [.int .i64 p4, .int .i64 p5]]) 1 (by kernel_rfl) ?_
    exact SI.done (by kernel_rfl)
  refine TS.ret' (by kernel_rfl) ?_
  have hF := Option.some.inj hF
  subst hF
  exact ⟨.inr rfl, rfl, .int .i64 r5, by kernel_rfl, WkV.flat0 (by kernel_rfl) (Nat.le_of_ble_eq_true rfl)⟩
theorem C44 (p0 : Int) (p1 : Int) (p2 : Int) (p3 : Int) (p4 : Int) (p5 : Int) (r : Int) (hF : F44 p0 p1 p2 p3 p4 p5 = some r) : PureSim Try.prog 44 [.agg ⟨[.int .i64 p0, .int .i64 p1]⟩, .agg ⟨[.int .i64 p2, .int .i64 p3]⟩, .agg ⟨[.int .i64 p4, .int .i64 p5]⟩] [] (V44 0 r) (N44 0 r) :=
  PureSim.of_Fin Try.func44 (c := c44) (by kernel_rfl) (by kernel_rfl) 0 rfl [0, 1, 2] [] (by kernel_rfl) (B44 p0 p1 p2 p3 p4 p5 r hF)

-- agonic/chart.sign
noncomputable def c43 : Code := Try.f43.code
def F43 (p0 : Int) : Option Int :=
  some (mn 1 (mx (-1) p0))
def V43 (b : Nat) (r : Int) : Value := .int .i64 r
def N43 (b : Nat) (r : Int) : List Blk := []
theorem B43 (p0 : Int) (r : Int) (hF : F43 p0 = some r) : TS Try.prog 0 0 c43 (st 6 [(0, .int .i64 p0)]) [] (NX Try.prog 0 0 [] (FinP Try.prog Try.f43 0 (V43 0 r) (N43 0 r))) := by
  unfold F43 at hF
  refine TS.seq' (x := c43.s1) (y := c43.s2) (by kernel_rfl) ?_
  refine TS.region' (id := 0) (b := false) (ops := c43.s1.rops) (by kernel_rfl) rfl ?_
  refine TI.run 1 [0] [] (a2 := (st 6 [(0, .int .i64 p0)])) (h2 := []) (by kernel_rfl) ?_
  refine TI.done (by kernel_rfl) ?_
  refine NX.sq ?_
  refine TS.seq' (x := c43.s2.s1) (y := c43.s2.s2) (by kernel_rfl) ?_
  refine TS.region' (id := 1) (b := false) (ops := c43.s2.s1.rops) (by kernel_rfl) rfl ?_
  refine TI.run 4 [2] [] (a2 := (st 6 [(2, .int .i64 (mn 1 (mx (-1) p0)))])) (h2 := []) (by kernel_rfl) ?_
  refine TI.done (by kernel_rfl) ?_
  refine NX.sq ?_
  refine TS.ret' (by kernel_rfl) ?_
  have hF := Option.some.inj hF
  subst hF
  exact ⟨.inr rfl, rfl, .int .i64 (mn 1 (mx (-1) p0)), by kernel_rfl, WkV.flat0 (by kernel_rfl) (Nat.le_of_ble_eq_true rfl)⟩
theorem C43 (p0 : Int) (r : Int) (hF : F43 p0 = some r) : PureSim Try.prog 43 [.int .i64 p0] [] (V43 0 r) (N43 0 r) :=
  PureSim.of_Fin Try.func43 (c := c43) (by kernel_rfl) (by kernel_rfl) 0 rfl [0] [] (by kernel_rfl) (B43 p0 r hF)

-- agonic/chart.Side
noncomputable def c13 : Code := Try.f13.code
def F13 (p0 : Int) (p1 : Int) (p2 : Int) (p3 : Int) (p4 : Int) (p5 : Int) (p6 : Int) (p7 : Int) (p8 : Int) (p9 : Int) (p10 : Int) (p11 : Int) : Option (Int × Int) :=
  F41 p0 p1 p2 p3 >>= fun r1 =>
  F42 r1.1 r1.2 >>= fun r3 =>
  (
    if r3 then
      F41 p4 p5 p6 p7 >>= fun r5 =>
      F42 r5.1 r5.2 >>= fun r7 =>
      if r7 then
        F41 p8 p9 p10 p11 >>= fun r9 =>
        F42 r9.1 r9.2 >>= fun r11 =>
        if r11 then
          some (false)
        else
          some (true)
      else
        some (true)
    else
      some (true)
  : Option Bool) >>= fun m13 =>
  if m13 then
    some (0, 1)
  else
    F41 p0 p1 p2 p3 >>= fun r14 =>
    F41 p4 p5 p6 p7 >>= fun r16 =>
    F41 p8 p9 p10 p11 >>= fun r18 =>
    F44 r14.1 r14.2 r16.1 r16.2 r18.1 r18.2 >>= fun r20 =>
    F43 r20 >>= fun r22 =>
    some (r22, 0)
def V13 (b : Nat) (r : (Int × Int)) : Value := .tuple ⟨[.int .i64 r.1, .int .i64 r.2]⟩
def N13 (b : Nat) (r : (Int × Int)) : List Blk := []
theorem B13 (p0 : Int) (p1 : Int) (p2 : Int) (p3 : Int) (p4 : Int) (p5 : Int) (p6 : Int) (p7 : Int) (p8 : Int) (p9 : Int) (p10 : Int) (p11 : Int) (r : (Int × Int)) (hF : F13 p0 p1 p2 p3 p4 p5 p6 p7 p8 p9 p10 p11 = some r) : TS Try.prog 0 0 c13 (st 32 [(0, .agg ⟨[.int .i64 p0, .int .i64 p1, .int .i64 p2, .int .i64 p3]⟩), (1, .agg ⟨[.int .i64 p4, .int .i64 p5, .int .i64 p6, .int .i64 p7]⟩), (2, .agg ⟨[.int .i64 p8, .int .i64 p9, .int .i64 p10, .int .i64 p11]⟩)]) [] (NX Try.prog 0 0 [] (FinP Try.prog Try.f13 0 (V13 0 r) (N13 0 r))) := by
  unfold F13 at hF
  refine TS.seq' (x := c13.s1) (y := c13.s2) (by kernel_rfl) ?_
  refine TS.region' (id := 0) (b := false) (ops := c13.s1.rops) (by kernel_rfl) rfl ?_
  refine TI.run 5 [3, 4, 5] [0, 1, 2] (a2 := (st 32 [(3, .pointer (some ⟨0, 0, none⟩)), (4, .pointer (some ⟨1, 0, none⟩)), (5, .pointer (some ⟨2, 0, none⟩))])) (h2 := [.cells 25 [.int .i64 p0, .int .i64 p1, .int .i64 p2, .int .i64 p3], .cells 25 [.int .i64 p4, .int .i64 p5, .int .i64 p6, .int .i64 p7], .cells 25 [.int .i64 p8, .int .i64 p9, .int .i64 p10, .int .i64 p11]]) (by kernel_rfl) ?_
  refine TI.done (by kernel_rfl) ?_
  refine NX.sq ?_
  refine TS.seq' (x := c13.s2.s1) (y := c13.s2.s2) (by kernel_rfl) ?_
  refine TS.seq' (x := c13.s2.s1.s1) (y := c13.s2.s1.s2) (by kernel_rfl) ?_
  have hX := of_do hF
  clear hF
  obtain ⟨r1, h2, hF⟩ := hX
  have hX := of_do hF
  clear hF
  obtain ⟨r3, h4, hF⟩ := hX
  have hX := of_do hF
  clear hF
  obtain ⟨m13, hm24, hF⟩ := hX
  have hK : NX Try.prog 0 0 [.sq c13.s2.s1.s2, .sq c13.s2.s2] (FinP Try.prog Try.f13 0 (V13 0 r) (N13 0 r)) .normal (st 32 [(3, .pointer (some ⟨0, 0, none⟩)), (4, .pointer (some ⟨1, 0, none⟩)), (5, .pointer (some ⟨2, 0, none⟩)), (23, .bool m13)]) [.cells 25 [.int .i64 p0, .int .i64 p1, .int .i64 p2, .int .i64 p3], .cells 25 [.int .i64 p4, .int .i64 p5, .int .i64 p6, .int .i64 p7], .cells 25 [.int .i64 p8, .int .i64 p9, .int .i64 p10, .int .i64 p11]] := by
    refine NX.sq ?_
    cases m13 with
    | true =>
      replace hF := of_pos hF rfl
      refine TS.condT' (o := (.tmp 23)) (x := c13.s2.s1.s2.th) (y := c13.s2.s1.s2.el) (by kernel_rfl) (by kernel_rfl) ?_
      refine TS.seq' (x := c13.s2.s1.s2.th.s1) (y := c13.s2.s1.s2.th.s2) (by kernel_rfl) ?_
      refine TS.region' (id := 2) (b := false) (ops := c13.s2.s1.s2.th.s1.rops) (by kernel_rfl) rfl ?_
      refine TI.run 2 [6, 7] [] (a2 := (st 32 [(6, .int .i64 0), (7, .int .i64 1)])) (h2 := [.dead, .dead, .dead]) (by kernel_rfl) ?_
      refine TI.done (by kernel_rfl) ?_
      refine NX.sq ?_
      refine TS.ret' (by kernel_rfl) ?_
      refine NX.sqR ?_
      have hF := Option.some.inj hF
      subst hF
      exact ⟨.inr rfl, rfl, .tuple ⟨[.int .i64 0, .int .i64 1]⟩, by kernel_rfl, WkV.flat0 (by kernel_rfl) (Nat.le_of_ble_eq_true rfl)⟩
    | false =>
      replace hF := of_neg hF rfl
      refine TS.condF' (o := (.tmp 23)) (x := c13.s2.s1.s2.th) (y := c13.s2.s1.s2.el) (by kernel_rfl) (by kernel_rfl) ?_
      refine TS.skip' (by kernel_rfl) ?_
      refine NX.sq ?_
      refine TS.seq' (x := c13.s2.s2.s1) (y := c13.s2.s2.s2) (by kernel_rfl) ?_
      have hX := of_do hF
      clear hF
      obtain ⟨r14, h15, hF⟩ := hX
      have hX := of_do hF
      clear hF
      obtain ⟨r16, h17, hF⟩ := hX
      have hX := of_do hF
      clear hF
      obtain ⟨r18, h19, hF⟩ := hX
      have hX := of_do hF
      clear hF
      obtain ⟨r20, h21, hF⟩ := hX
      have hX := of_do hF
      clear hF
      obtain ⟨r22, h23, hF⟩ := hX
      have hT : ∀ e ∈ ([⟨41, [.agg ⟨[.int .i64 p0, .int .i64 p1, .int .i64 p2, .int .i64 p3]⟩], [.cells 25 [.int .i64 p0, .int .i64 p1, .int .i64 p2, .int .i64 p3], .cells 25 [.int .i64 p4, .int .i64 p5, .int .i64 p6, .int .i64 p7], .cells 25 [.int .i64 p8, .int .i64 p9, .int .i64 p10, .int .i64 p11]], .agg ⟨[.int .i64 r14.1, .int .i64 r14.2]⟩, []⟩, ⟨41, [.agg ⟨[.int .i64 p4, .int .i64 p5, .int .i64 p6, .int .i64 p7]⟩], [.cells 25 [.int .i64 p0, .int .i64 p1, .int .i64 p2, .int .i64 p3], .cells 25 [.int .i64 p4, .int .i64 p5, .int .i64 p6, .int .i64 p7], .cells 25 [.int .i64 p8, .int .i64 p9, .int .i64 p10, .int .i64 p11]], .agg ⟨[.int .i64 r16.1, .int .i64 r16.2]⟩, []⟩, ⟨41, [.agg ⟨[.int .i64 p8, .int .i64 p9, .int .i64 p10, .int .i64 p11]⟩], [.cells 25 [.int .i64 p0, .int .i64 p1, .int .i64 p2, .int .i64 p3], .cells 25 [.int .i64 p4, .int .i64 p5, .int .i64 p6, .int .i64 p7], .cells 25 [.int .i64 p8, .int .i64 p9, .int .i64 p10, .int .i64 p11]], .agg ⟨[.int .i64 r18.1, .int .i64 r18.2]⟩, []⟩, ⟨44, [.agg ⟨[.int .i64 r14.1, .int .i64 r14.2]⟩, .agg ⟨[.int .i64 r16.1, .int .i64 r16.2]⟩, .agg ⟨[.int .i64 r18.1, .int .i64 r18.2]⟩], [.cells 25 [.int .i64 p0, .int .i64 p1, .int .i64 p2, .int .i64 p3], .cells 25 [.int .i64 p4, .int .i64 p5, .int .i64 p6, .int .i64 p7], .cells 25 [.int .i64 p8, .int .i64 p9, .int .i64 p10, .int .i64 p11]], .int .i64 r20, []⟩, ⟨43, [.int .i64 r20], [.cells 25 [.int .i64 p0, .int .i64 p1, .int .i64 p2, .int .i64 p3], .cells 25 [.int .i64 p4, .int .i64 p5, .int .i64 p6, .int .i64 p7], .cells 25 [.int .i64 p8, .int .i64 p9, .int .i64 p10, .int .i64 p11]], .int .i64 r22, []⟩] : List Entry), PureSim Try.prog e.g e.args e.h e.v e.new := by
        intro e he
        simp only [List.mem_cons, List.not_mem_nil, or_false] at he
        rcases he with rfl | rfl | rfl | rfl | rfl
        · exact (PureSim.any (C41 p0 p1 p2 p3 r14 h15) (flatL (by kernel_rfl)) (by kernel_rfl) [.cells 25 [.int .i64 p0, .int .i64 p1, .int .i64 p2, .int .i64 p3], .cells 25 [.int .i64 p4, .int .i64 p5, .int .i64 p6, .int .i64 p7], .cells 25 [.int .i64 p8, .int .i64 p9, .int .i64 p10, .int .i64 p11]])
        · exact (PureSim.any (C41 p4 p5 p6 p7 r16 h17) (flatL (by kernel_rfl)) (by kernel_rfl) [.cells 25 [.int .i64 p0, .int .i64 p1, .int .i64 p2, .int .i64 p3], .cells 25 [.int .i64 p4, .int .i64 p5, .int .i64 p6, .int .i64 p7], .cells 25 [.int .i64 p8, .int .i64 p9, .int .i64 p10, .int .i64 p11]])
        · exact (PureSim.any (C41 p8 p9 p10 p11 r18 h19) (flatL (by kernel_rfl)) (by kernel_rfl) [.cells 25 [.int .i64 p0, .int .i64 p1, .int .i64 p2, .int .i64 p3], .cells 25 [.int .i64 p4, .int .i64 p5, .int .i64 p6, .int .i64 p7], .cells 25 [.int .i64 p8, .int .i64 p9, .int .i64 p10, .int .i64 p11]])
        · exact (PureSim.any (C44 r14.1 r14.2 r16.1 r16.2 r18.1 r18.2 r20 h21) (flatL (by kernel_rfl)) (by kernel_rfl) [.cells 25 [.int .i64 p0, .int .i64 p1, .int .i64 p2, .int .i64 p3], .cells 25 [.int .i64 p4, .int .i64 p5, .int .i64 p6, .int .i64 p7], .cells 25 [.int .i64 p8, .int .i64 p9, .int .i64 p10, .int .i64 p11]])
        · exact (PureSim.any (C43 r20 r22 h23) (flatL (by kernel_rfl)) (by kernel_rfl) [.cells 25 [.int .i64 p0, .int .i64 p1, .int .i64 p2, .int .i64 p3], .cells 25 [.int .i64 p4, .int .i64 p5, .int .i64 p6, .int .i64 p7], .cells 25 [.int .i64 p8, .int .i64 p9, .int .i64 p10, .int .i64 p11]])
      refine TS.draw' (id := 3) (b := true) (ops := c13.s2.s2.s1.rops) (fin := ({ act := (st 32 [(3, .pointer (some ⟨0, 0, none⟩)), (4, .pointer (some ⟨1, 0, none⟩)), (5, .pointer (some ⟨2, 0, none⟩)), (23, .bool false), (24, .agg ⟨[.int .i64 p0, .int .i64 p1, .int .i64 p2, .int .i64 p3]⟩), (25, .agg ⟨[.int .i64 r14.1, .int .i64 r14.2]⟩), (26, .agg ⟨[.int .i64 p4, .int .i64 p5, .int .i64 p6, .int .i64 p7]⟩), (27, .agg ⟨[.int .i64 r16.1, .int .i64 r16.2]⟩), (28, .agg ⟨[.int .i64 p8, .int .i64 p9, .int .i64 p10, .int .i64 p11]⟩)]), heap := [.cells 25 [.int .i64 p0, .int .i64 p1, .int .i64 p2, .int .i64 p3], .cells 25 [.int .i64 p4, .int .i64 p5, .int .i64 p6, .int .i64 p7], .cells 25 [.int .i64 p8, .int .i64 p9, .int .i64 p10, .int .i64 p11]], own := [], upds := [] } : QSt)) (fin2 := ({ act := (st 32 [(3, .pointer (some ⟨0, 0, none⟩)), (4, .pointer (some ⟨1, 0, none⟩)), (5, .pointer (some ⟨2, 0, none⟩)), (23, .bool false), (24, .agg ⟨[.int .i64 p0, .int .i64 p1, .int .i64 p2, .int .i64 p3]⟩), (25, .agg ⟨[.int .i64 r14.1, .int .i64 r14.2]⟩), (26, .agg ⟨[.int .i64 p4, .int .i64 p5, .int .i64 p6, .int .i64 p7]⟩), (27, .agg ⟨[.int .i64 r16.1, .int .i64 r16.2]⟩), (28, .agg ⟨[.int .i64 p8, .int .i64 p9, .int .i64 p10, .int .i64 p11]⟩)]), heap := [.cells 25 [.int .i64 p0, .int .i64 p1, .int .i64 p2, .int .i64 p3], .cells 25 [.int .i64 p4, .int .i64 p5, .int .i64 p6, .int .i64 p7], .cells 25 [.int .i64 p8, .int .i64 p9, .int .i64 p10, .int .i64 p11]], own := [], upds := [] } : QSt)) (a1 := (st 32 [(3, .pointer (some ⟨0, 0, none⟩)), (4, .pointer (some ⟨1, 0, none⟩)), (5, .pointer (some ⟨2, 0, none⟩)), (6, .int .i64 r22), (7, .int .i64 0), (23, .bool false), (24, .agg ⟨[.int .i64 p0, .int .i64 p1, .int .i64 p2, .int .i64 p3]⟩), (25, .agg ⟨[.int .i64 r14.1, .int .i64 r14.2]⟩), (26, .agg ⟨[.int .i64 p4, .int .i64 p5, .int .i64 p6, .int .i64 p7]⟩), (27, .agg ⟨[.int .i64 r16.1, .int .i64 r16.2]⟩), (28, .agg ⟨[.int .i64 p8, .int .i64 p9, .int .i64 p10, .int .i64 p11]⟩), (29, .agg ⟨[.int .i64 r18.1, .int .i64 r18.2]⟩), (30, .int .i64 r20), (31, .int .i64 r22)])) (h1 := [.cells 25 [.int .i64 p0, .int .i64 p1, .int .i64 p2, .int .i64 p3], .cells 25 [.int .i64 p4, .int .i64 p5, .int .i64 p6, .int .i64 p7], .cells 25 [.int .i64 p8, .int .i64 p9, .int .i64 p10, .int .i64 p11]]) (a2 := (st 32 [(6, .int .i64 r22), (7, .int .i64 0)])) (h2 := [.dead, .dead, .dead]) [⟨41, [.agg ⟨[.int .i64 p0, .int .i64 p1, .int .i64 p2, .int .i64 p3]⟩], [.cells 25 [.int .i64 p0, .int .i64 p1, .int .i64 p2, .int .i64 p3], .cells 25 [.int .i64 p4, .int .i64 p5, .int .i64 p6, .int .i64 p7], .cells 25 [.int .i64 p8, .int .i64 p9, .int .i64 p10, .int .i64 p11]], .agg ⟨[.int .i64 r14.1, .int .i64 r14.2]⟩, []⟩, ⟨41, [.agg ⟨[.int .i64 p4, .int .i64 p5, .int .i64 p6, .int .i64 p7]⟩], [.cells 25 [.int .i64 p0, .int .i64 p1, .int .i64 p2, .int .i64 p3], .cells 25 [.int .i64 p4, .int .i64 p5, .int .i64 p6, .int .i64 p7], .cells 25 [.int .i64 p8, .int .i64 p9, .int .i64 p10, .int .i64 p11]], .agg ⟨[.int .i64 r16.1, .int .i64 r16.2]⟩, []⟩, ⟨41, [.agg ⟨[.int .i64 p8, .int .i64 p9, .int .i64 p10, .int .i64 p11]⟩], [.cells 25 [.int .i64 p0, .int .i64 p1, .int .i64 p2, .int .i64 p3], .cells 25 [.int .i64 p4, .int .i64 p5, .int .i64 p6, .int .i64 p7], .cells 25 [.int .i64 p8, .int .i64 p9, .int .i64 p10, .int .i64 p11]], .agg ⟨[.int .i64 r18.1, .int .i64 r18.2]⟩, []⟩, ⟨44, [.agg ⟨[.int .i64 r14.1, .int .i64 r14.2]⟩, .agg ⟨[.int .i64 r16.1, .int .i64 r16.2]⟩, .agg ⟨[.int .i64 r18.1, .int .i64 r18.2]⟩], [.cells 25 [.int .i64 p0, .int .i64 p1, .int .i64 p2, .int .i64 p3], .cells 25 [.int .i64 p4, .int .i64 p5, .int .i64 p6, .int .i64 p7], .cells 25 [.int .i64 p8, .int .i64 p9, .int .i64 p10, .int .i64 p11]], .int .i64 r20, []⟩, ⟨43, [.int .i64 r20], [.cells 25 [.int .i64 p0, .int .i64 p1, .int .i64 p2, .int .i64 p3], .cells 25 [.int .i64 p4, .int .i64 p5, .int .i64 p6, .int .i64 p7], .cells 25 [.int .i64 p8, .int .i64 p9, .int .i64 p10, .int .i64 p11]], .int .i64 r22, []⟩] hT mixed (by kernel_rfl) rfl 5 (by kernel_rfl) [] ?_ rfl (.inl ⟨rfl, rfl⟩) ?_ [6, 7] [] (by kernel_rfl) ?_
      · refine QI.run (s1 := ({ act := (st 32 [(3, .pointer (some ⟨0, 0, none⟩)), (4, .pointer (some ⟨1, 0, none⟩)), (5, .pointer (some ⟨2, 0, none⟩)), (23, .bool false), (24, .agg ⟨[.int .i64 p0, .int .i64 p1, .int .i64 p2, .int .i64 p3]⟩)]), heap := [.cells 25 [.int .i64 p0, .int .i64 p1, .int .i64 p2, .int .i64 p3], .cells 25 [.int .i64 p4, .int .i64 p5, .int .i64 p6, .int .i64 p7], .cells 25 [.int .i64 p8, .int .i64 p9, .int .i64 p10, .int .i64 p11]], own := [], upds := [] } : QSt)) 1 (by kernel_rfl) (by kernel_rfl) ?_
        refine QI.op (q := { val := .agg ⟨[.int .i64 r14.1, .int .i64 r14.2]⟩, new := [] }) (s1 := ({ act := (st 32 [(3, .pointer (some ⟨0, 0, none⟩)), (4, .pointer (some ⟨1, 0, none⟩)), (5, .pointer (some ⟨2, 0, none⟩)), (23, .bool false), (24, .agg ⟨[.int .i64 p0, .int .i64 p1, .int .i64 p2, .int .i64 p3]⟩), (25, .agg ⟨[.int .i64 r14.1, .int .i64 r14.2]⟩)]), heap := [.cells 25 [.int .i64 p0, .int .i64 p1, .int .i64 p2, .int .i64 p3], .cells 25 [.int .i64 p4, .int .i64 p5, .int .i64 p6, .int .i64 p7], .cells 25 [.int .i64 p8, .int .i64 p9, .int .i64 p10, .int .i64 p11]], own := [], upds := [] } : QSt)) (by decide) (qOf_call (g := 41) (args := [.agg ⟨[.int .i64 p0, .int .i64 p1, .int .i64 p2, .int .i64 p3]⟩]) (by kernel_rfl) lookC_hit) (by kernel_rfl) ?_
        refine QI.run (s1 := ({ act := (st 32 [(3, .pointer (some ⟨0, 0, none⟩)), (4, .pointer (some ⟨1, 0, none⟩)), (5, .pointer (some ⟨2, 0, none⟩)), (23, .bool false), (24, .agg ⟨[.int .i64 p0, .int .i64 p1, .int .i64 p2, .int .i64 p3]⟩), (25, .agg ⟨[.int .i64 r14.1, .int .i64 r14.2]⟩), (26, .agg ⟨[.int .i64 p4, .int .i64 p5, .int .i64 p6, .int .i64 p7]⟩)]), heap := [.cells 25 [.int .i64 p0, .int .i64 p1, .int .i64 p2, .int .i64 p3], .cells 25 [.int .i64 p4, .int .i64 p5, .int .i64 p6, .int .i64 p7], .cells 25 [.int .i64 p8, .int .i64 p9, .int .i64 p10, .int .i64 p11]], own := [], upds := [] } : QSt)) 1 (by kernel_rfl) (by kernel_rfl) ?_
        refine QI.op (q := { val := .agg ⟨[.int .i64 r16.1, .int .i64 r16.2]⟩, new := [] }) (s1 := ({ act := (st 32 [(3, .pointer (some ⟨0, 0, none⟩)), (4, .pointer (some ⟨1, 0, none⟩)), (5, .pointer (some ⟨2, 0, none⟩)), (23, .bool false), (24, .agg ⟨[.int .i64 p0, .int .i64 p1, .int .i64 p2, .int .i64 p3]⟩), (25, .agg ⟨[.int .i64 r14.1, .int .i64 r14.2]⟩), (26, .agg ⟨[.int .i64 p4, .int .i64 p5, .int .i64 p6, .int .i64 p7]⟩), (27, .agg ⟨[.int .i64 r16.1, .int .i64 r16.2]⟩)]), heap := [.cells 25 [.int .i64 p0, .int .i64 p1, .int .i64 p2, .int .i64 p3], .cells 25 [.int .i64 p4, .int .i64 p5, .int .i64 p6, .int .i64 p7], .cells 25 [.int .i64 p8, .int .i64 p9, .int .i64 p10, .int .i64 p11]], own := [], upds := [] } : QSt)) (by decide) (qOf_call (g := 41) (args := [.agg ⟨[.int .i64 p4, .int .i64 p5, .int .i64 p6, .int .i64 p7]⟩]) (by kernel_rfl) (lookC_skip (by intro _ ha _; have hq := h15; have hi := h17; clear hF; first | (exfalso; simp at ha; done) | ((try simp at ha); have hr := Option.some.inj (hq.symm.trans (Eq.trans (by first | rfl | (congr 1 <;> first | rfl | omega | simp_all)) hi)); subst hr; rfl)) lookC_hit)) (by kernel_rfl) ?_
        refine QI.run (s1 := ({ act := (st 32 [(3, .pointer (some ⟨0, 0, none⟩)), (4, .pointer (some ⟨1, 0, none⟩)), (5, .pointer (some ⟨2, 0, none⟩)), (23, .bool false), (24, .agg ⟨[.int .i64 p0, .int .i64 p1, .int .i64 p2, .int .i64 p3]⟩), (25, .agg ⟨[.int .i64 r14.1, .int .i64 r14.2]⟩), (26, .agg ⟨[.int .i64 p4, .int .i64 p5, .int .i64 p6, .int .i64 p7]⟩), (27, .agg ⟨[.int .i64 r16.1, .int .i64 r16.2]⟩), (28, .agg ⟨[.int .i64 p8, .int .i64 p9, .int .i64 p10, .int .i64 p11]⟩)]), heap := [.cells 25 [.int .i64 p0, .int .i64 p1, .int .i64 p2, .int .i64 p3], .cells 25 [.int .i64 p4, .int .i64 p5, .int .i64 p6, .int .i64 p7], .cells 25 [.int .i64 p8, .int .i64 p9, .int .i64 p10, .int .i64 p11]], own := [], upds := [] } : QSt)) 1 (by kernel_rfl) (by kernel_rfl) ?_
        exact QI.done (by kernel_rfl)
      · refine SI.op (q := { val := .agg ⟨[.int .i64 r18.1, .int .i64 r18.2]⟩, new := [] }) (a2 := (st 32 [(3, .pointer (some ⟨0, 0, none⟩)), (4, .pointer (some ⟨1, 0, none⟩)), (5, .pointer (some ⟨2, 0, none⟩)), (23, .bool false), (24, .agg ⟨[.int .i64 p0, .int .i64 p1, .int .i64 p2, .int .i64 p3]⟩), (25, .agg ⟨[.int .i64 r14.1, .int .i64 r14.2]⟩), (26, .agg ⟨[.int .i64 p4, .int .i64 p5, .int .i64 p6, .int .i64 p7]⟩), (27, .agg ⟨[.int .i64 r16.1, .int .i64 r16.2]⟩), (28, .agg ⟨[.int .i64 p8, .int .i64 p9, .int .i64 p10, .int .i64 p11]⟩), (29, .agg ⟨[.int .i64 r18.1, .int .i64 r18.2]⟩)])) (h2 := [.cells 25 [.int .i64 p0, .int .i64 p1, .int .i64 p2, .int .i64 p3], .cells 25 [.int .i64 p4, .int .i64 p5, .int .i64 p6, .int .i64 p7], .cells 25 [.int .i64 p8, .int .i64 p9, .int .i64 p10, .int .i64 p11]]) (by kernel_rfl) (qOf_call (g := 41) (args := [.agg ⟨[.int .i64 p8, .int .i64 p9, .int .i64 p10, .int .i64 p11]⟩]) (by kernel_rfl) (lookC_skip (by intro _ ha _; have hq := h15; have hi := h19; clear hF; first | (exfalso; simp at ha; done) | ((try simp at ha); have hr := Option.some.inj (hq.symm.trans (Eq.trans (by first | rfl | (congr 1 <;> first | rfl | omega | simp_all)) hi)); subst hr; rfl)) (lookC_skip (by intro _ ha _; have hq := h17; have hi := h19; clear hF; first | (exfalso; simp at ha; done) | ((try simp at ha); have hr := Option.some.inj (hq.symm.trans (Eq.trans (by first | rfl | (congr 1 <;> first | rfl | omega | simp_all)) hi)); subst hr; rfl)) lookC_hit))) (by kernel_rfl) (by kernel_rfl) ?_
        refine SI.op (q := { val := .int .i64 r20, new := [] }) (a2 := (st 32 [(3, .pointer (some ⟨0, 0, none⟩)), (4, .pointer (some ⟨1, 0, none⟩)), (5, .pointer (some ⟨2, 0, none⟩)), (23, .bool false), (24, .agg ⟨[.int .i64 p0, .int .i64 p1, .int .i64 p2, .int .i64 p3]⟩), (25, .agg ⟨[.int .i64 r14.1, .int .i64 r14.2]⟩), (26, .agg ⟨[.int .i64 p4, .int .i64 p5, .int .i64 p6, .int .i64 p7]⟩), (27, .agg ⟨[.int .i64 r16.1, .int .i64 r16.2]⟩), (28, .agg ⟨[.int .i64 p8, .int .i64 p9, .int .i64 p10, .int .i64 p11]⟩), (29, .agg ⟨[.int .i64 r18.1, .int .i64 r18.2]⟩), (30, .int .i64 r20)])) (h2 := [.cells 25 [.int .i64 p0, .int .i64 p1, .int .i64 p2, .int .i64 p3], .cells 25 [.int .i64 p4, .int .i64 p5, .int .i64 p6, .int .i64 p7], .cells 25 [.int .i64 p8, .int .i64 p9, .int .i64 p10, .int .i64 p11]]) (by kernel_rfl) (qOf_call (g := 44) (args := [.agg ⟨[.int .i64 r14.1, .int .i64 r14.2]⟩, .agg ⟨[.int .i64 r16.1, .int .i64 r16.2]⟩, .agg ⟨[.int .i64 r18.1, .int .i64 r18.2]⟩]) (by kernel_rfl) (lookC_skip (fun hg => absurd (show (41 : Nat) = 44 from hg) (by decide)) (lookC_skip (fun hg => absurd (show (41 : Nat) = 44 from hg) (by decide)) (lookC_skip (fun hg => absurd (show (41 : Nat) = 44 from hg) (by decide)) lookC_hit)))) (by kernel_rfl) (by kernel_rfl) ?_
        refine SI.op (q := { val := .int .i64 r22, new := [] }) (a2 := (st 32 [(3, .pointer (some ⟨0, 0, none⟩)), (4, .pointer (some ⟨1, 0, none⟩)), (5, .pointer (some ⟨2, 0, none⟩)), (23, .bool false), (24, .agg ⟨[.int .i64 p0, .int .i64 p1, .int .i64 p2, .int .i64 p3]⟩), (25, .agg ⟨[.int .i64 r14.1, .int .i64 r14.2]⟩), (26, .agg ⟨[.int .i64 p4, .int .i64 p5, .int .i64 p6, .int .i64 p7]⟩), (27, .agg ⟨[.int .i64 r16.1, .int .i64 r16.2]⟩), (28, .agg ⟨[.int .i64 p8, .int .i64 p9, .int .i64 p10, .int .i64 p11]⟩), (29, .agg ⟨[.int .i64 r18.1, .int .i64 r18.2]⟩), (30, .int .i64 r20), (31, .int .i64 r22)])) (h2 := [.cells 25 [.int .i64 p0, .int .i64 p1, .int .i64 p2, .int .i64 p3], .cells 25 [.int .i64 p4, .int .i64 p5, .int .i64 p6, .int .i64 p7], .cells 25 [.int .i64 p8, .int .i64 p9, .int .i64 p10, .int .i64 p11]]) (by kernel_rfl) (qOf_call (g := 43) (args := [.int .i64 r20]) (by kernel_rfl) (lookC_skip (fun hg => absurd (show (41 : Nat) = 43 from hg) (by decide)) (lookC_skip (fun hg => absurd (show (41 : Nat) = 43 from hg) (by decide)) (lookC_skip (fun hg => absurd (show (41 : Nat) = 43 from hg) (by decide)) (lookC_skip (fun hg => absurd (show (44 : Nat) = 43 from hg) (by decide)) lookC_hit))))) (by kernel_rfl) (by kernel_rfl) ?_
        refine SI.run (a2 := (st 32 [(3, .pointer (some ⟨0, 0, none⟩)), (4, .pointer (some ⟨1, 0, none⟩)), (5, .pointer (some ⟨2, 0, none⟩)), (6, .int .i64 r22), (7, .int .i64 0), (23, .bool false), (24, .agg ⟨[.int .i64 p0, .int .i64 p1, .int .i64 p2, .int .i64 p3]⟩), (25, .agg ⟨[.int .i64 r14.1, .int .i64 r14.2]⟩), (26, .agg ⟨[.int .i64 p4, .int .i64 p5, .int .i64 p6, .int .i64 p7]⟩), (27, .agg ⟨[.int .i64 r16.1, .int .i64 r16.2]⟩), (28, .agg ⟨[.int .i64 p8, .int .i64 p9, .int .i64 p10, .int .i64 p11]⟩), (29, .agg ⟨[.int .i64 r18.1, .int .i64 r18.2]⟩), (30, .int .i64 r20), (31, .int .i64 r22)])) (h2 := [.cells 25 [.int .i64 p0, .int .i64 p1, .int .i64 p2, .int .i64 p3], .cells 25 [.int .i64 p4, .int .i64 p5, .int .i64 p6, .int .i64 p7], .cells 25 [.int .i64 p8, .int .i64 p9, .int .i64 p10, .int .i64 p11]]) 2 (by kernel_rfl) ?_
        exact SI.done (by kernel_rfl)
      refine TS.ret' (by kernel_rfl) ?_
      have hF := Option.some.inj hF
      subst hF
      exact ⟨.inr rfl, rfl, .tuple ⟨[.int .i64 r22, .int .i64 0]⟩, by kernel_rfl, WkV.flat0 (by kernel_rfl) (Nat.le_of_ble_eq_true rfl)⟩
  cases r3 with
  | true =>
    replace hm24 := of_pos hm24 rfl
    have hX := of_do hm24
    clear hm24
    obtain ⟨r5, h6, hm24⟩ := hX
    have hX := of_do hm24
    clear hm24
    obtain ⟨r7, h8, hm24⟩ := hX
    cases r7 with
    | true =>
      replace hm24 := of_pos hm24 rfl
      have hX := of_do hm24
      clear hm24
      obtain ⟨r9, h10, hm24⟩ := hX
      have hX := of_do hm24
      clear hm24
      obtain ⟨r11, h12, hm24⟩ := hX
      cases r11 with
      | true =>
        replace hm24 := of_pos hm24 rfl
        have hm24 := Option.some.inj hm24
        subst hm24
        refine TS.region' (id := 1) (b := false) (ops := c13.s2.s1.s1.rops) (by kernel_rfl) rfl ?_
        refine TI.run 1 [3, 4, 5, 8] [0, 1, 2] (a2 := (st 32 [(3, .pointer (some ⟨0, 0, none⟩)), (4, .pointer (some ⟨1, 0, none⟩)), (5, .pointer (some ⟨2, 0, none⟩)), (8, .agg ⟨[.int .i64 p0, .int .i64 p1, .int .i64 p2, .int .i64 p3]⟩)])) (h2 := [.cells 25 [.int .i64 p0, .int .i64 p1, .int .i64 p2, .int .i64 p3], .cells 25 [.int .i64 p4, .int .i64 p5, .int .i64 p6, .int .i64 p7], .cells 25 [.int .i64 p8, .int .i64 p9, .int .i64 p10, .int .i64 p11]]) (by kernel_rfl) ?_
        refine TI.callM (g := 41) (args := [.agg ⟨[.int .i64 p0, .int .i64 p1, .int .i64 p2, .int .i64 p3]⟩]) (v := .agg ⟨[.int .i64 r1.1, .int .i64 r1.2]⟩) (new := []) (by kernel_rfl) (PureSim.any (C41 p0 p1 p2 p3 r1 h2) (flatL (by kernel_rfl)) (by kernel_rfl) [.cells 25 [.int .i64 p0, .int .i64 p1, .int .i64 p2, .int .i64 p3], .cells 25 [.int .i64 p4, .int .i64 p5, .int .i64 p6, .int .i64 p7], .cells 25 [.int .i64 p8, .int .i64 p9, .int .i64 p10, .int .i64 p11]]) [3, 4, 5, 9] [0, 1, 2] (a2 := (st 32 [(3, .pointer (some ⟨0, 0, none⟩)), (4, .pointer (some ⟨1, 0, none⟩)), (5, .pointer (some ⟨2, 0, none⟩)), (9, .agg ⟨[.int .i64 r1.1, .int .i64 r1.2]⟩)])) (h2 := [.cells 25 [.int .i64 p0, .int .i64 p1, .int .i64 p2, .int .i64 p3], .cells 25 [.int .i64 p4, .int .i64 p5, .int .i64 p6, .int .i64 p7], .cells 25 [.int .i64 p8, .int .i64 p9, .int .i64 p10, .int .i64 p11]]) (by kernel_rfl) ?_
        refine TI.callM (g := 42) (args := [.agg ⟨[.int .i64 r1.1, .int .i64 r1.2]⟩]) (v := .bool true) (new := []) (by kernel_rfl) (PureSim.any (C42 r1.1 r1.2 true h4) (flatL (by kernel_rfl)) (by kernel_rfl) [.cells 25 [.int .i64 p0, .int .i64 p1, .int .i64 p2, .int .i64 p3], .cells 25 [.int .i64 p4, .int .i64 p5, .int .i64 p6, .int .i64 p7], .cells 25 [.int .i64 p8, .int .i64 p9, .int .i64 p10, .int .i64 p11]]) [3, 4, 5, 10] [0, 1, 2] (a2 := (st 32 [(3, .pointer (some ⟨0, 0, none⟩)), (4, .pointer (some ⟨1, 0, none⟩)), (5, .pointer (some ⟨2, 0, none⟩)), (10, .bool true)])) (h2 := [.cells 25 [.int .i64 p0, .int .i64 p1, .int .i64 p2, .int .i64 p3], .cells 25 [.int .i64 p4, .int .i64 p5, .int .i64 p6, .int .i64 p7], .cells 25 [.int .i64 p8, .int .i64 p9, .int .i64 p10, .int .i64 p11]]) (by kernel_rfl) ?_
        refine TI.run 3 [3, 4, 5, 12, 13] [0, 1, 2] (a2 := (st 32 [(3, .pointer (some ⟨0, 0, none⟩)), (4, .pointer (some ⟨1, 0, none⟩)), (5, .pointer (some ⟨2, 0, none⟩)), (12, .bool false), (13, .agg ⟨[.int .i64 p4, .int .i64 p5, .int .i64 p6, .int .i64 p7]⟩)])) (h2 := [.cells 25 [.int .i64 p0, .int .i64 p1, .int .i64 p2, .int .i64 p3], .cells 25 [.int .i64 p4, .int .i64 p5, .int .i64 p6, .int .i64 p7], .cells 25 [.int .i64 p8, .int .i64 p9, .int .i64 p10, .int .i64 p11]]) (by kernel_rfl) ?_
        refine TI.callM (g := 41) (args := [.agg ⟨[.int .i64 p4, .int .i64 p5, .int .i64 p6, .int .i64 p7]⟩]) (v := .agg ⟨[.int .i64 r5.1, .int .i64 r5.2]⟩) (new := []) (by kernel_rfl) (PureSim.any (C41 p4 p5 p6 p7 r5 h6) (flatL (by kernel_rfl)) (by kernel_rfl) [.cells 25 [.int .i64 p0, .int .i64 p1, .int .i64 p2, .int .i64 p3], .cells 25 [.int .i64 p4, .int .i64 p5, .int .i64 p6, .int .i64 p7], .cells 25 [.int .i64 p8, .int .i64 p9, .int .i64 p10, .int .i64 p11]]) [3, 4, 5, 12, 14] [0, 1, 2] (a2 := (st 32 [(3, .pointer (some ⟨0, 0, none⟩)), (4, .pointer (some ⟨1, 0, none⟩)), (5, .pointer (some ⟨2, 0, none⟩)), (12, .bool false), (14, .agg ⟨[.int .i64 r5.1, .int .i64 r5.2]⟩)])) (h2 := [.cells 25 [.int .i64 p0, .int .i64 p1, .int .i64 p2, .int .i64 p3], .cells 25 [.int .i64 p4, .int .i64 p5, .int .i64 p6, .int .i64 p7], .cells 25 [.int .i64 p8, .int .i64 p9, .int .i64 p10, .int .i64 p11]]) (by kernel_rfl) ?_
        refine TI.callM (g := 42) (args := [.agg ⟨[.int .i64 r5.1, .int .i64 r5.2]⟩]) (v := .bool true) (new := []) (by kernel_rfl) (PureSim.any (C42 r5.1 r5.2 true h8) (flatL (by kernel_rfl)) (by kernel_rfl) [.cells 25 [.int .i64 p0, .int .i64 p1, .int .i64 p2, .int .i64 p3], .cells 25 [.int .i64 p4, .int .i64 p5, .int .i64 p6, .int .i64 p7], .cells 25 [.int .i64 p8, .int .i64 p9, .int .i64 p10, .int .i64 p11]]) [3, 4, 5, 12, 15] [0, 1, 2] (a2 := (st 32 [(3, .pointer (some ⟨0, 0, none⟩)), (4, .pointer (some ⟨1, 0, none⟩)), (5, .pointer (some ⟨2, 0, none⟩)), (12, .bool false), (15, .bool true)])) (h2 := [.cells 25 [.int .i64 p0, .int .i64 p1, .int .i64 p2, .int .i64 p3], .cells 25 [.int .i64 p4, .int .i64 p5, .int .i64 p6, .int .i64 p7], .cells 25 [.int .i64 p8, .int .i64 p9, .int .i64 p10, .int .i64 p11]]) (by kernel_rfl) ?_
        refine TI.run 4 [3, 4, 5, 18, 19] [0, 1, 2] (a2 := (st 32 [(3, .pointer (some ⟨0, 0, none⟩)), (4, .pointer (some ⟨1, 0, none⟩)), (5, .pointer (some ⟨2, 0, none⟩)), (18, .bool false), (19, .agg ⟨[.int .i64 p8, .int .i64 p9, .int .i64 p10, .int .i64 p11]⟩)])) (h2 := [.cells 25 [.int .i64 p0, .int .i64 p1, .int .i64 p2, .int .i64 p3], .cells 25 [.int .i64 p4, .int .i64 p5, .int .i64 p6, .int .i64 p7], .cells 25 [.int .i64 p8, .int .i64 p9, .int .i64 p10, .int .i64 p11]]) (by kernel_rfl) ?_
        refine TI.callM (g := 41) (args := [.agg ⟨[.int .i64 p8, .int .i64 p9, .int .i64 p10, .int .i64 p11]⟩]) (v := .agg ⟨[.int .i64 r9.1, .int .i64 r9.2]⟩) (new := []) (by kernel_rfl) (PureSim.any (C41 p8 p9 p10 p11 r9 h10) (flatL (by kernel_rfl)) (by kernel_rfl) [.cells 25 [.int .i64 p0, .int .i64 p1, .int .i64 p2, .int .i64 p3], .cells 25 [.int .i64 p4, .int .i64 p5, .int .i64 p6, .int .i64 p7], .cells 25 [.int .i64 p8, .int .i64 p9, .int .i64 p10, .int .i64 p11]]) [3, 4, 5, 18, 20] [0, 1, 2] (a2 := (st 32 [(3, .pointer (some ⟨0, 0, none⟩)), (4, .pointer (some ⟨1, 0, none⟩)), (5, .pointer (some ⟨2, 0, none⟩)), (18, .bool false), (20, .agg ⟨[.int .i64 r9.1, .int .i64 r9.2]⟩)])) (h2 := [.cells 25 [.int .i64 p0, .int .i64 p1, .int .i64 p2, .int .i64 p3], .cells 25 [.int .i64 p4, .int .i64 p5, .int .i64 p6, .int .i64 p7], .cells 25 [.int .i64 p8, .int .i64 p9, .int .i64 p10, .int .i64 p11]]) (by kernel_rfl) ?_
        refine TI.callM (g := 42) (args := [.agg ⟨[.int .i64 r9.1, .int .i64 r9.2]⟩]) (v := .bool true) (new := []) (by kernel_rfl) (PureSim.any (C42 r9.1 r9.2 true h12) (flatL (by kernel_rfl)) (by kernel_rfl) [.cells 25 [.int .i64 p0, .int .i64 p1, .int .i64 p2, .int .i64 p3], .cells 25 [.int .i64 p4, .int .i64 p5, .int .i64 p6, .int .i64 p7], .cells 25 [.int .i64 p8, .int .i64 p9, .int .i64 p10, .int .i64 p11]]) [3, 4, 5, 18, 21] [0, 1, 2] (a2 := (st 32 [(3, .pointer (some ⟨0, 0, none⟩)), (4, .pointer (some ⟨1, 0, none⟩)), (5, .pointer (some ⟨2, 0, none⟩)), (18, .bool false), (21, .bool true)])) (h2 := [.cells 25 [.int .i64 p0, .int .i64 p1, .int .i64 p2, .int .i64 p3], .cells 25 [.int .i64 p4, .int .i64 p5, .int .i64 p6, .int .i64 p7], .cells 25 [.int .i64 p8, .int .i64 p9, .int .i64 p10, .int .i64 p11]]) (by kernel_rfl) ?_
        refine TI.run 2 [3, 4, 5, 23] [0, 1, 2] (a2 := (st 32 [(3, .pointer (some ⟨0, 0, none⟩)), (4, .pointer (some ⟨1, 0, none⟩)), (5, .pointer (some ⟨2, 0, none⟩)), (23, .bool false)])) (h2 := [.cells 25 [.int .i64 p0, .int .i64 p1, .int .i64 p2, .int .i64 p3], .cells 25 [.int .i64 p4, .int .i64 p5, .int .i64 p6, .int .i64 p7], .cells 25 [.int .i64 p8, .int .i64 p9, .int .i64 p10, .int .i64 p11]]) (by kernel_rfl) ?_
        refine TI.done (by kernel_rfl) ?_
        exact hK
      | false =>
        replace hm24 := of_neg hm24 rfl
        have hm24 := Option.some.inj hm24
        subst hm24
        refine TS.region' (id := 1) (b := false) (ops := c13.s2.s1.s1.rops) (by kernel_rfl) rfl ?_
        refine TI.run 1 [3, 4, 5, 8] [0, 1, 2] (a2 := (st 32 [(3, .pointer (some ⟨0, 0, none⟩)), (4, .pointer (some ⟨1, 0, none⟩)), (5, .pointer (some ⟨2, 0, none⟩)), (8, .agg ⟨[.int .i64 p0, .int .i64 p1, .int .i64 p2, .int .i64 p3]⟩)])) (h2 := [.cells 25 [.int .i64 p0, .int .i64 p1, .int .i64 p2, .int .i64 p3], .cells 25 [.int .i64 p4, .int .i64 p5, .int .i64 p6, .int .i64 p7], .cells 25 [.int .i64 p8, .int .i64 p9, .int .i64 p10, .int .i64 p11]]) (by kernel_rfl) ?_
        refine TI.callM (g := 41) (args := [.agg ⟨[.int .i64 p0, .int .i64 p1, .int .i64 p2, .int .i64 p3]⟩]) (v := .agg ⟨[.int .i64 r1.1, .int .i64 r1.2]⟩) (new := []) (by kernel_rfl) (PureSim.any (C41 p0 p1 p2 p3 r1 h2) (flatL (by kernel_rfl)) (by kernel_rfl) [.cells 25 [.int .i64 p0, .int .i64 p1, .int .i64 p2, .int .i64 p3], .cells 25 [.int .i64 p4, .int .i64 p5, .int .i64 p6, .int .i64 p7], .cells 25 [.int .i64 p8, .int .i64 p9, .int .i64 p10, .int .i64 p11]]) [3, 4, 5, 9] [0, 1, 2] (a2 := (st 32 [(3, .pointer (some ⟨0, 0, none⟩)), (4, .pointer (some ⟨1, 0, none⟩)), (5, .pointer (some ⟨2, 0, none⟩)), (9, .agg ⟨[.int .i64 r1.1, .int .i64 r1.2]⟩)])) (h2 := [.cells 25 [.int .i64 p0, .int .i64 p1, .int .i64 p2, .int .i64 p3], .cells 25 [.int .i64 p4, .int .i64 p5, .int .i64 p6, .int .i64 p7], .cells 25 [.int .i64 p8, .int .i64 p9, .int .i64 p10, .int .i64 p11]]) (by kernel_rfl) ?_
        refine TI.callM (g := 42) (args := [.agg ⟨[.int .i64 r1.1, .int .i64 r1.2]⟩]) (v := .bool true) (new := []) (by kernel_rfl) (PureSim.any (C42 r1.1 r1.2 true h4) (flatL (by kernel_rfl)) (by kernel_rfl) [.cells 25 [.int .i64 p0, .int .i64 p1, .int .i64 p2, .int .i64 p3], .cells 25 [.int .i64 p4, .int .i64 p5, .int .i64 p6, .int .i64 p7], .cells 25 [.int .i64 p8, .int .i64 p9, .int .i64 p10, .int .i64 p11]]) [3, 4, 5, 10] [0, 1, 2] (a2 := (st 32 [(3, .pointer (some ⟨0, 0, none⟩)), (4, .pointer (some ⟨1, 0, none⟩)), (5, .pointer (some ⟨2, 0, none⟩)), (10, .bool true)])) (h2 := [.cells 25 [.int .i64 p0, .int .i64 p1, .int .i64 p2, .int .i64 p3], .cells 25 [.int .i64 p4, .int .i64 p5, .int .i64 p6, .int .i64 p7], .cells 25 [.int .i64 p8, .int .i64 p9, .int .i64 p10, .int .i64 p11]]) (by kernel_rfl) ?_
        refine TI.run 3 [3, 4, 5, 12, 13] [0, 1, 2] (a2 := (st 32 [(3, .pointer (some ⟨0, 0, none⟩)), (4, .pointer (some ⟨1, 0, none⟩)), (5, .pointer (some ⟨2, 0, none⟩)), (12, .bool false), (13, .agg ⟨[.int .i64 p4, .int .i64 p5, .int .i64 p6, .int .i64 p7]⟩)])) (h2 := [.cells 25 [.int .i64 p0, .int .i64 p1, .int .i64 p2, .int .i64 p3], .cells 25 [.int .i64 p4, .int .i64 p5, .int .i64 p6, .int .i64 p7], .cells 25 [.int .i64 p8, .int .i64 p9, .int .i64 p10, .int .i64 p11]]) (by kernel_rfl) ?_
        refine TI.callM (g := 41) (args := [.agg ⟨[.int .i64 p4, .int .i64 p5, .int .i64 p6, .int .i64 p7]⟩]) (v := .agg ⟨[.int .i64 r5.1, .int .i64 r5.2]⟩) (new := []) (by kernel_rfl) (PureSim.any (C41 p4 p5 p6 p7 r5 h6) (flatL (by kernel_rfl)) (by kernel_rfl) [.cells 25 [.int .i64 p0, .int .i64 p1, .int .i64 p2, .int .i64 p3], .cells 25 [.int .i64 p4, .int .i64 p5, .int .i64 p6, .int .i64 p7], .cells 25 [.int .i64 p8, .int .i64 p9, .int .i64 p10, .int .i64 p11]]) [3, 4, 5, 12, 14] [0, 1, 2] (a2 := (st 32 [(3, .pointer (some ⟨0, 0, none⟩)), (4, .pointer (some ⟨1, 0, none⟩)), (5, .pointer (some ⟨2, 0, none⟩)), (12, .bool false), (14, .agg ⟨[.int .i64 r5.1, .int .i64 r5.2]⟩)])) (h2 := [.cells 25 [.int .i64 p0, .int .i64 p1, .int .i64 p2, .int .i64 p3], .cells 25 [.int .i64 p4, .int .i64 p5, .int .i64 p6, .int .i64 p7], .cells 25 [.int .i64 p8, .int .i64 p9, .int .i64 p10, .int .i64 p11]]) (by kernel_rfl) ?_
        refine TI.callM (g := 42) (args := [.agg ⟨[.int .i64 r5.1, .int .i64 r5.2]⟩]) (v := .bool true) (new := []) (by kernel_rfl) (PureSim.any (C42 r5.1 r5.2 true h8) (flatL (by kernel_rfl)) (by kernel_rfl) [.cells 25 [.int .i64 p0, .int .i64 p1, .int .i64 p2, .int .i64 p3], .cells 25 [.int .i64 p4, .int .i64 p5, .int .i64 p6, .int .i64 p7], .cells 25 [.int .i64 p8, .int .i64 p9, .int .i64 p10, .int .i64 p11]]) [3, 4, 5, 12, 15] [0, 1, 2] (a2 := (st 32 [(3, .pointer (some ⟨0, 0, none⟩)), (4, .pointer (some ⟨1, 0, none⟩)), (5, .pointer (some ⟨2, 0, none⟩)), (12, .bool false), (15, .bool true)])) (h2 := [.cells 25 [.int .i64 p0, .int .i64 p1, .int .i64 p2, .int .i64 p3], .cells 25 [.int .i64 p4, .int .i64 p5, .int .i64 p6, .int .i64 p7], .cells 25 [.int .i64 p8, .int .i64 p9, .int .i64 p10, .int .i64 p11]]) (by kernel_rfl) ?_
        refine TI.run 4 [3, 4, 5, 18, 19] [0, 1, 2] (a2 := (st 32 [(3, .pointer (some ⟨0, 0, none⟩)), (4, .pointer (some ⟨1, 0, none⟩)), (5, .pointer (some ⟨2, 0, none⟩)), (18, .bool false), (19, .agg ⟨[.int .i64 p8, .int .i64 p9, .int .i64 p10, .int .i64 p11]⟩)])) (h2 := [.cells 25 [.int .i64 p0, .int .i64 p1, .int .i64 p2, .int .i64 p3], .cells 25 [.int .i64 p4, .int .i64 p5, .int .i64 p6, .int .i64 p7], .cells 25 [.int .i64 p8, .int .i64 p9, .int .i64 p10, .int .i64 p11]]) (by kernel_rfl) ?_
        refine TI.callM (g := 41) (args := [.agg ⟨[.int .i64 p8, .int .i64 p9, .int .i64 p10, .int .i64 p11]⟩]) (v := .agg ⟨[.int .i64 r9.1, .int .i64 r9.2]⟩) (new := []) (by kernel_rfl) (PureSim.any (C41 p8 p9 p10 p11 r9 h10) (flatL (by kernel_rfl)) (by kernel_rfl) [.cells 25 [.int .i64 p0, .int .i64 p1, .int .i64 p2, .int .i64 p3], .cells 25 [.int .i64 p4, .int .i64 p5, .int .i64 p6, .int .i64 p7], .cells 25 [.int .i64 p8, .int .i64 p9, .int .i64 p10, .int .i64 p11]]) [3, 4, 5, 18, 20] [0, 1, 2] (a2 := (st 32 [(3, .pointer (some ⟨0, 0, none⟩)), (4, .pointer (some ⟨1, 0, none⟩)), (5, .pointer (some ⟨2, 0, none⟩)), (18, .bool false), (20, .agg ⟨[.int .i64 r9.1, .int .i64 r9.2]⟩)])) (h2 := [.cells 25 [.int .i64 p0, .int .i64 p1, .int .i64 p2, .int .i64 p3], .cells 25 [.int .i64 p4, .int .i64 p5, .int .i64 p6, .int .i64 p7], .cells 25 [.int .i64 p8, .int .i64 p9, .int .i64 p10, .int .i64 p11]]) (by kernel_rfl) ?_
        refine TI.callM (g := 42) (args := [.agg ⟨[.int .i64 r9.1, .int .i64 r9.2]⟩]) (v := .bool false) (new := []) (by kernel_rfl) (PureSim.any (C42 r9.1 r9.2 false h12) (flatL (by kernel_rfl)) (by kernel_rfl) [.cells 25 [.int .i64 p0, .int .i64 p1, .int .i64 p2, .int .i64 p3], .cells 25 [.int .i64 p4, .int .i64 p5, .int .i64 p6, .int .i64 p7], .cells 25 [.int .i64 p8, .int .i64 p9, .int .i64 p10, .int .i64 p11]]) [3, 4, 5, 18, 21] [0, 1, 2] (a2 := (st 32 [(3, .pointer (some ⟨0, 0, none⟩)), (4, .pointer (some ⟨1, 0, none⟩)), (5, .pointer (some ⟨2, 0, none⟩)), (18, .bool false), (21, .bool false)])) (h2 := [.cells 25 [.int .i64 p0, .int .i64 p1, .int .i64 p2, .int .i64 p3], .cells 25 [.int .i64 p4, .int .i64 p5, .int .i64 p6, .int .i64 p7], .cells 25 [.int .i64 p8, .int .i64 p9, .int .i64 p10, .int .i64 p11]]) (by kernel_rfl) ?_
        refine TI.run 2 [3, 4, 5, 23] [0, 1, 2] (a2 := (st 32 [(3, .pointer (some ⟨0, 0, none⟩)), (4, .pointer (some ⟨1, 0, none⟩)), (5, .pointer (some ⟨2, 0, none⟩)), (23, .bool true)])) (h2 := [.cells 25 [.int .i64 p0, .int .i64 p1, .int .i64 p2, .int .i64 p3], .cells 25 [.int .i64 p4, .int .i64 p5, .int .i64 p6, .int .i64 p7], .cells 25 [.int .i64 p8, .int .i64 p9, .int .i64 p10, .int .i64 p11]]) (by kernel_rfl) ?_
        refine TI.done (by kernel_rfl) ?_
        exact hK
    | false =>
      replace hm24 := of_neg hm24 rfl
      have hm24 := Option.some.inj hm24
      subst hm24
      refine TS.region' (id := 1) (b := false) (ops := c13.s2.s1.s1.rops) (by kernel_rfl) rfl ?_
      refine TI.run 1 [3, 4, 5, 8] [0, 1, 2] (a2 := (st 32 [(3, .pointer (some ⟨0, 0, none⟩)), (4, .pointer (some ⟨1, 0, none⟩)), (5, .pointer (some ⟨2, 0, none⟩)), (8, .agg ⟨[.int .i64 p0, .int .i64 p1, .int .i64 p2, .int .i64 p3]⟩)])) (h2 := [.cells 25 [.int .i64 p0, .int .i64 p1, .int .i64 p2, .int .i64 p3], .cells 25 [.int .i64 p4, .int .i64 p5, .int .i64 p6, .int .i64 p7], .cells 25 [.int .i64 p8, .int .i64 p9, .int .i64 p10, .int .i64 p11]]) (by kernel_rfl) ?_
      refine TI.callM (g := 41) (args := [.agg ⟨[.int .i64 p0, .int .i64 p1, .int .i64 p2, .int .i64 p3]⟩]) (v := .agg ⟨[.int .i64 r1.1, .int .i64 r1.2]⟩) (new := []) (by kernel_rfl) (PureSim.any (C41 p0 p1 p2 p3 r1 h2) (flatL (by kernel_rfl)) (by kernel_rfl) [.cells 25 [.int .i64 p0, .int .i64 p1, .int .i64 p2, .int .i64 p3], .cells 25 [.int .i64 p4, .int .i64 p5, .int .i64 p6, .int .i64 p7], .cells 25 [.int .i64 p8, .int .i64 p9, .int .i64 p10, .int .i64 p11]]) [3, 4, 5, 9] [0, 1, 2] (a2 := (st 32 [(3, .pointer (some ⟨0, 0, none⟩)), (4, .pointer (some ⟨1, 0, none⟩)), (5, .pointer (some ⟨2, 0, none⟩)), (9, .agg ⟨[.int .i64 r1.1, .int .i64 r1.2]⟩)])) (h2 := [.cells 25 [.int .i64 p0, .int .i64 p1, .int .i64 p2, .int .i64 p3], .cells 25 [.int .i64 p4, .int .i64 p5, .int .i64 p6, .int .i64 p7], .cells 25 [.int .i64 p8, .int .i64 p9, .int .i64 p10, .int .i64 p11]]) (by kernel_rfl) ?_
      refine TI.callM (g := 42) (args := [.agg ⟨[.int .i64 r1.1, .int .i64 r1.2]⟩]) (v := .bool true) (new := []) (by kernel_rfl) (PureSim.any (C42 r1.1 r1.2 true h4) (flatL (by kernel_rfl)) (by kernel_rfl) [.cells 25 [.int .i64 p0, .int .i64 p1, .int .i64 p2, .int .i64 p3], .cells 25 [.int .i64 p4, .int .i64 p5, .int .i64 p6, .int .i64 p7], .cells 25 [.int .i64 p8, .int .i64 p9, .int .i64 p10, .int .i64 p11]]) [3, 4, 5, 10] [0, 1, 2] (a2 := (st 32 [(3, .pointer (some ⟨0, 0, none⟩)), (4, .pointer (some ⟨1, 0, none⟩)), (5, .pointer (some ⟨2, 0, none⟩)), (10, .bool true)])) (h2 := [.cells 25 [.int .i64 p0, .int .i64 p1, .int .i64 p2, .int .i64 p3], .cells 25 [.int .i64 p4, .int .i64 p5, .int .i64 p6, .int .i64 p7], .cells 25 [.int .i64 p8, .int .i64 p9, .int .i64 p10, .int .i64 p11]]) (by kernel_rfl) ?_
      refine TI.run 3 [3, 4, 5, 12, 13] [0, 1, 2] (a2 := (st 32 [(3, .pointer (some ⟨0, 0, none⟩)), (4, .pointer (some ⟨1, 0, none⟩)), (5, .pointer (some ⟨2, 0, none⟩)), (12, .bool false), (13, .agg ⟨[.int .i64 p4, .int .i64 p5, .int .i64 p6, .int .i64 p7]⟩)])) (h2 := [.cells 25 [.int .i64 p0, .int .i64 p1, .int .i64 p2, .int .i64 p3], .cells 25 [.int .i64 p4, .int .i64 p5, .int .i64 p6, .int .i64 p7], .cells 25 [.int .i64 p8, .int .i64 p9, .int .i64 p10, .int .i64 p11]]) (by kernel_rfl) ?_
      refine TI.callM (g := 41) (args := [.agg ⟨[.int .i64 p4, .int .i64 p5, .int .i64 p6, .int .i64 p7]⟩]) (v := .agg ⟨[.int .i64 r5.1, .int .i64 r5.2]⟩) (new := []) (by kernel_rfl) (PureSim.any (C41 p4 p5 p6 p7 r5 h6) (flatL (by kernel_rfl)) (by kernel_rfl) [.cells 25 [.int .i64 p0, .int .i64 p1, .int .i64 p2, .int .i64 p3], .cells 25 [.int .i64 p4, .int .i64 p5, .int .i64 p6, .int .i64 p7], .cells 25 [.int .i64 p8, .int .i64 p9, .int .i64 p10, .int .i64 p11]]) [3, 4, 5, 12, 14] [0, 1, 2] (a2 := (st 32 [(3, .pointer (some ⟨0, 0, none⟩)), (4, .pointer (some ⟨1, 0, none⟩)), (5, .pointer (some ⟨2, 0, none⟩)), (12, .bool false), (14, .agg ⟨[.int .i64 r5.1, .int .i64 r5.2]⟩)])) (h2 := [.cells 25 [.int .i64 p0, .int .i64 p1, .int .i64 p2, .int .i64 p3], .cells 25 [.int .i64 p4, .int .i64 p5, .int .i64 p6, .int .i64 p7], .cells 25 [.int .i64 p8, .int .i64 p9, .int .i64 p10, .int .i64 p11]]) (by kernel_rfl) ?_
      refine TI.callM (g := 42) (args := [.agg ⟨[.int .i64 r5.1, .int .i64 r5.2]⟩]) (v := .bool false) (new := []) (by kernel_rfl) (PureSim.any (C42 r5.1 r5.2 false h8) (flatL (by kernel_rfl)) (by kernel_rfl) [.cells 25 [.int .i64 p0, .int .i64 p1, .int .i64 p2, .int .i64 p3], .cells 25 [.int .i64 p4, .int .i64 p5, .int .i64 p6, .int .i64 p7], .cells 25 [.int .i64 p8, .int .i64 p9, .int .i64 p10, .int .i64 p11]]) [3, 4, 5, 12, 15] [0, 1, 2] (a2 := (st 32 [(3, .pointer (some ⟨0, 0, none⟩)), (4, .pointer (some ⟨1, 0, none⟩)), (5, .pointer (some ⟨2, 0, none⟩)), (12, .bool false), (15, .bool false)])) (h2 := [.cells 25 [.int .i64 p0, .int .i64 p1, .int .i64 p2, .int .i64 p3], .cells 25 [.int .i64 p4, .int .i64 p5, .int .i64 p6, .int .i64 p7], .cells 25 [.int .i64 p8, .int .i64 p9, .int .i64 p10, .int .i64 p11]]) (by kernel_rfl) ?_
      refine TI.run 8 [3, 4, 5, 23] [0, 1, 2] (a2 := (st 32 [(3, .pointer (some ⟨0, 0, none⟩)), (4, .pointer (some ⟨1, 0, none⟩)), (5, .pointer (some ⟨2, 0, none⟩)), (23, .bool true)])) (h2 := [.cells 25 [.int .i64 p0, .int .i64 p1, .int .i64 p2, .int .i64 p3], .cells 25 [.int .i64 p4, .int .i64 p5, .int .i64 p6, .int .i64 p7], .cells 25 [.int .i64 p8, .int .i64 p9, .int .i64 p10, .int .i64 p11]]) (by kernel_rfl) ?_
      refine TI.done (by kernel_rfl) ?_
      exact hK
  | false =>
    replace hm24 := of_neg hm24 rfl
    have hm24 := Option.some.inj hm24
    subst hm24
    refine TS.region' (id := 1) (b := false) (ops := c13.s2.s1.s1.rops) (by kernel_rfl) rfl ?_
    refine TI.run 1 [3, 4, 5, 8] [0, 1, 2] (a2 := (st 32 [(3, .pointer (some ⟨0, 0, none⟩)), (4, .pointer (some ⟨1, 0, none⟩)), (5, .pointer (some ⟨2, 0, none⟩)), (8, .agg ⟨[.int .i64 p0, .int .i64 p1, .int .i64 p2, .int .i64 p3]⟩)])) (h2 := [.cells 25 [.int .i64 p0, .int .i64 p1, .int .i64 p2, .int .i64 p3], .cells 25 [.int .i64 p4, .int .i64 p5, .int .i64 p6, .int .i64 p7], .cells 25 [.int .i64 p8, .int .i64 p9, .int .i64 p10, .int .i64 p11]]) (by kernel_rfl) ?_
    refine TI.callM (g := 41) (args := [.agg ⟨[.int .i64 p0, .int .i64 p1, .int .i64 p2, .int .i64 p3]⟩]) (v := .agg ⟨[.int .i64 r1.1, .int .i64 r1.2]⟩) (new := []) (by kernel_rfl) (PureSim.any (C41 p0 p1 p2 p3 r1 h2) (flatL (by kernel_rfl)) (by kernel_rfl) [.cells 25 [.int .i64 p0, .int .i64 p1, .int .i64 p2, .int .i64 p3], .cells 25 [.int .i64 p4, .int .i64 p5, .int .i64 p6, .int .i64 p7], .cells 25 [.int .i64 p8, .int .i64 p9, .int .i64 p10, .int .i64 p11]]) [3, 4, 5, 9] [0, 1, 2] (a2 := (st 32 [(3, .pointer (some ⟨0, 0, none⟩)), (4, .pointer (some ⟨1, 0, none⟩)), (5, .pointer (some ⟨2, 0, none⟩)), (9, .agg ⟨[.int .i64 r1.1, .int .i64 r1.2]⟩)])) (h2 := [.cells 25 [.int .i64 p0, .int .i64 p1, .int .i64 p2, .int .i64 p3], .cells 25 [.int .i64 p4, .int .i64 p5, .int .i64 p6, .int .i64 p7], .cells 25 [.int .i64 p8, .int .i64 p9, .int .i64 p10, .int .i64 p11]]) (by kernel_rfl) ?_
    refine TI.callM (g := 42) (args := [.agg ⟨[.int .i64 r1.1, .int .i64 r1.2]⟩]) (v := .bool false) (new := []) (by kernel_rfl) (PureSim.any (C42 r1.1 r1.2 false h4) (flatL (by kernel_rfl)) (by kernel_rfl) [.cells 25 [.int .i64 p0, .int .i64 p1, .int .i64 p2, .int .i64 p3], .cells 25 [.int .i64 p4, .int .i64 p5, .int .i64 p6, .int .i64 p7], .cells 25 [.int .i64 p8, .int .i64 p9, .int .i64 p10, .int .i64 p11]]) [3, 4, 5, 10] [0, 1, 2] (a2 := (st 32 [(3, .pointer (some ⟨0, 0, none⟩)), (4, .pointer (some ⟨1, 0, none⟩)), (5, .pointer (some ⟨2, 0, none⟩)), (10, .bool false)])) (h2 := [.cells 25 [.int .i64 p0, .int .i64 p1, .int .i64 p2, .int .i64 p3], .cells 25 [.int .i64 p4, .int .i64 p5, .int .i64 p6, .int .i64 p7], .cells 25 [.int .i64 p8, .int .i64 p9, .int .i64 p10, .int .i64 p11]]) (by kernel_rfl) ?_
    refine TI.run 13 [3, 4, 5, 23] [0, 1, 2] (a2 := (st 32 [(3, .pointer (some ⟨0, 0, none⟩)), (4, .pointer (some ⟨1, 0, none⟩)), (5, .pointer (some ⟨2, 0, none⟩)), (23, .bool true)])) (h2 := [.cells 25 [.int .i64 p0, .int .i64 p1, .int .i64 p2, .int .i64 p3], .cells 25 [.int .i64 p4, .int .i64 p5, .int .i64 p6, .int .i64 p7], .cells 25 [.int .i64 p8, .int .i64 p9, .int .i64 p10, .int .i64 p11]]) (by kernel_rfl) ?_
    refine TI.done (by kernel_rfl) ?_
    exact hK
theorem C13 (p0 : Int) (p1 : Int) (p2 : Int) (p3 : Int) (p4 : Int) (p5 : Int) (p6 : Int) (p7 : Int) (p8 : Int) (p9 : Int) (p10 : Int) (p11 : Int) (r : (Int × Int)) (hF : F13 p0 p1 p2 p3 p4 p5 p6 p7 p8 p9 p10 p11 = some r) : PureSim Try.prog 13 [.agg ⟨[.int .i64 p0, .int .i64 p1, .int .i64 p2, .int .i64 p3]⟩, .agg ⟨[.int .i64 p4, .int .i64 p5, .int .i64 p6, .int .i64 p7]⟩, .agg ⟨[.int .i64 p8, .int .i64 p9, .int .i64 p10, .int .i64 p11]⟩] [] (V13 0 r) (N13 0 r) :=
  PureSim.of_Fin Try.func13 (c := c13) (by kernel_rfl) (by kernel_rfl) 0 rfl [0, 1, 2] [] (by kernel_rfl) (B13 p0 p1 p2 p3 p4 p5 p6 p7 p8 p9 p10 p11 r hF)

-- agonic/agonicref01.Is
noncomputable def c85 : Code := Try.f85.code
def F85 (p0 : Int) (p1 : Int) (p2 : Int) : Option Bool :=
  (
    if decide (p0 ≥ p1) then
      some (decide (p0 ≤ p2))
    else
      some (false)
  : Option Bool) >>= fun m2 =>
  some m2
def V85 (b : Nat) (r : Bool) : Value := .bool r
def N85 (b : Nat) (r : Bool) : List Blk := []
theorem B85 (p0 : Int) (p1 : Int) (p2 : Int) (r : Bool) (hF : F85 p0 p1 p2 = some r) : TS Try.prog 0 0 c85 (st 15 [(0, .int .i64 p0), (1, .int .i64 p1), (2, .int .i64 p2)]) [] (NX Try.prog 0 0 [] (FinP Try.prog Try.f85 0 (V85 0 r) (N85 0 r))) := by
  unfold F85 at hF
  refine TS.seq' (x := c85.s1) (y := c85.s2) (by kernel_rfl) ?_
  refine TS.region' (id := 0) (b := false) (ops := c85.s1.rops) (by kernel_rfl) rfl ?_
  refine TI.run 1 [0, 1, 2] [] (a2 := (st 15 [(0, .int .i64 p0), (1, .int .i64 p1), (2, .int .i64 p2)])) (h2 := []) (by kernel_rfl) ?_
  refine TI.done (by kernel_rfl) ?_
  refine NX.sq ?_
  refine TS.seq' (x := c85.s2.s1) (y := c85.s2.s2) (by kernel_rfl) ?_
  have hX := of_do hF
  clear hF
  obtain ⟨m2, hm3, hF⟩ := hX
  have hK : NX Try.prog 0 0 [.sq c85.s2.s2] (FinP Try.prog Try.f85 0 (V85 0 r) (N85 0 r)) .normal (st 15 [(6, .bool m2)]) [] := by
    refine NX.sq ?_
    refine TS.ret' (by kernel_rfl) ?_
    have hF := Option.some.inj hF
    subst hF
    exact ⟨.inr rfl, rfl, .bool m2, by kernel_rfl, WkV.flat0 (by kernel_rfl) (Nat.le_of_ble_eq_true rfl)⟩
  rcases Bool.eq_false_or_eq_true (decide (p0 ≥ p1)) with hc1 | hc1
  · replace hm3 := of_pos hm3 hc1
    have hm3 := Option.some.inj hm3
    subst hm3
    refine TS.region' (id := 1) (b := false) (ops := c85.s2.s1.rops) (by kernel_rfl) rfl ?_
    refine TI.run 2 [0, 2, 7, 8] [] (a2 := (st 15 [(0, .int .i64 p0), (2, .int .i64 p2), (7, .int .i64 p0), (8, .int .i64 p1)])) (h2 := []) (by kernel_rfl) ?_
    refine TI.op (q := { val := .bool true }) (q_conv (e := decide (p0 ≥ p1)) (b := true) (by kernel_rfl) hc1) [0, 2, 9] [] (a2 := (st 15 [(0, .int .i64 p0), (2, .int .i64 p2), (9, .bool true)])) (h2 := []) (by kernel_rfl) ?_
    refine TI.run 6 [6] [] (a2 := (st 15 [(6, .bool (decide (p0 ≤ p2)))])) (h2 := []) (by kernel_rfl) ?_
    refine TI.done (by kernel_rfl) ?_
    exact hK
  · replace hm3 := of_neg hm3 hc1
    have hm3 := Option.some.inj hm3
    subst hm3
    refine TS.region' (id := 1) (b := false) (ops := c85.s2.s1.rops) (by kernel_rfl) rfl ?_
    refine TI.run 2 [0, 2, 7, 8] [] (a2 := (st 15 [(0, .int .i64 p0), (2, .int .i64 p2), (7, .int .i64 p0), (8, .int .i64 p1)])) (h2 := []) (by kernel_rfl) ?_
    refine TI.op (q := { val := .bool false }) (q_conv (e := decide (p0 ≥ p1)) (b := false) (by kernel_rfl) hc1) [0, 2, 9] [] (a2 := (st 15 [(0, .int .i64 p0), (2, .int .i64 p2), (9, .bool false)])) (h2 := []) (by kernel_rfl) ?_
    refine TI.run 6 [6] [] (a2 := (st 15 [(6, .bool false)])) (h2 := []) (by kernel_rfl) ?_
    refine TI.done (by kernel_rfl) ?_
    exact hK
theorem C85 (p0 : Int) (p1 : Int) (p2 : Int) (r : Bool) (hF : F85 p0 p1 p2 = some r) : PureSim Try.prog 85 [.int .i64 p0, .int .i64 p1, .int .i64 p2] [] (V85 0 r) (N85 0 r) :=
  PureSim.of_Fin Try.func85 (c := c85) (by kernel_rfl) (by kernel_rfl) 0 rfl [0, 1, 2] [] (by kernel_rfl) (B85 p0 p1 p2 r hF)

-- agonic/agonicref07.is
noncomputable def c67 : Code := Try.f67.code
def F67 (p0 : Int) (p1 : Int) (p2 : Int) : Option Bool :=
  F85 p0 p1 p2 >>= fun r1 =>
  some r1
def V67 (b : Nat) (r : Bool) : Value := .bool r
def N67 (b : Nat) (r : Bool) : List Blk := []
theorem B67 (p0 : Int) (p1 : Int) (p2 : Int) (r : Bool) (hF : F67 p0 p1 p2 = some r) : TS Try.prog 0 0 c67 (st 11 [(0, .int .i64 p0), (1, .int .i64 p1), (2, .int .i64 p2)]) [] (NX Try.prog 0 0 [] (FinP Try.prog Try.f67 0 (V67 0 r) (N67 0 r))) := by
  unfold F67 at hF
  refine TS.seq' (x := c67.s1) (y := c67.s2) (by kernel_rfl) ?_
  refine TS.region' (id := 0) (b := false) (ops := c67.s1.rops) (by kernel_rfl) rfl ?_
  refine TI.run 1 [0, 1, 2] [] (a2 := (st 11 [(0, .int .i64 p0), (1, .int .i64 p1), (2, .int .i64 p2)])) (h2 := []) (by kernel_rfl) ?_
  refine TI.done (by kernel_rfl) ?_
  refine NX.sq ?_
  refine TS.seq' (x := c67.s2.s1) (y := c67.s2.s2) (by kernel_rfl) ?_
  have hX := of_do hF
  clear hF
  obtain ⟨r1, h2, hF⟩ := hX
  refine TS.region' (id := 1) (b := false) (ops := c67.s2.s1.rops) (by kernel_rfl) rfl ?_
  refine TI.run 3 [7, 8, 9] [] (a2 := (st 11 [(7, .int .i64 p0), (8, .int .i64 p1), (9, .int .i64 p2)])) (h2 := []) (by kernel_rfl) ?_
  refine TI.callM (g := 85) (args := [.int .i64 p0, .int .i64 p1, .int .i64 p2]) (v := .bool r1) (new := []) (by kernel_rfl) (PureSim.any (C85 p0 p1 p2 r1 h2) (flatL (by kernel_rfl)) (by kernel_rfl) []) [10] [] (a2 := (st 11 [(10, .bool r1)])) (h2 := []) (by kernel_rfl) ?_
  refine TI.run 1 [6] [] (a2 := (st 11 [(6, .bool r1)])) (h2 := []) (by kernel_rfl) ?_
  refine TI.done (by kernel_rfl) ?_
  refine NX.sq ?_
  refine TS.ret' (by kernel_rfl) ?_
  have hF := Option.some.inj hF
  subst hF
  exact ⟨.inr rfl, rfl, .bool r1, by kernel_rfl, WkV.flat0 (by kernel_rfl) (Nat.le_of_ble_eq_true rfl)⟩
theorem C67 (p0 : Int) (p1 : Int) (p2 : Int) (r : Bool) (hF : F67 p0 p1 p2 = some r) : PureSim Try.prog 67 [.int .i64 p0, .int .i64 p1, .int .i64 p2] [] (V67 0 r) (N67 0 r) :=
  PureSim.of_Fin Try.func67 (c := c67) (by kernel_rfl) (by kernel_rfl) 0 rfl [0, 1, 2] [] (by kernel_rfl) (B67 p0 p1 p2 r hF)

-- agonic/agonicref07.place
noncomputable def c45 : Code := Try.f45.code
def F45 (p0 : Int) (p1 : Int) : Option Bool :=
  F67 p0 (-100) 100 >>= fun r1 =>
  (
    if r1 then
      F67 p1 (-100) 100 >>= fun r3 =>
      some (r3)
    else
      some (false)
  : Option Bool) >>= fun m5 =>
  some m5
def V45 (b : Nat) (r : Bool) : Value := .bool r
def N45 (b : Nat) (r : Bool) : List Blk := []
theorem B45 (p0 : Int) (p1 : Int) (r : Bool) (hF : F45 p0 p1 = some r) : TS Try.prog 0 0 c45 (st 11 [(0, .int .i64 p0), (1, .int .i64 p1)]) [] (NX Try.prog 0 0 [] (FinP Try.prog Try.f45 0 (V45 0 r) (N45 0 r))) := by
  unfold F45 at hF
  refine TS.seq' (x := c45.s1) (y := c45.s2) (by kernel_rfl) ?_
  refine TS.region' (id := 0) (b := false) (ops := c45.s1.rops) (by kernel_rfl) rfl ?_
  refine TI.run 1 [0, 1] [] (a2 := (st 11 [(0, .int .i64 p0), (1, .int .i64 p1)])) (h2 := []) (by kernel_rfl) ?_
  refine TI.done (by kernel_rfl) ?_
  refine NX.sq ?_
  refine TS.seq' (x := c45.s2.s1) (y := c45.s2.s2) (by kernel_rfl) ?_
  have hX := of_do hF
  clear hF
  obtain ⟨r1, h2, hF⟩ := hX
  have hX := of_do hF
  clear hF
  obtain ⟨m5, hm6, hF⟩ := hX
  have hK : NX Try.prog 0 0 [.sq c45.s2.s2] (FinP Try.prog Try.f45 0 (V45 0 r) (N45 0 r)) .normal (st 11 [(4, .bool m5)]) [] := by
    refine NX.sq ?_
    refine TS.ret' (by kernel_rfl) ?_
    have hF := Option.some.inj hF
    subst hF
    exact ⟨.inr rfl, rfl, .bool m5, by kernel_rfl, WkV.flat0 (by kernel_rfl) (Nat.le_of_ble_eq_true rfl)⟩
  cases r1 with
  | true =>
    replace hm6 := of_pos hm6 rfl
    have hX := of_do hm6
    clear hm6
    obtain ⟨r3, h4, hm6⟩ := hX
    have hm6 := Option.some.inj hm6
    subst hm6
    refine TS.region' (id := 1) (b := false) (ops := c45.s2.s1.rops) (by kernel_rfl) rfl ?_
    refine TI.run 1 [1, 5] [] (a2 := (st 11 [(1, .int .i64 p1), (5, .int .i64 p0)])) (h2 := []) (by kernel_rfl) ?_
    refine TI.callM (g := 67) (args := [.int .i64 p0, .int .i64 (-100), .int .i64 100]) (v := .bool true) (new := []) (by kernel_rfl) (PureSim.any (C67 p0 (-100) 100 true h2) (flatL (by kernel_rfl)) (by kernel_rfl) []) [1, 6] [] (a2 := (st 11 [(1, .int .i64 p1), (6, .bool true)])) (h2 := []) (by kernel_rfl) ?_
    refine TI.run 2 [7, 8] [] (a2 := (st 11 [(7, .bool true), (8, .int .i64 p1)])) (h2 := []) (by kernel_rfl) ?_
    refine TI.callM (g := 67) (args := [.int .i64 p1, .int .i64 (-100), .int .i64 100]) (v := .bool r3) (new := []) (by kernel_rfl) (PureSim.any (C67 p1 (-100) 100 r3 h4) (flatL (by kernel_rfl)) (by kernel_rfl) []) [7, 9] [] (a2 := (st 11 [(7, .bool true), (9, .bool r3)])) (h2 := []) (by kernel_rfl) ?_
    refine TI.run 2 [4] [] (a2 := (st 11 [(4, .bool r3)])) (h2 := []) (by kernel_rfl) ?_
    refine TI.done (by kernel_rfl) ?_
    exact hK
  | false =>
    replace hm6 := of_neg hm6 rfl
    have hm6 := Option.some.inj hm6
    subst hm6
    refine TS.region' (id := 1) (b := false) (ops := c45.s2.s1.rops) (by kernel_rfl) rfl ?_
    refine TI.run 1 [1, 5] [] (a2 := (st 11 [(1, .int .i64 p1), (5, .int .i64 p0)])) (h2 := []) (by kernel_rfl) ?_
    refine TI.callM (g := 67) (args := [.int .i64 p0, .int .i64 (-100), .int .i64 100]) (v := .bool false) (new := []) (by kernel_rfl) (PureSim.any (C67 p0 (-100) 100 false h2) (flatL (by kernel_rfl)) (by kernel_rfl) []) [1, 6] [] (a2 := (st 11 [(1, .int .i64 p1), (6, .bool false)])) (h2 := []) (by kernel_rfl) ?_
    refine TI.run 5 [4] [] (a2 := (st 11 [(4, .bool false)])) (h2 := []) (by kernel_rfl) ?_
    refine TI.done (by kernel_rfl) ?_
    exact hK
theorem C45 (p0 : Int) (p1 : Int) (r : Bool) (hF : F45 p0 p1 = some r) : PureSim Try.prog 45 [.int .i64 p0, .int .i64 p1] [] (V45 0 r) (N45 0 r) :=
  PureSim.of_Fin Try.func45 (c := c45) (by kernel_rfl) (by kernel_rfl) 0 rfl [0, 1] [] (by kernel_rfl) (B45 p0 p1 r hF)

-- agonic/agonicref07.twice
noncomputable def c47 : Code := Try.f47.code
def F47 (p0 : Int) (p1 : Int) (p2 : Int) (p3 : Int) (p4 : Int) (p5 : Int) (p6 : Int) (p7 : Int) (p8 : Int) (p9 : Int) (p10 : Int) (p11 : Int) : Option Int :=
  some (w64 ((w64 ((w64 (p4 - p0)) * (w64 (p9 - p1)))) - (w64 ((w64 (p5 - p1)) * (w64 (p8 - p0)))))) >>= fun o1 =>
  some o1
def V47 (b : Nat) (r : Int) : Value := .int .i64 r
def N47 (b : Nat) (r : Int) : List Blk := []
theorem B47 (p0 : Int) (p1 : Int) (p2 : Int) (p3 : Int) (p4 : Int) (p5 : Int) (p6 : Int) (p7 : Int) (p8 : Int) (p9 : Int) (p10 : Int) (p11 : Int) (r : Int) (hF : F47 p0 p1 p2 p3 p4 p5 p6 p7 p8 p9 p10 p11 = some r) : TS Try.prog 0 0 c47 (st 30 [(0, .agg ⟨[.int .i64 p0, .int .i64 p1, .int .i64 p2, .int .i64 p3]⟩), (1, .agg ⟨[.int .i64 p4, .int .i64 p5, .int .i64 p6, .int .i64 p7]⟩), (2, .agg ⟨[.int .i64 p8, .int .i64 p9, .int .i64 p10, .int .i64 p11]⟩)]) [] (NX Try.prog 0 0 [] (FinP Try.prog Try.f47 0 (V47 0 r) (N47 0 r))) := by
  unfold F47 at hF
  refine TS.seq' (x := c47.s1) (y := c47.s2) (by kernel_rfl) ?_
  refine TS.region' (id := 0) (b := false) (ops := c47.s1.rops) (by kernel_rfl) rfl ?_
  refine TI.run 4 [3, 4, 5] [0, 1, 2] (a2 := (st 30 [(3, .pointer (some ⟨0, 0, none⟩)), (4, .pointer (some ⟨1, 0, none⟩)), (5, .pointer (some ⟨2, 0, none⟩))])) (h2 := [.cells 35 [.int .i64 p0, .int .i64 p1, .int .i64 p2, .int .i64 p3], .cells 35 [.int .i64 p4, .int .i64 p5, .int .i64 p6, .int .i64 p7], .cells 35 [.int .i64 p8, .int .i64 p9, .int .i64 p10, .int .i64 p11]]) (by kernel_rfl) ?_
  refine TI.done (by kernel_rfl) ?_
  refine NX.sq ?_
  refine TS.seq' (x := c47.s2.s1) (y := c47.s2.s2) (by kernel_rfl) ?_
  have hX := of_do hF
  clear hF
  obtain ⟨o1, h2, hF⟩ := hX
  replace h2 := Option.some.inj h2
  refine TS.region' (id := 1) (b := false) (ops := c47.s2.s1.rops) (by kernel_rfl) rfl ?_
  refine TI.run 22 [17, 28] [] (a2 := (st 30 [(17, .int .i64 (w64 ((w64 (p4 - p0)) * (w64 (p9 - p1))))), (28, .int .i64 (w64 ((w64 (p5 - p1)) * (w64 (p8 - p0)))))])) (h2 := [.dead, .dead, .dead]) (by kernel_rfl) ?_
  refine TI.op (q := { val := .int .i64 o1 }) (q_convI (e := w64 ((w64 ((w64 (p4 - p0)) * (w64 (p9 - p1)))) - (w64 ((w64 (p5 - p1)) * (w64 (p8 - p0)))))) (y := o1) (by kernel_rfl) h2) [29] [] (a2 := (st 30 [(29, .int .i64 o1)])) (h2 := [.dead, .dead, .dead]) (by kernel_rfl) ?_
  refine TI.run 1 [6] [] (a2 := (st 30 [(6, .int .i64 o1)])) (h2 := [.dead, .dead, .dead]) (by kernel_rfl) ?_
  refine TI.done (by kernel_rfl) ?_
  refine NX.sq ?_
  refine TS.ret' (by kernel_rfl) ?_
  have hF := Option.some.inj hF
  subst hF
  exact ⟨.inr rfl, rfl, .int .i64 o1, by kernel_rfl, WkV.flat0 (by kernel_rfl) (Nat.le_of_ble_eq_true rfl)⟩
theorem C47 (p0 : Int) (p1 : Int) (p2 : Int) (p3 : Int) (p4 : Int) (p5 : Int) (p6 : Int) (p7 : Int) (p8 : Int) (p9 : Int) (p10 : Int) (p11 : Int) (r : Int) (hF : F47 p0 p1 p2 p3 p4 p5 p6 p7 p8 p9 p10 p11 = some r) : PureSim Try.prog 47 [.agg ⟨[.int .i64 p0, .int .i64 p1, .int .i64 p2, .int .i64 p3]⟩, .agg ⟨[.int .i64 p4, .int .i64 p5, .int .i64 p6, .int .i64 p7]⟩, .agg ⟨[.int .i64 p8, .int .i64 p9, .int .i64 p10, .int .i64 p11]⟩] [] (V47 0 r) (N47 0 r) :=
  PureSim.of_Fin Try.func47 (c := c47) (by kernel_rfl) (by kernel_rfl) 0 rfl [0, 1, 2] [] (by kernel_rfl) (B47 p0 p1 p2 p3 p4 p5 p6 p7 p8 p9 p10 p11 r hF)

-- agonic/agonicref07.sign
noncomputable def c46 : Code := Try.f46.code
def F46 (p0 : Int) : Option Int :=
  if decide (p0 > 0) then
    some 1
  else
    if decide (p0 < 0) then
      some (-1)
    else
      some 0
def V46 (b : Nat) (r : Int) : Value := .int .i64 r
def N46 (b : Nat) (r : Int) : List Blk := []
theorem B46 (p0 : Int) (r : Int) (hF : F46 p0 = some r) : TS Try.prog 0 0 c46 (st 7 [(0, .int .i64 p0)]) [] (NX Try.prog 0 0 [] (FinP Try.prog Try.f46 0 (V46 0 r) (N46 0 r))) := by
  unfold F46 at hF
  refine TS.seq' (x := c46.s1) (y := c46.s2) (by kernel_rfl) ?_
  refine TS.region' (id := 0) (b := false) (ops := c46.s1.rops) (by kernel_rfl) rfl ?_
  refine TI.run 1 [0] [] (a2 := (st 7 [(0, .int .i64 p0)])) (h2 := []) (by kernel_rfl) ?_
  refine TI.done (by kernel_rfl) ?_
  refine NX.sq ?_
  refine TS.seq' (x := c46.s2.s1) (y := c46.s2.s2) (by kernel_rfl) ?_
  refine TS.seq' (x := c46.s2.s1.s1) (y := c46.s2.s1.s2) (by kernel_rfl) ?_
  refine TS.region' (id := 1) (b := false) (ops := c46.s2.s1.s1.rops) (by kernel_rfl) rfl ?_
  refine TI.run 2 [0, 4] [] (a2 := (st 7 [(0, .int .i64 p0), (4, .bool (decide (p0 > 0)))])) (h2 := []) (by kernel_rfl) ?_
  refine TI.done (by kernel_rfl) ?_
  refine NX.sq ?_
  refine TS.cond' (o := (.tmp 4)) (x := c46.s2.s1.s2.th) (y := c46.s2.s1.s2.el) (b := decide (p0 > 0)) (by kernel_rfl) (by kernel_rfl) (fun hc1 => ?_) (fun hc1 => ?_)
  · replace hF := of_pos hF hc1
    refine TS.seq' (x := c46.s2.s1.s2.th.s1) (y := c46.s2.s1.s2.th.s2) (by kernel_rfl) ?_
    refine TS.region' (id := 2) (b := false) (ops := c46.s2.s1.s2.th.s1.rops) (by kernel_rfl) rfl ?_
    refine TI.run 1 [2] [] (a2 := (st 7 [(2, .int .i64 1)])) (h2 := []) (by kernel_rfl) ?_
    refine TI.done (by kernel_rfl) ?_
    refine NX.sq ?_
    refine TS.ret' (by kernel_rfl) ?_
    refine NX.sqR ?_
    have hF := Option.some.inj hF
    subst hF
    exact ⟨.inr rfl, rfl, .int .i64 1, by kernel_rfl, WkV.flat0 (by kernel_rfl) (Nat.le_of_ble_eq_true rfl)⟩
  · replace hF := of_neg hF hc1
    refine TS.skip' (by kernel_rfl) ?_
    refine NX.sq ?_
    refine TS.seq' (x := c46.s2.s2.s1) (y := c46.s2.s2.s2) (by kernel_rfl) ?_
    refine TS.seq' (x := c46.s2.s2.s1.s1) (y := c46.s2.s2.s1.s2) (by kernel_rfl) ?_
    refine TS.region' (id := 3) (b := false) (ops := c46.s2.s2.s1.s1.rops) (by kernel_rfl) rfl ?_
    refine TI.run 2 [6] [] (a2 := (st 7 [(6, .bool (decide (p0 < 0)))])) (h2 := []) (by kernel_rfl) ?_
    refine TI.done (by kernel_rfl) ?_
    refine NX.sq ?_
    refine TS.cond' (o := (.tmp 6)) (x := c46.s2.s2.s1.s2.th) (y := c46.s2.s2.s1.s2.el) (b := decide (p0 < 0)) (by kernel_rfl) (by kernel_rfl) (fun hc2 => ?_) (fun hc2 => ?_)
    · replace hF := of_pos hF hc2
      refine TS.seq' (x := c46.s2.s2.s1.s2.th.s1) (y := c46.s2.s2.s1.s2.th.s2) (by kernel_rfl) ?_
      refine TS.region' (id := 4) (b := false) (ops := c46.s2.s2.s1.s2.th.s1.rops) (by kernel_rfl) rfl ?_
      refine TI.run 1 [2] [] (a2 := (st 7 [(2, .int .i64 (-1))])) (h2 := []) (by kernel_rfl) ?_
      refine TI.done (by kernel_rfl) ?_
      refine NX.sq ?_
      refine TS.ret' (by kernel_rfl) ?_
      refine NX.sqR ?_
      have hF := Option.some.inj hF
      subst hF
      exact ⟨.inr rfl, rfl, .int .i64 (-1), by kernel_rfl, WkV.flat0 (by kernel_rfl) (Nat.le_of_ble_eq_true rfl)⟩
    · replace hF := of_neg hF hc2
      refine TS.skip' (by kernel_rfl) ?_
      refine NX.sq ?_
      refine TS.seq' (x := c46.s2.s2.s2.s1) (y := c46.s2.s2.s2.s2) (by kernel_rfl) ?_
      refine TS.region' (id := 5) (b := false) (ops := c46.s2.s2.s2.s1.rops) (by kernel_rfl) rfl ?_
      refine TI.run 1 [2] [] (a2 := (st 7 [(2, .int .i64 0)])) (h2 := []) (by kernel_rfl) ?_
      refine TI.done (by kernel_rfl) ?_
      refine NX.sq ?_
      refine TS.ret' (by kernel_rfl) ?_
      have hF := Option.some.inj hF
      subst hF
      exact ⟨.inr rfl, rfl, .int .i64 0, by kernel_rfl, WkV.flat0 (by kernel_rfl) (Nat.le_of_ble_eq_true rfl)⟩
theorem C46 (p0 : Int) (r : Int) (hF : F46 p0 = some r) : PureSim Try.prog 46 [.int .i64 p0] [] (V46 0 r) (N46 0 r) :=
  PureSim.of_Fin Try.func46 (c := c46) (by kernel_rfl) (by kernel_rfl) 0 rfl [0] [] (by kernel_rfl) (B46 p0 r hF)

-- agonic/agonicref07.Side
noncomputable def c14 : Code := Try.f14.code
def F14 (p0 : Int) (p1 : Int) (p2 : Int) (p3 : Int) (p4 : Int) (p5 : Int) (p6 : Int) (p7 : Int) (p8 : Int) (p9 : Int) (p10 : Int) (p11 : Int) : Option (Int × Int) :=
  F45 p0 p1 >>= fun r1 =>
  (
    if r1 then
      F45 p4 p5 >>= fun r3 =>
      if r3 then
        F45 p8 p9 >>= fun r5 =>
        if r5 then
          some (false)
        else
          some (true)
      else
        some (true)
    else
      some (true)
  : Option Bool) >>= fun m7 =>
  if m7 then
    some (0, 1)
  else
    F47 p0 p1 p2 p3 p4 p5 p6 p7 p8 p9 p10 p11 >>= fun r8 =>
    F46 r8 >>= fun r10 =>
    some (r10, 0)
def V14 (b : Nat) (r : (Int × Int)) : Value := .tuple ⟨[.int .i64 r.1, .int .i64 r.2]⟩
def N14 (b : Nat) (r : (Int × Int)) : List Blk := []
theorem B14 (p0 : Int) (p1 : Int) (p2 : Int) (p3 : Int) (p4 : Int) (p5 : Int) (p6 : Int) (p7 : Int) (p8 : Int) (p9 : Int) (p10 : Int) (p11 : Int) (r : (Int × Int)) (hF : F14 p0 p1 p2 p3 p4 p5 p6 p7 p8 p9 p10 p11 = some r) : TS Try.prog 0 0 c14 (st 35 [(0, .agg ⟨[.int .i64 p0, .int .i64 p1, .int .i64 p2, .int .i64 p3]⟩), (1, .agg ⟨[.int .i64 p4, .int .i64 p5, .int .i64 p6, .int .i64 p7]⟩), (2, .agg ⟨[.int .i64 p8, .int .i64 p9, .int .i64 p10, .int .i64 p11]⟩)]) [] (NX Try.prog 0 0 [] (FinP Try.prog Try.f14 0 (V14 0 r) (N14 0 r))) := by
  unfold F14 at hF
  refine TS.seq' (x := c14.s1) (y := c14.s2) (by kernel_rfl) ?_
  refine TS.region' (id := 0) (b := false) (ops := c14.s1.rops) (by kernel_rfl) rfl ?_
  refine TI.run 5 [3, 4, 5] [0, 1, 2] (a2 := (st 35 [(3, .pointer (some ⟨0, 0, none⟩)), (4, .pointer (some ⟨1, 0, none⟩)), (5, .pointer (some ⟨2, 0, none⟩))])) (h2 := [.cells 35 [.int .i64 p0, .int .i64 p1, .int .i64 p2, .int .i64 p3], .cells 35 [.int .i64 p4, .int .i64 p5, .int .i64 p6, .int .i64 p7], .cells 35 [.int .i64 p8, .int .i64 p9, .int .i64 p10, .int .i64 p11]]) (by kernel_rfl) ?_
  refine TI.done (by kernel_rfl) ?_
  refine NX.sq ?_
  refine TS.seq' (x := c14.s2.s1) (y := c14.s2.s2) (by kernel_rfl) ?_
  refine TS.seq' (x := c14.s2.s1.s1) (y := c14.s2.s1.s2) (by kernel_rfl) ?_
  have hX := of_do hF
  clear hF
  obtain ⟨r1, h2, hF⟩ := hX
  have hX := of_do hF
  clear hF
  obtain ⟨m7, hm12, hF⟩ := hX
  have hK : NX Try.prog 0 0 [.sq c14.s2.s1.s2, .sq c14.s2.s2] (FinP Try.prog Try.f14 0 (V14 0 r) (N14 0 r)) .normal (st 35 [(3, .pointer (some ⟨0, 0, none⟩)), (4, .pointer (some ⟨1, 0, none⟩)), (5, .pointer (some ⟨2, 0, none⟩)), (29, .bool m7)]) [.cells 35 [.int .i64 p0, .int .i64 p1, .int .i64 p2, .int .i64 p3], .cells 35 [.int .i64 p4, .int .i64 p5, .int .i64 p6, .int .i64 p7], .cells 35 [.int .i64 p8, .int .i64 p9, .int .i64 p10, .int .i64 p11]] := by
    refine NX.sq ?_
    cases m7 with
    | true =>
      replace hF := of_pos hF rfl
      refine TS.condT' (o := (.tmp 29)) (x := c14.s2.s1.s2.th) (y := c14.s2.s1.s2.el) (by kernel_rfl) (by kernel_rfl) ?_
      refine TS.seq' (x := c14.s2.s1.s2.th.s1) (y := c14.s2.s1.s2.th.s2) (by kernel_rfl) ?_
      refine TS.region' (id := 2) (b := false) (ops := c14.s2.s1.s2.th.s1.rops) (by kernel_rfl) rfl ?_
      refine TI.run 2 [6, 7] [] (a2 := (st 35 [(6, .int .i64 0), (7, .int .i64 1)])) (h2 := [.dead, .dead, .dead]) (by kernel_rfl) ?_
      refine TI.done (by kernel_rfl) ?_
      refine NX.sq ?_
      refine TS.ret' (by kernel_rfl) ?_
      refine NX.sqR ?_
      have hF := Option.some.inj hF
      subst hF
      exact ⟨.inr rfl, rfl, .tuple ⟨[.int .i64 0, .int .i64 1]⟩, by kernel_rfl, WkV.flat0 (by kernel_rfl) (Nat.le_of_ble_eq_true rfl)⟩
    | false =>
      replace hF := of_neg hF rfl
      refine TS.condF' (o := (.tmp 29)) (x := c14.s2.s1.s2.th) (y := c14.s2.s1.s2.el) (by kernel_rfl) (by kernel_rfl) ?_
      refine TS.skip' (by kernel_rfl) ?_
      refine NX.sq ?_
      refine TS.seq' (x := c14.s2.s2.s1) (y := c14.s2.s2.s2) (by kernel_rfl) ?_
      have hX := of_do hF
      clear hF
      obtain ⟨r8, h9, hF⟩ := hX
      have hX := of_do hF
      clear hF
      obtain ⟨r10, h11, hF⟩ := hX
      refine TS.region' (id := 3) (b := false) (ops := c14.s2.s2.s1.rops) (by kernel_rfl) rfl ?_
      refine TI.run 3 [30, 31, 32] [] (a2 := (st 35 [(30, .agg ⟨[.int .i64 p0, .int .i64 p1, .int .i64 p2, .int .i64 p3]⟩), (31, .agg ⟨[.int .i64 p4, .int .i64 p5, .int .i64 p6, .int .i64 p7]⟩), (32, .agg ⟨[.int .i64 p8, .int .i64 p9, .int .i64 p10, .int .i64 p11]⟩)])) (h2 := [.dead, .dead, .dead]) (by kernel_rfl) ?_
      refine TI.callM (g := 47) (args := [.agg ⟨[.int .i64 p0, .int .i64 p1, .int .i64 p2, .int .i64 p3]⟩, .agg ⟨[.int .i64 p4, .int .i64 p5, .int .i64 p6, .int .i64 p7]⟩, .agg ⟨[.int .i64 p8, .int .i64 p9, .int .i64 p10, .int .i64 p11]⟩]) (v := .int .i64 r8) (new := []) (by kernel_rfl) (PureSim.any (C47 p0 p1 p2 p3 p4 p5 p6 p7 p8 p9 p10 p11 r8 h9) (flatL (by kernel_rfl)) (by kernel_rfl) [.dead, .dead, .dead]) [33] [] (a2 := (st 35 [(33, .int .i64 r8)])) (h2 := [.dead, .dead, .dead]) (by kernel_rfl) ?_
      refine TI.callM (g := 46) (args := [.int .i64 r8]) (v := .int .i64 r10) (new := []) (by kernel_rfl) (PureSim.any (C46 r8 r10 h11) (flatL (by kernel_rfl)) (by kernel_rfl) [.dead, .dead, .dead]) [34] [] (a2 := (st 35 [(34, .int .i64 r10)])) (h2 := [.dead, .dead, .dead]) (by kernel_rfl) ?_
      refine TI.run 2 [6, 7] [] (a2 := (st 35 [(6, .int .i64 r10), (7, .int .i64 0)])) (h2 := [.dead, .dead, .dead]) (by kernel_rfl) ?_
      refine TI.done (by kernel_rfl) ?_
      refine NX.sq ?_
      refine TS.ret' (by kernel_rfl) ?_
      have hF := Option.some.inj hF
      subst hF
      exact ⟨.inr rfl, rfl, .tuple ⟨[.int .i64 r10, .int .i64 0]⟩, by kernel_rfl, WkV.flat0 (by kernel_rfl) (Nat.le_of_ble_eq_true rfl)⟩
  cases r1 with
  | true =>
    replace hm12 := of_pos hm12 rfl
    have hX := of_do hm12
    clear hm12
    obtain ⟨r3, h4, hm12⟩ := hX
    cases r3 with
    | true =>
      replace hm12 := of_pos hm12 rfl
      have hX := of_do hm12
      clear hm12
      obtain ⟨r5, h6, hm12⟩ := hX
      cases r5 with
      | true =>
        replace hm12 := of_pos hm12 rfl
        have hm12 := Option.some.inj hm12
        subst hm12
        refine TS.region' (id := 1) (b := false) (ops := c14.s2.s1.s1.rops) (by kernel_rfl) rfl ?_
        refine TI.run 4 [3, 4, 5, 9, 11] [0, 1, 2] (a2 := (st 35 [(3, .pointer (some ⟨0, 0, none⟩)), (4, .pointer (some ⟨1, 0, none⟩)), (5, .pointer (some ⟨2, 0, none⟩)), (9, .int .i64 p0), (11, .int .i64 p1)])) (h2 := [.cells 35 [.int .i64 p0, .int .i64 p1, .int .i64 p2, .int .i64 p3], .cells 35 [.int .i64 p4, .int .i64 p5, .int .i64 p6, .int .i64 p7], .cells 35 [.int .i64 p8, .int .i64 p9, .int .i64 p10, .int .i64 p11]]) (by kernel_rfl) ?_
        refine TI.callM (g := 45) (args := [.int .i64 p0, .int .i64 p1]) (v := .bool true) (new := []) (by kernel_rfl) (PureSim.any (C45 p0 p1 true h2) (flatL (by kernel_rfl)) (by kernel_rfl) [.cells 35 [.int .i64 p0, .int .i64 p1, .int .i64 p2, .int .i64 p3], .cells 35 [.int .i64 p4, .int .i64 p5, .int .i64 p6, .int .i64 p7], .cells 35 [.int .i64 p8, .int .i64 p9, .int .i64 p10, .int .i64 p11]]) [3, 4, 5, 12] [0, 1, 2] (a2 := (st 35 [(3, .pointer (some ⟨0, 0, none⟩)), (4, .pointer (some ⟨1, 0, none⟩)), (5, .pointer (some ⟨2, 0, none⟩)), (12, .bool true)])) (h2 := [.cells 35 [.int .i64 p0, .int .i64 p1, .int .i64 p2, .int .i64 p3], .cells 35 [.int .i64 p4, .int .i64 p5, .int .i64 p6, .int .i64 p7], .cells 35 [.int .i64 p8, .int .i64 p9, .int .i64 p10, .int .i64 p11]]) (by kernel_rfl) ?_
        refine TI.run 6 [3, 4, 5, 14, 16, 18] [0, 1, 2] (a2 := (st 35 [(3, .pointer (some ⟨0, 0, none⟩)), (4, .pointer (some ⟨1, 0, none⟩)), (5, .pointer (some ⟨2, 0, none⟩)), (14, .bool false), (16, .int .i64 p4), (18, .int .i64 p5)])) (h2 := [.cells 35 [.int .i64 p0, .int .i64 p1, .int .i64 p2, .int .i64 p3], .cells 35 [.int .i64 p4, .int .i64 p5, .int .i64 p6, .int .i64 p7], .cells 35 [.int .i64 p8, .int .i64 p9, .int .i64 p10, .int .i64 p11]]) (by kernel_rfl) ?_
        refine TI.callM (g := 45) (args := [.int .i64 p4, .int .i64 p5]) (v := .bool true) (new := []) (by kernel_rfl) (PureSim.any (C45 p4 p5 true h4) (flatL (by kernel_rfl)) (by kernel_rfl) [.cells 35 [.int .i64 p0, .int .i64 p1, .int .i64 p2, .int .i64 p3], .cells 35 [.int .i64 p4, .int .i64 p5, .int .i64 p6, .int .i64 p7], .cells 35 [.int .i64 p8, .int .i64 p9, .int .i64 p10, .int .i64 p11]]) [3, 4, 5, 14, 19] [0, 1, 2] (a2 := (st 35 [(3, .pointer (some ⟨0, 0, none⟩)), (4, .pointer (some ⟨1, 0, none⟩)), (5, .pointer (some ⟨2, 0, none⟩)), (14, .bool false), (19, .bool true)])) (h2 := [.cells 35 [.int .i64 p0, .int .i64 p1, .int .i64 p2, .int .i64 p3], .cells 35 [.int .i64 p4, .int .i64 p5, .int .i64 p6, .int .i64 p7], .cells 35 [.int .i64 p8, .int .i64 p9, .int .i64 p10, .int .i64 p11]]) (by kernel_rfl) ?_
        refine TI.run 7 [3, 4, 5, 22, 24, 26] [0, 1, 2] (a2 := (st 35 [(3, .pointer (some ⟨0, 0, none⟩)), (4, .pointer (some ⟨1, 0, none⟩)), (5, .pointer (some ⟨2, 0, none⟩)), (22, .bool false), (24, .int .i64 p8), (26, .int .i64 p9)])) (h2 := [.cells 35 [.int .i64 p0, .int .i64 p1, .int .i64 p2, .int .i64 p3], .cells 35 [.int .i64 p4, .int .i64 p5, .int .i64 p6, .int .i64 p7], .cells 35 [.int .i64 p8, .int .i64 p9, .int .i64 p10, .int .i64 p11]]) (by kernel_rfl) ?_
        refine TI.callM (g := 45) (args := [.int .i64 p8, .int .i64 p9]) (v := .bool true) (new := []) (by kernel_rfl) (PureSim.any (C45 p8 p9 true h6) (flatL (by kernel_rfl)) (by kernel_rfl) [.cells 35 [.int .i64 p0, .int .i64 p1, .int .i64 p2, .int .i64 p3], .cells 35 [.int .i64 p4, .int .i64 p5, .int .i64 p6, .int .i64 p7], .cells 35 [.int .i64 p8, .int .i64 p9, .int .i64 p10, .int .i64 p11]]) [3, 4, 5, 22, 27] [0, 1, 2] (a2 := (st 35 [(3, .pointer (some ⟨0, 0, none⟩)), (4, .pointer (some ⟨1, 0, none⟩)), (5, .pointer (some ⟨2, 0, none⟩)), (22, .bool false), (27, .bool true)])) (h2 := [.cells 35 [.int .i64 p0, .int .i64 p1, .int .i64 p2, .int .i64 p3], .cells 35 [.int .i64 p4, .int .i64 p5, .int .i64 p6, .int .i64 p7], .cells 35 [.int .i64 p8, .int .i64 p9, .int .i64 p10, .int .i64 p11]]) (by kernel_rfl) ?_
        refine TI.run 2 [3, 4, 5, 29] [0, 1, 2] (a2 := (st 35 [(3, .pointer (some ⟨0, 0, none⟩)), (4, .pointer (some ⟨1, 0, none⟩)), (5, .pointer (some ⟨2, 0, none⟩)), (29, .bool false)])) (h2 := [.cells 35 [.int .i64 p0, .int .i64 p1, .int .i64 p2, .int .i64 p3], .cells 35 [.int .i64 p4, .int .i64 p5, .int .i64 p6, .int .i64 p7], .cells 35 [.int .i64 p8, .int .i64 p9, .int .i64 p10, .int .i64 p11]]) (by kernel_rfl) ?_
        refine TI.done (by kernel_rfl) ?_
        exact hK
      | false =>
        replace hm12 := of_neg hm12 rfl
        have hm12 := Option.some.inj hm12
        subst hm12
        refine TS.region' (id := 1) (b := false) (ops := c14.s2.s1.s1.rops) (by kernel_rfl) rfl ?_
        refine TI.run 4 [3, 4, 5, 9, 11] [0, 1, 2] (a2 := (st 35 [(3, .pointer (some ⟨0, 0, none⟩)), (4, .pointer (some ⟨1, 0, none⟩)), (5, .pointer (some ⟨2, 0, none⟩)), (9, .int .i64 p0), (11, .int .i64 p1)])) (h2 := [.cells 35 [.int .i64 p0, .int .i64 p1, .int .i64 p2, .int .i64 p3], .cells 35 [.int .i64 p4, .int .i64 p5, .int .i64 p6, .int .i64 p7], .cells 35 [.int .i64 p8, .int .i64 p9, .int .i64 p10, .int .i64 p11]]) (by kernel_rfl) ?_
        refine TI.callM (g := 45) (args := [.int .i64 p0, .int .i64 p1]) (v := .bool true) (new := []) (by kernel_rfl) (PureSim.any (C45 p0 p1 true h2) (flatL (by kernel_rfl)) (by kernel_rfl) [.cells 35 [.int .i64 p0, .int .i64 p1, .int .i64 p2, .int .i64 p3], .cells 35 [.int .i64 p4, .int .i64 p5, .int .i64 p6, .int .i64 p7], .cells 35 [.int .i64 p8, .int .i64 p9, .int .i64 p10, .int .i64 p11]]) [3, 4, 5, 12] [0, 1, 2] (a2 := (st 35 [(3, .pointer (some ⟨0, 0, none⟩)), (4, .pointer (some ⟨1, 0, none⟩)), (5, .pointer (some ⟨2, 0, none⟩)), (12, .bool true)])) (h2 := [.cells 35 [.int .i64 p0, .int .i64 p1, .int .i64 p2, .int .i64 p3], .cells 35 [.int .i64 p4, .int .i64 p5, .int .i64 p6, .int .i64 p7], .cells 35 [.int .i64 p8, .int .i64 p9, .int .i64 p10, .int .i64 p11]]) (by kernel_rfl) ?_
        refine TI.run 6 [3, 4, 5, 14, 16, 18] [0, 1, 2] (a2 := (st 35 [(3, .pointer (some ⟨0, 0, none⟩)), (4, .pointer (some ⟨1, 0, none⟩)), (5, .pointer (some ⟨2, 0, none⟩)), (14, .bool false), (16, .int .i64 p4), (18, .int .i64 p5)])) (h2 := [.cells 35 [.int .i64 p0, .int .i64 p1, .int .i64 p2, .int .i64 p3], .cells 35 [.int .i64 p4, .int .i64 p5, .int .i64 p6, .int .i64 p7], .cells 35 [.int .i64 p8, .int .i64 p9, .int .i64 p10, .int .i64 p11]]) (by kernel_rfl) ?_
        refine TI.callM (g := 45) (args := [.int .i64 p4, .int .i64 p5]) (v := .bool true) (new := []) (by kernel_rfl) (PureSim.any (C45 p4 p5 true h4) (flatL (by kernel_rfl)) (by kernel_rfl) [.cells 35 [.int .i64 p0, .int .i64 p1, .int .i64 p2, .int .i64 p3], .cells 35 [.int .i64 p4, .int .i64 p5, .int .i64 p6, .int .i64 p7], .cells 35 [.int .i64 p8, .int .i64 p9, .int .i64 p10, .int .i64 p11]]) [3, 4, 5, 14, 19] [0, 1, 2] (a2 := (st 35 [(3, .pointer (some ⟨0, 0, none⟩)), (4, .pointer (some ⟨1, 0, none⟩)), (5, .pointer (some ⟨2, 0, none⟩)), (14, .bool false), (19, .bool true)])) (h2 := [.cells 35 [.int .i64 p0, .int .i64 p1, .int .i64 p2, .int .i64 p3], .cells 35 [.int .i64 p4, .int .i64 p5, .int .i64 p6, .int .i64 p7], .cells 35 [.int .i64 p8, .int .i64 p9, .int .i64 p10, .int .i64 p11]]) (by kernel_rfl) ?_
        refine TI.run 7 [3, 4, 5, 22, 24, 26] [0, 1, 2] (a2 := (st 35 [(3, .pointer (some ⟨0, 0, none⟩)), (4, .pointer (some ⟨1, 0, none⟩)), (5, .pointer (some ⟨2, 0, none⟩)), (22, .bool false), (24, .int .i64 p8), (26, .int .i64 p9)])) (h2 := [.cells 35 [.int .i64 p0, .int .i64 p1, .int .i64 p2, .int .i64 p3], .cells 35 [.int .i64 p4, .int .i64 p5, .int .i64 p6, .int .i64 p7], .cells 35 [.int .i64 p8, .int .i64 p9, .int .i64 p10, .int .i64 p11]]) (by kernel_rfl) ?_
        refine TI.callM (g := 45) (args := [.int .i64 p8, .int .i64 p9]) (v := .bool false) (new := []) (by kernel_rfl) (PureSim.any (C45 p8 p9 false h6) (flatL (by kernel_rfl)) (by kernel_rfl) [.cells 35 [.int .i64 p0, .int .i64 p1, .int .i64 p2, .int .i64 p3], .cells 35 [.int .i64 p4, .int .i64 p5, .int .i64 p6, .int .i64 p7], .cells 35 [.int .i64 p8, .int .i64 p9, .int .i64 p10, .int .i64 p11]]) [3, 4, 5, 22, 27] [0, 1, 2] (a2 := (st 35 [(3, .pointer (some ⟨0, 0, none⟩)), (4, .pointer (some ⟨1, 0, none⟩)), (5, .pointer (some ⟨2, 0, none⟩)), (22, .bool false), (27, .bool false)])) (h2 := [.cells 35 [.int .i64 p0, .int .i64 p1, .int .i64 p2, .int .i64 p3], .cells 35 [.int .i64 p4, .int .i64 p5, .int .i64 p6, .int .i64 p7], .cells 35 [.int .i64 p8, .int .i64 p9, .int .i64 p10, .int .i64 p11]]) (by kernel_rfl) ?_
        refine TI.run 2 [3, 4, 5, 29] [0, 1, 2] (a2 := (st 35 [(3, .pointer (some ⟨0, 0, none⟩)), (4, .pointer (some ⟨1, 0, none⟩)), (5, .pointer (some ⟨2, 0, none⟩)), (29, .bool true)])) (h2 := [.cells 35 [.int .i64 p0, .int .i64 p1, .int .i64 p2, .int .i64 p3], .cells 35 [.int .i64 p4, .int .i64 p5, .int .i64 p6, .int .i64 p7], .cells 35 [.int .i64 p8, .int .i64 p9, .int .i64 p10, .int .i64 p11]]) (by kernel_rfl) ?_
        refine TI.done (by kernel_rfl) ?_
        exact hK
    | false =>
      replace hm12 := of_neg hm12 rfl
      have hm12 := Option.some.inj hm12
      subst hm12
      refine TS.region' (id := 1) (b := false) (ops := c14.s2.s1.s1.rops) (by kernel_rfl) rfl ?_
      refine TI.run 4 [3, 4, 5, 9, 11] [0, 1, 2] (a2 := (st 35 [(3, .pointer (some ⟨0, 0, none⟩)), (4, .pointer (some ⟨1, 0, none⟩)), (5, .pointer (some ⟨2, 0, none⟩)), (9, .int .i64 p0), (11, .int .i64 p1)])) (h2 := [.cells 35 [.int .i64 p0, .int .i64 p1, .int .i64 p2, .int .i64 p3], .cells 35 [.int .i64 p4, .int .i64 p5, .int .i64 p6, .int .i64 p7], .cells 35 [.int .i64 p8, .int .i64 p9, .int .i64 p10, .int .i64 p11]]) (by kernel_rfl) ?_
      refine TI.callM (g := 45) (args := [.int .i64 p0, .int .i64 p1]) (v := .bool true) (new := []) (by kernel_rfl) (PureSim.any (C45 p0 p1 true h2) (flatL (by kernel_rfl)) (by kernel_rfl) [.cells 35 [.int .i64 p0, .int .i64 p1, .int .i64 p2, .int .i64 p3], .cells 35 [.int .i64 p4, .int .i64 p5, .int .i64 p6, .int .i64 p7], .cells 35 [.int .i64 p8, .int .i64 p9, .int .i64 p10, .int .i64 p11]]) [3, 4, 5, 12] [0, 1, 2] (a2 := (st 35 [(3, .pointer (some ⟨0, 0, none⟩)), (4, .pointer (some ⟨1, 0, none⟩)), (5, .pointer (some ⟨2, 0, none⟩)), (12, .bool true)])) (h2 := [.cells 35 [.int .i64 p0, .int .i64 p1, .int .i64 p2, .int .i64 p3], .cells 35 [.int .i64 p4, .int .i64 p5, .int .i64 p6, .int .i64 p7], .cells 35 [.int .i64 p8, .int .i64 p9, .int .i64 p10, .int .i64 p11]]) (by kernel_rfl) ?_
      refine TI.run 6 [3, 4, 5, 14, 16, 18] [0, 1, 2] (a2 := (st 35 [(3, .pointer (some ⟨0, 0, none⟩)), (4, .pointer (some ⟨1, 0, none⟩)), (5, .pointer (some ⟨2, 0, none⟩)), (14, .bool false), (16, .int .i64 p4), (18, .int .i64 p5)])) (h2 := [.cells 35 [.int .i64 p0, .int .i64 p1, .int .i64 p2, .int .i64 p3], .cells 35 [.int .i64 p4, .int .i64 p5, .int .i64 p6, .int .i64 p7], .cells 35 [.int .i64 p8, .int .i64 p9, .int .i64 p10, .int .i64 p11]]) (by kernel_rfl) ?_
      refine TI.callM (g := 45) (args := [.int .i64 p4, .int .i64 p5]) (v := .bool false) (new := []) (by kernel_rfl) (PureSim.any (C45 p4 p5 false h4) (flatL (by kernel_rfl)) (by kernel_rfl) [.cells 35 [.int .i64 p0, .int .i64 p1, .int .i64 p2, .int .i64 p3], .cells 35 [.int .i64 p4, .int .i64 p5, .int .i64 p6, .int .i64 p7], .cells 35 [.int .i64 p8, .int .i64 p9, .int .i64 p10, .int .i64 p11]]) [3, 4, 5, 14, 19] [0, 1, 2] (a2 := (st 35 [(3, .pointer (some ⟨0, 0, none⟩)), (4, .pointer (some ⟨1, 0, none⟩)), (5, .pointer (some ⟨2, 0, none⟩)), (14, .bool false), (19, .bool false)])) (h2 := [.cells 35 [.int .i64 p0, .int .i64 p1, .int .i64 p2, .int .i64 p3], .cells 35 [.int .i64 p4, .int .i64 p5, .int .i64 p6, .int .i64 p7], .cells 35 [.int .i64 p8, .int .i64 p9, .int .i64 p10, .int .i64 p11]]) (by kernel_rfl) ?_
      refine TI.run 10 [3, 4, 5, 29] [0, 1, 2] (a2 := (st 35 [(3, .pointer (some ⟨0, 0, none⟩)), (4, .pointer (some ⟨1, 0, none⟩)), (5, .pointer (some ⟨2, 0, none⟩)), (29, .bool true)])) (h2 := [.cells 35 [.int .i64 p0, .int .i64 p1, .int .i64 p2, .int .i64 p3], .cells 35 [.int .i64 p4, .int .i64 p5, .int .i64 p6, .int .i64 p7], .cells 35 [.int .i64 p8, .int .i64 p9, .int .i64 p10, .int .i64 p11]]) (by kernel_rfl) ?_
      refine TI.done (by kernel_rfl) ?_
      exact hK
  | false =>
    replace hm12 := of_neg hm12 rfl
    have hm12 := Option.some.inj hm12
    subst hm12
    refine TS.region' (id := 1) (b := false) (ops := c14.s2.s1.s1.rops) (by kernel_rfl) rfl ?_
    refine TI.run 4 [3, 4, 5, 9, 11] [0, 1, 2] (a2 := (st 35 [(3, .pointer (some ⟨0, 0, none⟩)), (4, .pointer (some ⟨1, 0, none⟩)), (5, .pointer (some ⟨2, 0, none⟩)), (9, .int .i64 p0), (11, .int .i64 p1)])) (h2 := [.cells 35 [.int .i64 p0, .int .i64 p1, .int .i64 p2, .int .i64 p3], .cells 35 [.int .i64 p4, .int .i64 p5, .int .i64 p6, .int .i64 p7], .cells 35 [.int .i64 p8, .int .i64 p9, .int .i64 p10, .int .i64 p11]]) (by kernel_rfl) ?_
    refine TI.callM (g := 45) (args := [.int .i64 p0, .int .i64 p1]) (v := .bool false) (new := []) (by kernel_rfl) (PureSim.any (C45 p0 p1 false h2) (flatL (by kernel_rfl)) (by kernel_rfl) [.cells 35 [.int .i64 p0, .int .i64 p1, .int .i64 p2, .int .i64 p3], .cells 35 [.int .i64 p4, .int .i64 p5, .int .i64 p6, .int .i64 p7], .cells 35 [.int .i64 p8, .int .i64 p9, .int .i64 p10, .int .i64 p11]]) [3, 4, 5, 12] [0, 1, 2] (a2 := (st 35 [(3, .pointer (some ⟨0, 0, none⟩)), (4, .pointer (some ⟨1, 0, none⟩)), (5, .pointer (some ⟨2, 0, none⟩)), (12, .bool false)])) (h2 := [.cells 35 [.int .i64 p0, .int .i64 p1, .int .i64 p2, .int .i64 p3], .cells 35 [.int .i64 p4, .int .i64 p5, .int .i64 p6, .int .i64 p7], .cells 35 [.int .i64 p8, .int .i64 p9, .int .i64 p10, .int .i64 p11]]) (by kernel_rfl) ?_
    refine TI.run 17 [3, 4, 5, 29] [0, 1, 2] (a2 := (st 35 [(3, .pointer (some ⟨0, 0, none⟩)), (4, .pointer (some ⟨1, 0, none⟩)), (5, .pointer (some ⟨2, 0, none⟩)), (29, .bool true)])) (h2 := [.cells 35 [.int .i64 p0, .int .i64 p1, .int .i64 p2, .int .i64 p3], .cells 35 [.int .i64 p4, .int .i64 p5, .int .i64 p6, .int .i64 p7], .cells 35 [.int .i64 p8, .int .i64 p9, .int .i64 p10, .int .i64 p11]]) (by kernel_rfl) ?_
    refine TI.done (by kernel_rfl) ?_
    exact hK
theorem C14 (p0 : Int) (p1 : Int) (p2 : Int) (p3 : Int) (p4 : Int) (p5 : Int) (p6 : Int) (p7 : Int) (p8 : Int) (p9 : Int) (p10 : Int) (p11 : Int) (r : (Int × Int)) (hF : F14 p0 p1 p2 p3 p4 p5 p6 p7 p8 p9 p10 p11 = some r) : PureSim Try.prog 14 [.agg ⟨[.int .i64 p0, .int .i64 p1, .int .i64 p2, .int .i64 p3]⟩, .agg ⟨[.int .i64 p4, .int .i64 p5, .int .i64 p6, .int .i64 p7]⟩, .agg ⟨[.int .i64 p8, .int .i64 p9, .int .i64 p10, .int .i64 p11]⟩] [] (V14 0 r) (N14 0 r) :=
  PureSim.of_Fin Try.func14 (c := c14) (by kernel_rfl) (by kernel_rfl) 0 rfl [0, 1, 2] [] (by kernel_rfl) (B14 p0 p1 p2 p3 p4 p5 p6 p7 p8 p9 p10 p11 r hF)

-- (agonic/chart.point).dot
noncomputable def c68 : Code := Try.f68.code
def F68 (p0 : Int) (p1 : Int) (p2 : Int) (p3 : Int) : Option Int :=
  some (w64 ((w64 (p0 * p2)) + (w64 (p1 * p3))))
def V68 (b : Nat) (r : Int) : Value := .int .i64 r
def N68 (b : Nat) (r : Int) : List Blk := []
theorem B68 (p0 : Int) (p1 : Int) (p2 : Int) (p3 : Int) (r : Int) (hF : F68 p0 p1 p2 p3 = some r) : TS Try.prog 0 0 c68 (st 16 [(0, .agg ⟨[.int .i64 p0, .int .i64 p1]⟩), (1, .agg ⟨[.int .i64 p2, .int .i64 p3]⟩)]) [] (NX Try.prog 0 0 [] (FinP Try.prog Try.f68 0 (V68 0 r) (N68 0 r))) := by
  unfold F68 at hF
  refine TS.seq' (x := c68.s1) (y := c68.s2) (by kernel_rfl) ?_
  refine TS.region' (id := 0) (b := false) (ops := c68.s1.rops) (by kernel_rfl) rfl ?_
  refine TI.run 3 [2, 3] [0, 1] (a2 := (st 16 [(2, .pointer (some ⟨0, 0, none⟩)), (3, .pointer (some ⟨1, 0, none⟩))])) (h2 := [.cells 87 [.int .i64 p0, .int .i64 p1], .cells 87 [.int .i64 p2, .int .i64 p3]]) (by kernel_rfl) ?_
  refine TI.done (by kernel_rfl) ?_
  refine NX.sq ?_
  refine TS.seq' (x := c68.s2.s1) (y := c68.s2.s2) (by kernel_rfl) ?_
  refine TS.region' (id := 1) (b := false) (ops := c68.s2.s1.rops) (by kernel_rfl) rfl ?_
  refine TI.run 12 [4] [] (a2 := (st 16 [(4, .int .i64 (w64 ((w64 (p0 * p2)) + (w64 (p1 * p3)))))])) (h2 := [.dead, .dead]) (by kernel_rfl) ?_
  refine TI.done (by kernel_rfl) ?_
  refine NX.sq ?_
  refine TS.ret' (by kernel_rfl) ?_
  have hF := Option.some.inj hF
  subst hF
  exact ⟨.inr rfl, rfl, .int .i64 (w64 ((w64 (p0 * p2)) + (w64 (p1 * p3)))), by kernel_rfl, WkV.flat0 (by kernel_rfl) (Nat.le_of_ble_eq_true rfl)⟩
theorem C68 (p0 : Int) (p1 : Int) (p2 : Int) (p3 : Int) (r : Int) (hF : F68 p0 p1 p2 p3 = some r) : PureSim Try.prog 68 [.agg ⟨[.int .i64 p0, .int .i64 p1]⟩, .agg ⟨[.int .i64 p2, .int .i64 p3]⟩] [] (V68 0 r) (N68 0 r) :=
  PureSim.of_Fin Try.func68 (c := c68) (by kernel_rfl) (by kernel_rfl) 0 rfl [0, 1] [] (by kernel_rfl) (B68 p0 p1 p2 p3 r hF)

-- agonic/chart.in
noncomputable def c48 : Code := Try.f48.code
def F48 (p0 : Int) (p1 : Int) (p2 : Int) (p3 : Int) (p4 : Int) (p5 : Int) (p6 : Int) (p7 : Int) : Option Int :=
  F65 p0 p1 p6 p7 >>= fun r1 =>
  F65 p2 p3 p6 p7 >>= fun r3 =>
  F65 p4 p5 p6 p7 >>= fun r5 =>
  F68 r1.1 r1.2 r1.1 r1.2 >>= fun r7 =>
  F66 r3.1 r3.2 r5.1 r5.2 >>= fun r9 =>
  F68 r3.1 r3.2 r3.1 r3.2 >>= fun r11 =>
  F66 r1.1 r1.2 r5.1 r5.2 >>= fun r13 =>
  F68 r5.1 r5.2 r5.1 r5.2 >>= fun r15 =>
  F66 r1.1 r1.2 r3.1 r3.2 >>= fun r17 =>
  some (w64 ((w64 ((w64 (r7 * r9)) - (w64 (r11 * r13)))) + (w64 (r15 * r17)))) >>= fun o19 =>
  some o19
def V48 (b : Nat) (r : Int) : Value := .int .i64 r
def N48 (b : Nat) (r : Int) : List Blk := []
theorem B48 (p0 : Int) (p1 : Int) (p2 : Int) (p3 : Int) (p4 : Int) (p5 : Int) (p6 : Int) (p7 : Int) (r : Int) (hF : F48 p0 p1 p2 p3 p4 p5 p6 p7 = some r) : TS Try.prog 0 0 c48 (st 41 [(0, .agg ⟨[.int .i64 p0, .int .i64 p1]⟩), (1, .agg ⟨[.int .i64 p2, .int .i64 p3]⟩), (2, .agg ⟨[.int .i64 p4, .int .i64 p5]⟩), (3, .agg ⟨[.int .i64 p6, .int .i64 p7]⟩)]) [] (NX Try.prog 0 0 [] (FinP Try.prog Try.f48 0 (V48 0 r) (N48 0 r))) := by
  unfold F48 at hF
  refine TS.seq' (x := c48.s1) (y := c48.s2) (by kernel_rfl) ?_
  refine TS.region' (id := 0) (b := false) (ops := c48.s1.rops) (by kernel_rfl) rfl ?_
  refine TI.run 5 [4, 5, 6, 7] [0, 1, 2, 3] (a2 := (st 41 [(4, .pointer (some ⟨0, 0, none⟩)), (5, .pointer (some ⟨1, 0, none⟩)), (6, .pointer (some ⟨2, 0, none⟩)), (7, .pointer (some ⟨3, 0, none⟩))])) (h2 := [.cells 87 [.int .i64 p0, .int .i64 p1], .cells 87 [.int .i64 p2, .int .i64 p3], .cells 87 [.int .i64 p4, .int .i64 p5], .cells 87 [.int .i64 p6, .int .i64 p7]]) (by kernel_rfl) ?_
  refine TI.done (by kernel_rfl) ?_
  refine NX.sq ?_
  refine TS.seq' (x := c48.s2.s1) (y := c48.s2.s2) (by kernel_rfl) ?_
  have hX := of_do hF
  clear hF
  obtain ⟨r1, h2, hF⟩ := hX
  have hX := of_do hF
  clear hF
  obtain ⟨r3, h4, hF⟩ := hX
  have hX := of_do hF
  clear hF
  obtain ⟨r5, h6, hF⟩ := hX
  have hT : ∀ e ∈ ([⟨65, [.agg ⟨[.int .i64 p0, .int .i64 p1]⟩, .agg ⟨[.int .i64 p6, .int .i64 p7]⟩], [.cells 87 [.int .i64 p0, .int .i64 p1], .cells 87 [.int .i64 p2, .int .i64 p3], .cells 87 [.int .i64 p4, .int .i64 p5], .cells 87 [.int .i64 p6, .int .i64 p7]], .agg ⟨[.int .i64 r1.1, .int .i64 r1.2]⟩, []⟩, ⟨65, [.agg ⟨[.int .i64 p2, .int .i64 p3]⟩, .agg ⟨[.int .i64 p6, .int .i64 p7]⟩], [.cells 87 [.int .i64 p0, .int .i64 p1], .cells 87 [.int .i64 p2, .int .i64 p3], .cells 87 [.int .i64 p4, .int .i64 p5], .cells 87 [.int .i64 p6, .int .i64 p7]], .agg ⟨[.int .i64 r3.1, .int .i64 r3.2]⟩, []⟩, ⟨65, [.agg ⟨[.int .i64 p4, .int .i64 p5]⟩, .agg ⟨[.int .i64 p6, .int .i64 p7]⟩], [.cells 87 [.int .i64 p0, .int .i64 p1], .cells 87 [.int .i64 p2, .int .i64 p3], .cells 87 [.int .i64 p4, .int .i64 p5], .cells 87 [.int .i64 p6, .int .i64 p7]], .agg ⟨[.int .i64 r5.1, .int .i64 r5.2]⟩, []⟩] : List Entry), PureSim Try.prog e.g e.args e.h e.v e.new := by
    intro e he
    simp only [List.mem_cons, List.not_mem_nil, or_false] at he
    rcases he with rfl | rfl | rfl
    · exact (PureSim.any (C65 p0 p1 p6 p7 r1 h2) (flatL (by kernel_rfl)) (by kernel_rfl) [.cells 87 [.int .i64 p0, .int .i64 p1], .cells 87 [.int .i64 p2, .int .i64 p3], .cells 87 [.int .i64 p4, .int .i64 p5], .cells 87 [.int .i64 p6, .int .i64 p7]])
    · exact (PureSim.any (C65 p2 p3 p6 p7 r3 h4) (flatL (by kernel_rfl)) (by kernel_rfl) [.cells 87 [.int .i64 p0, .int .i64 p1], .cells 87 [.int .i64 p2, .int .i64 p3], .cells 87 [.int .i64 p4, .int .i64 p5], .cells 87 [.int .i64 p6, .int .i64 p7]])
    · exact (PureSim.any (C65 p4 p5 p6 p7 r5 h6) (flatL (by kernel_rfl)) (by kernel_rfl) [.cells 87 [.int .i64 p0, .int .i64 p1], .cells 87 [.int .i64 p2, .int .i64 p3], .cells 87 [.int .i64 p4, .int .i64 p5], .cells 87 [.int .i64 p6, .int .i64 p7]])
  refine TS.draw' (id := 1) (b := true) (ops := c48.s2.s1.rops) (fin := ({ act := (st 41 [(4, .pointer (some ⟨0, 0, none⟩)), (5, .pointer (some ⟨1, 0, none⟩)), (6, .pointer (some ⟨2, 0, none⟩)), (7, .pointer (some ⟨3, 0, none⟩)), (9, .agg ⟨[.int .i64 p0, .int .i64 p1]⟩), (10, .agg ⟨[.int .i64 p6, .int .i64 p7]⟩), (11, .agg ⟨[.int .i64 r1.1, .int .i64 r1.2]⟩), (12, .agg ⟨[.int .i64 p2, .int .i64 p3]⟩), (13, .agg ⟨[.int .i64 p6, .int .i64 p7]⟩), (14, .agg ⟨[.int .i64 r3.1, .int .i64 r3.2]⟩), (15, .agg ⟨[.int .i64 p4, .int .i64 p5]⟩), (16, .agg ⟨[.int .i64 p6, .int .i64 p7]⟩)]), heap := [.cells 87 [.int .i64 p0, .int .i64 p1], .cells 87 [.int .i64 p2, .int .i64 p3], .cells 87 [.int .i64 p4, .int .i64 p5], .cells 87 [.int .i64 p6, .int .i64 p7]], own := [], upds := [] } : QSt)) (fin2 := ({ act := (st 41 [(4, .pointer (some ⟨0, 0, none⟩)), (5, .pointer (some ⟨1, 0, none⟩)), (6, .pointer (some ⟨2, 0, none⟩)), (7, .pointer (some ⟨3, 0, none⟩)), (9, .agg ⟨[.int .i64 p0, .int .i64 p1]⟩), (10, .agg ⟨[.int .i64 p6, .int .i64 p7]⟩), (11, .agg ⟨[.int .i64 r1.1, .int .i64 r1.2]⟩), (12, .agg ⟨[.int .i64 p2, .int .i64 p3]⟩), (13, .agg ⟨[.int .i64 p6, .int .i64 p7]⟩), (14, .agg ⟨[.int .i64 r3.1, .int .i64 r3.2]⟩), (15, .agg ⟨[.int .i64 p4, .int .i64 p5]⟩), (16, .agg ⟨[.int .i64 p6, .int .i64 p7]⟩)]), heap := [.cells 87 [.int .i64 p0, .int .i64 p1], .cells 87 [.int .i64 p2, .int .i64 p3], .cells 87 [.int .i64 p4, .int .i64 p5], .cells 87 [.int .i64 p6, .int .i64 p7]], own := [], upds := [] } : QSt)) (a1 := (st 41 [(4, .pointer (some ⟨0, 0, none⟩)), (5, .pointer (some ⟨1, 0, none⟩)), (6, .pointer (some ⟨2, 0, none⟩)), (7, .pointer (some ⟨3, 0, none⟩)), (9, .agg ⟨[.int .i64 p0, .int .i64 p1]⟩), (10, .agg ⟨[.int .i64 p6, .int .i64 p7]⟩), (11, .agg ⟨[.int .i64 r1.1, .int .i64 r1.2]⟩), (12, .agg ⟨[.int .i64 p2, .int .i64 p3]⟩), (13, .agg ⟨[.int .i64 p6, .int .i64 p7]⟩), (14, .agg ⟨[.int .i64 r3.1, .int .i64 r3.2]⟩), (15, .agg ⟨[.int .i64 p4, .int .i64 p5]⟩), (16, .agg ⟨[.int .i64 p6, .int .i64 p7]⟩), (17, .agg ⟨[.int .i64 r5.1, .int .i64 r5.2]⟩)])) (h1 := [.cells 87 [.int .i64 r1.1, .int .i64 r1.2], .cells 87 [.int .i64 r3.1, .int .i64 r3.2], .cells 87 [.int .i64 r5.1, .int .i64 r5.2], .cells 87 [.int .i64 p6, .int .i64 p7]]) (a2 := (st 41 [(4, .pointer (some ⟨0, 0, none⟩)), (5, .pointer (some ⟨1, 0, none⟩)), (6, .pointer (some ⟨2, 0, none⟩))])) (h2 := [.cells 87 [.int .i64 r1.1, .int .i64 r1.2], .cells 87 [.int .i64 r3.1, .int .i64 r3.2], .cells 87 [.int .i64 r5.1, .int .i64 r5.2], .dead]) [⟨65, [.agg ⟨[.int .i64 p0, .int .i64 p1]⟩, .agg ⟨[.int .i64 p6, .int .i64 p7]⟩], [.cells 87 [.int .i64 p0, .int .i64 p1], .cells 87 [.int .i64 p2, .int .i64 p3], .cells 87 [.int .i64 p4, .int .i64 p5], .cells 87 [.int .i64 p6, .int .i64 p7]], .agg ⟨[.int .i64 r1.1, .int .i64 r1.2]⟩, []⟩, ⟨65, [.agg ⟨[.int .i64 p2, .int .i64 p3]⟩, .agg ⟨[.int .i64 p6, .int .i64 p7]⟩], [.cells 87 [.int .i64 p0, .int .i64 p1], .cells 87 [.int .i64 p2, .int .i64 p3], .cells 87 [.int .i64 p4, .int .i64 p5], .cells 87 [.int .i64 p6, .int .i64 p7]], .agg ⟨[.int .i64 r3.1, .int .i64 r3.2]⟩, []⟩, ⟨65, [.agg ⟨[.int .i64 p4, .int .i64 p5]⟩, .agg ⟨[.int .i64 p6, .int .i64 p7]⟩], [.cells 87 [.int .i64 p0, .int .i64 p1], .cells 87 [.int .i64 p2, .int .i64 p3], .cells 87 [.int .i64 p4, .int .i64 p5], .cells 87 [.int .i64 p6, .int .i64 p7]], .agg ⟨[.int .i64 r5.1, .int .i64 r5.2]⟩, []⟩] hT mixed (by kernel_rfl) rfl 8 (by kernel_rfl) [] ?_ rfl (.inl ⟨rfl, rfl⟩) ?_ [4, 5, 6] [0, 1, 2] (by kernel_rfl) ?_
  · refine QI.run (s1 := ({ act := (st 41 [(4, .pointer (some ⟨0, 0, none⟩)), (5, .pointer (some ⟨1, 0, none⟩)), (6, .pointer (some ⟨2, 0, none⟩)), (7, .pointer (some ⟨3, 0, none⟩)), (9, .agg ⟨[.int .i64 p0, .int .i64 p1]⟩), (10, .agg ⟨[.int .i64 p6, .int .i64 p7]⟩)]), heap := [.cells 87 [.int .i64 p0, .int .i64 p1], .cells 87 [.int .i64 p2, .int .i64 p3], .cells 87 [.int .i64 p4, .int .i64 p5], .cells 87 [.int .i64 p6, .int .i64 p7]], own := [], upds := [] } : QSt)) 2 (by kernel_rfl) (by kernel_rfl) ?_
    refine QI.op (q := { val := .agg ⟨[.int .i64 r1.1, .int .i64 r1.2]⟩, new := [] }) (s1 := ({ act := (st 41 [(4, .pointer (some ⟨0, 0, none⟩)), (5, .pointer (some ⟨1, 0, none⟩)), (6, .pointer (some ⟨2, 0, none⟩)), (7, .pointer (some ⟨3, 0, none⟩)), (9, .agg ⟨[.int .i64 p0, .int .i64 p1]⟩), (10, .agg ⟨[.int .i64 p6, .int .i64 p7]⟩), (11, .agg ⟨[.int .i64 r1.1, .int .i64 r1.2]⟩)]), heap := [.cells 87 [.int .i64 p0, .int .i64 p1], .cells 87 [.int .i64 p2, .int .i64 p3], .cells 87 [.int .i64 p4, .int .i64 p5], .cells 87 [.int .i64 p6, .int .i64 p7]], own := [], upds := [] } : QSt)) (by decide) (qOf_call (g := 65) (args := [.agg ⟨[.int .i64 p0, .int .i64 p1]⟩, .agg ⟨[.int .i64 p6, .int .i64 p7]⟩]) (by kernel_rfl) lookC_hit) (by kernel_rfl) ?_
    refine QI.run (s1 := ({ act := (st 41 [(4, .pointer (some ⟨0, 0, none⟩)), (5, .pointer (some ⟨1, 0, none⟩)), (6, .pointer (some ⟨2, 0, none⟩)), (7, .pointer (some ⟨3, 0, none⟩)), (9, .agg ⟨[.int .i64 p0, .int .i64 p1]⟩), (10, .agg ⟨[.int .i64 p6, .int .i64 p7]⟩), (11, .agg ⟨[.int .i64 r1.1, .int .i64 r1.2]⟩), (12, .agg ⟨[.int .i64 p2, .int .i64 p3]⟩), (13, .agg ⟨[.int .i64 p6, .int .i64 p7]⟩)]), heap := [.cells 87 [.int .i64 p0, .int .i64 p1], .cells 87 [.int .i64 p2, .int .i64 p3], .cells 87 [.int .i64 p4, .int .i64 p5], .cells 87 [.int .i64 p6, .int .i64 p7]], own := [], upds := [] } : QSt)) 2 (by kernel_rfl) (by kernel_rfl) ?_
    refine QI.op (q := { val := .agg ⟨[.int .i64 r3.1, .int .i64 r3.2]⟩, new := [] }) (s1 := ({ act := (st 41 [(4, .pointer (some ⟨0, 0, none⟩)), (5, .pointer (some ⟨1, 0, none⟩)), (6, .pointer (some ⟨2, 0, none⟩)), (7, .pointer (some ⟨3, 0, none⟩)), (9, .agg ⟨[.int .i64 p0, .int .i64 p1]⟩), (10, .agg ⟨[.int .i64 p6, .int .i64 p7]⟩), (11, .agg ⟨[.int .i64 r1.1, .int .i64 r1.2]⟩), (12, .agg ⟨[.int .i64 p2, .int .i64 p3]⟩), (13, .agg ⟨[.int .i64 p6, .int .i64 p7]⟩), (14, .agg ⟨[.int .i64 r3.1, .int .i64 r3.2]⟩)]), heap := [.cells 87 [.int .i64 p0, .int .i64 p1], .cells 87 [.int .i64 p2, .int .i64 p3], .cells 87 [.int .i64 p4, .int .i64 p5], .cells 87 [.int .i64 p6, .int .i64 p7]], own := [], upds := [] } : QSt)) (by decide) (qOf_call (g := 65) (args := [.agg ⟨[.int .i64 p2, .int .i64 p3]⟩, .agg ⟨[.int .i64 p6, .int .i64 p7]⟩]) (by kernel_rfl) (lookC_skip (by intro _ ha _; have hq := h2; have hi := h4; clear hF; first | (exfalso; simp at ha; done) | ((try simp at ha); have hr := Option.some.inj (hq.symm.trans (Eq.trans (by first | rfl | (congr 1 <;> first | rfl | omega | simp_all)) hi)); subst hr; rfl)) lookC_hit)) (by kernel_rfl) ?_
    refine QI.run (s1 := ({ act := (st 41 [(4, .pointer (some ⟨0, 0, none⟩)), (5, .pointer (some ⟨1, 0, none⟩)), (6, .pointer (some ⟨2, 0, none⟩)), (7, .pointer (some ⟨3, 0, none⟩)), (9, .agg ⟨[.int .i64 p0, .int .i64 p1]⟩), (10, .agg ⟨[.int .i64 p6, .int .i64 p7]⟩), (11, .agg ⟨[.int .i64 r1.1, .int .i64 r1.2]⟩), (12, .agg ⟨[.int .i64 p2, .int .i64 p3]⟩), (13, .agg ⟨[.int .i64 p6, .int .i64 p7]⟩), (14, .agg ⟨[.int .i64 r3.1, .int .i64 r3.2]⟩), (15, .agg ⟨[.int .i64 p4, .int .i64 p5]⟩), (16, .agg ⟨[.int .i64 p6, .int .i64 p7]⟩)]), heap := [.cells 87 [.int .i64 p0, .int .i64 p1], .cells 87 [.int .i64 p2, .int .i64 p3], .cells 87 [.int .i64 p4, .int .i64 p5], .cells 87 [.int .i64 p6, .int .i64 p7]], own := [], upds := [] } : QSt)) 2 (by kernel_rfl) (by kernel_rfl) ?_
    exact QI.done (by kernel_rfl)
  · refine SI.op (q := { val := .agg ⟨[.int .i64 r5.1, .int .i64 r5.2]⟩, new := [] }) (a2 := (st 41 [(4, .pointer (some ⟨0, 0, none⟩)), (5, .pointer (some ⟨1, 0, none⟩)), (6, .pointer (some ⟨2, 0, none⟩)), (7, .pointer (some ⟨3, 0, none⟩)), (9, .agg ⟨[.int .i64 p0, .int .i64 p1]⟩), (10, .agg ⟨[.int .i64 p6, .int .i64 p7]⟩), (11, .agg ⟨[.int .i64 r1.1, .int .i64 r1.2]⟩), (12, .agg ⟨[.int .i64 p2, .int .i64 p3]⟩), (13, .agg ⟨[.int .i64 p6, .int .i64 p7]⟩), (14, .agg ⟨[.int .i64 r3.1, .int .i64 r3.2]⟩), (15, .agg ⟨[.int .i64 p4, .int .i64 p5]⟩), (16, .agg ⟨[.int .i64 p6, .int .i64 p7]⟩), (17, .agg ⟨[.int .i64 r5.1, .int .i64 r5.2]⟩)])) (h2 := [.cells 87 [.int .i64 p0, .int .i64 p1], .cells 87 [.int .i64 p2, .int .i64 p3], .cells 87 [.int .i64 p4, .int .i64 p5], .cells 87 [.int .i64 p6, .int .i64 p7]]) (by kernel_rfl) (qOf_call (g := 65) (args := [.agg ⟨[.int .i64 p4, .int .i64 p5]⟩, .agg ⟨[.int .i64 p6, .int .i64 p7]⟩]) (by kernel_rfl) (lookC_skip (by intro _ ha _; have hq := h2; have hi := h6; clear hF; first | (exfalso; simp at ha; done) | ((try simp at ha); have hr := Option.some.inj (hq.symm.trans (Eq.trans (by first | rfl | (congr 1 <;> first | rfl | omega | simp_all)) hi)); subst hr; rfl)) (lookC_skip (by intro _ ha _; have hq := h4; have hi := h6; clear hF; first | (exfalso; simp at ha; done) | ((try simp at ha); have hr := Option.some.inj (hq.symm.trans (Eq.trans (by first | rfl | (congr 1 <;> first | rfl | omega | simp_all)) hi)); subst hr; rfl)) lookC_hit))) (by kernel_rfl) (by kernel_rfl) ?_
    refine SI.run (a2 := (st 41 [(4, .pointer (some ⟨0, 0, none⟩)), (5, .pointer (some ⟨1, 0, none⟩)), (6, .pointer (some ⟨2, 0, none⟩)), (7, .pointer (some ⟨3, 0, none⟩)), (9, .agg ⟨[.int .i64 p0, .int .i64 p1]⟩), (10, .agg ⟨[.int .i64 p6, .int .i64 p7]⟩), (11, .agg ⟨[.int .i64 r1.1, .int .i64 r1.2]⟩), (12, .agg ⟨[.int .i64 p2, .int .i64 p3]⟩), (13, .agg ⟨[.int .i64 p6, .int .i64 p7]⟩), (14, .agg ⟨[.int .i64 r3.1, .int .i64 r3.2]⟩), (15, .agg ⟨[.int .i64 p4, .int .i64 p5]⟩), (16, .agg ⟨[.int .i64 p6, .int .i64 p7]⟩), (17, .agg ⟨[.int .i64 r5.1, .int .i64 r5.2]⟩)])) (h2 := [.cells 87 [.int .i64 r1.1, .int .i64 r1.2], .cells 87 [.int .i64 r3.1, .int .i64 r3.2], .cells 87 [.int .i64 r5.1, .int .i64 r5.2], .cells 87 [.int .i64 p6, .int .i64 p7]]) 3 (by kernel_rfl) ?_
    exact SI.done (by kernel_rfl)
  refine TS.seq' (x := c48.s2.s2.s1) (y := c48.s2.s2.s2) (by kernel_rfl) ?_
  have hX := of_do hF
  clear hF
  obtain ⟨r7, h8, hF⟩ := hX
  have hX := of_do hF
  clear hF
  obtain ⟨r9, h10, hF⟩ := hX
  have hX := of_do hF
  clear hF
  obtain ⟨r11, h12, hF⟩ := hX
  have hX := of_do hF
  clear hF
  obtain ⟨r13, h14, hF⟩ := hX
  have hX := of_do hF
  clear hF
  obtain ⟨r15, h16, hF⟩ := hX
  have hX := of_do hF
  clear hF
  obtain ⟨r17, h18, hF⟩ := hX
  have hX := of_do hF
  clear hF
  obtain ⟨o19, h20, hF⟩ := hX
  replace h20 := Option.some.inj h20
  have hT : ∀ e ∈ ([⟨68, [.agg ⟨[.int .i64 r1.1, .int .i64 r1.2]⟩, .agg ⟨[.int .i64 r1.1, .int .i64 r1.2]⟩], [.cells 87 [.int .i64 r1.1, .int .i64 r1.2], .cells 87 [.int .i64 r3.1, .int .i64 r3.2], .cells 87 [.int .i64 r5.1, .int .i64 r5.2], .dead], .int .i64 r7, []⟩, ⟨66, [.agg ⟨[.int .i64 r3.1, .int .i64 r3.2]⟩, .agg ⟨[.int .i64 r5.1, .int .i64 r5.2]⟩], [.cells 87 [.int .i64 r1.1, .int .i64 r1.2], .cells 87 [.int .i64 r3.1, .int .i64 r3.2], .cells 87 [.int .i64 r5.1, .int .i64 r5.2], .dead], .int .i64 r9, []⟩, ⟨68, [.agg ⟨[.int .i64 r3.1, .int .i64 r3.2]⟩, .agg ⟨[.int .i64 r3.1, .int .i64 r3.2]⟩], [.cells 87 [.int .i64 r1.1, .int .i64 r1.2], .cells 87 [.int .i64 r3.1, .int .i64 r3.2], .cells 87 [.int .i64 r5.1, .int .i64 r5.2], .dead], .int .i64 r11, []⟩, ⟨66, [.agg ⟨[.int .i64 r1.1, .int .i64 r1.2]⟩, .agg ⟨[.int .i64 r5.1, .int .i64 r5.2]⟩], [.cells 87 [.int .i64 r1.1, .int .i64 r1.2], .cells 87 [.int .i64 r3.1, .int .i64 r3.2], .cells 87 [.int .i64 r5.1, .int .i64 r5.2], .dead], .int .i64 r13, []⟩, ⟨68, [.agg ⟨[.int .i64 r5.1, .int .i64 r5.2]⟩, .agg ⟨[.int .i64 r5.1, .int .i64 r5.2]⟩], [.cells 87 [.int .i64 r1.1, .int .i64 r1.2], .cells 87 [.int .i64 r3.1, .int .i64 r3.2], .cells 87 [.int .i64 r5.1, .int .i64 r5.2], .dead], .int .i64 r15, []⟩, ⟨66, [.agg ⟨[.int .i64 r1.1, .int .i64 r1.2]⟩, .agg ⟨[.int .i64 r3.1, .int .i64 r3.2]⟩], [.cells 87 [.int .i64 r1.1, .int .i64 r1.2], .cells 87 [.int .i64 r3.1, .int .i64 r3.2], .cells 87 [.int .i64 r5.1, .int .i64 r5.2], .dead], .int .i64 r17, []⟩] : List Entry), PureSim Try.prog e.g e.args e.h e.v e.new := by
    intro e he
    simp only [List.mem_cons, List.not_mem_nil, or_false] at he
    rcases he with rfl | rfl | rfl | rfl | rfl | rfl
    · exact (PureSim.any (C68 r1.1 r1.2 r1.1 r1.2 r7 h8) (flatL (by kernel_rfl)) (by kernel_rfl) [.cells 87 [.int .i64 r1.1, .int .i64 r1.2], .cells 87 [.int .i64 r3.1, .int .i64 r3.2], .cells 87 [.int .i64 r5.1, .int .i64 r5.2], .dead])
    · exact (PureSim.any (C66 r3.1 r3.2 r5.1 r5.2 r9 h10) (flatL (by kernel_rfl)) (by kernel_rfl) [.cells 87 [.int .i64 r1.1, .int .i64 r1.2], .cells 87 [.int .i64 r3.1, .int .i64 r3.2], .cells 87 [.int .i64 r5.1, .int .i64 r5.2], .dead])
    · exact (PureSim.any (C68 r3.1 r3.2 r3.1 r3.2 r11 h12) (flatL (by kernel_rfl)) (by kernel_rfl) [.cells 87 [.int .i64 r1.1, .int .i64 r1.2], .cells 87 [.int .i64 r3.1, .int .i64 r3.2], .cells 87 [.int .i64 r5.1, .int .i64 r5.2], .dead])
    · exact (PureSim.any (C66 r1.1 r1.2 r5.1 r5.2 r13 h14) (flatL (by kernel_rfl)) (by kernel_rfl) [.cells 87 [.int .i64 r1.1, .int .i64 r1.2], .cells 87 [.int .i64 r3.1, .int .i64 r3.2], .cells 87 [.int .i64 r5.1, .int .i64 r5.2], .dead])
    · exact (PureSim.any (C68 r5.1 r5.2 r5.1 r5.2 r15 h16) (flatL (by kernel_rfl)) (by kernel_rfl) [.cells 87 [.int .i64 r1.1, .int .i64 r1.2], .cells 87 [.int .i64 r3.1, .int .i64 r3.2], .cells 87 [.int .i64 r5.1, .int .i64 r5.2], .dead])
    · exact (PureSim.any (C66 r1.1 r1.2 r3.1 r3.2 r17 h18) (flatL (by kernel_rfl)) (by kernel_rfl) [.cells 87 [.int .i64 r1.1, .int .i64 r1.2], .cells 87 [.int .i64 r3.1, .int .i64 r3.2], .cells 87 [.int .i64 r5.1, .int .i64 r5.2], .dead])
  refine TS.draw' (id := 2) (b := true) (ops := c48.s2.s2.s1.rops) (fin := ({ act := (st 41 [(4, .pointer (some ⟨0, 0, none⟩)), (5, .pointer (some ⟨1, 0, none⟩)), (6, .pointer (some ⟨2, 0, none⟩)), (18, .agg ⟨[.int .i64 r1.1, .int .i64 r1.2]⟩), (19, .agg ⟨[.int .i64 r1.1, .int .i64 r1.2]⟩), (20, .int .i64 r7), (21, .agg ⟨[.int .i64 r3.1, .int .i64 r3.2]⟩), (22, .agg ⟨[.int .i64 r5.1, .int .i64 r5.2]⟩), (23, .int .i64 r9), (24, .int .i64 (w64 (r7 * r9))), (25, .agg ⟨[.int .i64 r3.1, .int .i64 r3.2]⟩), (26, .agg ⟨[.int .i64 r3.1, .int .i64 r3.2]⟩), (27, .int .i64 r11), (28, .agg ⟨[.int .i64 r1.1, .int .i64 r1.2]⟩), (29, .agg ⟨[.int .i64 r5.1, .int .i64 r5.2]⟩), (30, .int .i64 r13), (31, .int .i64 (w64 (r11 * r13))), (32, .int .i64 (w64 ((w64 (r7 * r9)) - (w64 (r11 * r13))))), (33, .agg ⟨[.int .i64 r5.1, .int .i64 r5.2]⟩), (34, .agg ⟨[.int .i64 r5.1, .int .i64 r5.2]⟩), (35, .int .i64 r15), (36, .agg ⟨[.int .i64 r1.1, .int .i64 r1.2]⟩), (37, .agg ⟨[.int .i64 r3.1, .int .i64 r3.2]⟩), (38, .int .i64 r17), (39, .int .i64 (w64 (r15 * r17)))]), heap := [.cells 87 [.int .i64 r1.1, .int .i64 r1.2], .cells 87 [.int .i64 r3.1, .int .i64 r3.2], .cells 87 [.int .i64 r5.1, .int .i64 r5.2], .dead], own := [], upds := [] } : QSt)) (fin2 := ({ act := (st 41 [(4, .pointer (some ⟨0, 0, none⟩)), (5, .pointer (some ⟨1, 0, none⟩)), (6, .pointer (some ⟨2, 0, none⟩)), (18, .agg ⟨[.int .i64 r1.1, .int .i64 r1.2]⟩), (19, .agg ⟨[.int .i64 r1.1, .int .i64 r1.2]⟩), (20, .int .i64 r7), (21, .agg ⟨[.int .i64 r3.1, .int .i64 r3.2]⟩), (22, .agg ⟨[.int .i64 r5.1, .int .i64 r5.2]⟩), (23, .int .i64 r9), (24, .int .i64 (w64 (r7 * r9))), (25, .agg ⟨[.int .i64 r3.1, .int .i64 r3.2]⟩), (26, .agg ⟨[.int .i64 r3.1, .int .i64 r3.2]⟩), (27, .int .i64 r11), (28, .agg ⟨[.int .i64 r1.1, .int .i64 r1.2]⟩), (29, .agg ⟨[.int .i64 r5.1, .int .i64 r5.2]⟩), (30, .int .i64 r13), (31, .int .i64 (w64 (r11 * r13))), (32, .int .i64 (w64 ((w64 (r7 * r9)) - (w64 (r11 * r13))))), (33, .agg ⟨[.int .i64 r5.1, .int .i64 r5.2]⟩), (34, .agg ⟨[.int .i64 r5.1, .int .i64 r5.2]⟩), (35, .int .i64 r15), (36, .agg ⟨[.int .i64 r1.1, .int .i64 r1.2]⟩), (37, .agg ⟨[.int .i64 r3.1, .int .i64 r3.2]⟩), (38, .int .i64 r17), (39, .int .i64 (w64 (r15 * r17)))]), heap := [.cells 87 [.int .i64 r1.1, .int .i64 r1.2], .cells 87 [.int .i64 r3.1, .int .i64 r3.2], .cells 87 [.int .i64 r5.1, .int .i64 r5.2], .dead], own := [], upds := [] } : QSt)) (a1 := (st 41 [(4, .pointer (some ⟨0, 0, none⟩)), (5, .pointer (some ⟨1, 0, none⟩)), (6, .pointer (some ⟨2, 0, none⟩)), (8, .int .i64 o19), (18, .agg ⟨[.int .i64 r1.1, .int .i64 r1.2]⟩), (19, .agg ⟨[.int .i64 r1.1, .int .i64 r1.2]⟩), (20, .int .i64 r7), (21, .agg ⟨[.int .i64 r3.1, .int .i64 r3.2]⟩), (22, .agg ⟨[.int .i64 r5.1, .int .i64 r5.2]⟩), (23, .int .i64 r9), (24, .int .i64 (w64 (r7 * r9))), (25, .agg ⟨[.int .i64 r3.1, .int .i64 r3.2]⟩), (26, .agg ⟨[.int .i64 r3.1, .int .i64 r3.2]⟩), (27, .int .i64 r11), (28, .agg ⟨[.int .i64 r1.1, .int .i64 r1.2]⟩), (29, .agg ⟨[.int .i64 r5.1, .int .i64 r5.2]⟩), (30, .int .i64 r13), (31, .int .i64 (w64 (r11 * r13))), (32, .int .i64 (w64 ((w64 (r7 * r9)) - (w64 (r11 * r13))))), (33, .agg ⟨[.int .i64 r5.1, .int .i64 r5.2]⟩), (34, .agg ⟨[.int .i64 r5.1, .int .i64 r5.2]⟩), (35, .int .i64 r15), (36, .agg ⟨[.int .i64 r1.1, .int .i64 r1.2]⟩), (37, .agg ⟨[.int .i64 r3.1, .int .i64 r3.2]⟩), (38, .int .i64 r17), (39, .int .i64 (w64 (r15 * r17))), (40, .int .i64 o19)])) (h1 := [.cells 87 [.int .i64 r1.1, .int .i64 r1.2], .cells 87 [.int .i64 r3.1, .int .i64 r3.2], .cells 87 [.int .i64 r5.1, .int .i64 r5.2], .dead]) (a2 := (st 41 [(8, .int .i64 o19)])) (h2 := [.dead, .dead, .dead, .dead]) [⟨68, [.agg ⟨[.int .i64 r1.1, .int .i64 r1.2]⟩, .agg ⟨[.int .i64 r1.1, .int .i64 r1.2]⟩], [.cells 87 [.int .i64 r1.1, .int .i64 r1.2], .cells 87 [.int .i64 r3.1, .int .i64 r3.2], .cells 87 [.int .i64 r5.1, .int .i64 r5.2], .dead], .int .i64 r7, []⟩, ⟨66, [.agg ⟨[.int .i64 r3.1, .int .i64 r3.2]⟩, .agg ⟨[.int .i64 r5.1, .int .i64 r5.2]⟩], [.cells 87 [.int .i64 r1.1, .int .i64 r1.2], .cells 87 [.int .i64 r3.1, .int .i64 r3.2], .cells 87 [.int .i64 r5.1, .int .i64 r5.2], .dead], .int .i64 r9, []⟩, ⟨68, [.agg ⟨[.int .i64 r3.1, .int .i64 r3.2]⟩, .agg ⟨[.int .i64 r3.1, .int .i64 r3.2]⟩], [.cells 87 [.int .i64 r1.1, .int .i64 r1.2], .cells 87 [.int .i64 r3.1, .int .i64 r3.2], .cells 87 [.int .i64 r5.1, .int .i64 r5.2], .dead], .int .i64 r11, []⟩, ⟨66, [.agg ⟨[.int .i64 r1.1, .int .i64 r1.2]⟩, .agg ⟨[.int .i64 r5.1, .int .i64 r5.2]⟩], [.cells 87 [.int .i64 r1.1, .int .i64 r1.2], .cells 87 [.int .i64 r3.1, .int .i64 r3.2], .cells 87 [.int .i64 r5.1, .int .i64 r5.2], .dead], .int .i64 r13, []⟩, ⟨68, [.agg ⟨[.int .i64 r5.1, .int .i64 r5.2]⟩, .agg ⟨[.int .i64 r5.1, .int .i64 r5.2]⟩], [.cells 87 [.int .i64 r1.1, .int .i64 r1.2], .cells 87 [.int .i64 r3.1, .int .i64 r3.2], .cells 87 [.int .i64 r5.1, .int .i64 r5.2], .dead], .int .i64 r15, []⟩, ⟨66, [.agg ⟨[.int .i64 r1.1, .int .i64 r1.2]⟩, .agg ⟨[.int .i64 r3.1, .int .i64 r3.2]⟩], [.cells 87 [.int .i64 r1.1, .int .i64 r1.2], .cells 87 [.int .i64 r3.1, .int .i64 r3.2], .cells 87 [.int .i64 r5.1, .int .i64 r5.2], .dead], .int .i64 r17, []⟩] hT mixed (by kernel_rfl) rfl 22 (by kernel_rfl) [] ?_ rfl (.inl ⟨rfl, rfl⟩) ?_ [8] [] (by kernel_rfl) ?_
  · refine QI.run (s1 := ({ act := (st 41 [(4, .pointer (some ⟨0, 0, none⟩)), (5, .pointer (some ⟨1, 0, none⟩)), (6, .pointer (some ⟨2, 0, none⟩)), (18, .agg ⟨[.int .i64 r1.1, .int .i64 r1.2]⟩), (19, .agg ⟨[.int .i64 r1.1, .int .i64 r1.2]⟩)]), heap := [.cells 87 [.int .i64 r1.1, .int .i64 r1.2], .cells 87 [.int .i64 r3.1, .int .i64 r3.2], .cells 87 [.int .i64 r5.1, .int .i64 r5.2], .dead], own := [], upds := [] } : QSt)) 2 (by kernel_rfl) (by kernel_rfl) ?_
    refine QI.op (q := { val := .int .i64 r7, new := [] }) (s1 := ({ act := (st 41 [(4, .pointer (some ⟨0, 0, none⟩)), (5, .pointer (some ⟨1, 0, none⟩)), (6, .pointer (some ⟨2, 0, none⟩)), (18, .agg ⟨[.int .i64 r1.1, .int .i64 r1.2]⟩), (19, .agg ⟨[.int .i64 r1.1, .int .i64 r1.2]⟩), (20, .int .i64 r7)]), heap := [.cells 87 [.int .i64 r1.1, .int .i64 r1.2], .cells 87 [.int .i64 r3.1, .int .i64 r3.2], .cells 87 [.int .i64 r5.1, .int .i64 r5.2], .dead], own := [], upds := [] } : QSt)) (by decide) (qOf_call (g := 68) (args := [.agg ⟨[.int .i64 r1.1, .int .i64 r1.2]⟩, .agg ⟨[.int .i64 r1.1, .int .i64 r1.2]⟩]) (by kernel_rfl) lookC_hit) (by kernel_rfl) ?_
    refine QI.run (s1 := ({ act := (st 41 [(4, .pointer (some ⟨0, 0, none⟩)), (5, .pointer (some ⟨1, 0, none⟩)), (6, .pointer (some ⟨2, 0, none⟩)), (18, .agg ⟨[.int .i64 r1.1, .int .i64 r1.2]⟩), (19, .agg ⟨[.int .i64 r1.1, .int .i64 r1.2]⟩), (20, .int .i64 r7), (21, .agg ⟨[.int .i64 r3.1, .int .i64 r3.2]⟩), (22, .agg ⟨[.int .i64 r5.1, .int .i64 r5.2]⟩)]), heap := [.cells 87 [.int .i64 r1.1, .int .i64 r1.2], .cells 87 [.int .i64 r3.1, .int .i64 r3.2], .cells 87 [.int .i64 r5.1, .int .i64 r5.2], .dead], own := [], upds := [] } : QSt)) 2 (by kernel_rfl) (by kernel_rfl) ?_
    refine QI.op (q := { val := .int .i64 r9, new := [] }) (s1 := ({ act := (st 41 [(4, .pointer (some ⟨0, 0, none⟩)), (5, .pointer (some ⟨1, 0, none⟩)), (6, .pointer (some ⟨2, 0, none⟩)), (18, .agg ⟨[.int .i64 r1.1, .int .i64 r1.2]⟩), (19, .agg ⟨[.int .i64 r1.1, .int .i64 r1.2]⟩), (20, .int .i64 r7), (21, .agg ⟨[.int .i64 r3.1, .int .i64 r3.2]⟩), (22, .agg ⟨[.int .i64 r5.1, .int .i64 r5.2]⟩), (23, .int .i64 r9)]), heap := [.cells 87 [.int .i64 r1.1, .int .i64 r1.2], .cells 87 [.int .i64 r3.1, .int .i64 r3.2], .cells 87 [.int .i64 r5.1, .int .i64 r5.2], .dead], own := [], upds := [] } : QSt)) (by decide) (qOf_call (g := 66) (args := [.agg ⟨[.int .i64 r3.1, .int .i64 r3.2]⟩, .agg ⟨[.int .i64 r5.1, .int .i64 r5.2]⟩]) (by kernel_rfl) (lookC_skip (fun hg => absurd (show (68 : Nat) = 66 from hg) (by decide)) lookC_hit)) (by kernel_rfl) ?_
    refine QI.run (s1 := ({ act := (st 41 [(4, .pointer (some ⟨0, 0, none⟩)), (5, .pointer (some ⟨1, 0, none⟩)), (6, .pointer (some ⟨2, 0, none⟩)), (18, .agg ⟨[.int .i64 r1.1, .int .i64 r1.2]⟩), (19, .agg ⟨[.int .i64 r1.1, .int .i64 r1.2]⟩), (20, .int .i64 r7), (21, .agg ⟨[.int .i64 r3.1, .int .i64 r3.2]⟩), (22, .agg ⟨[.int .i64 r5.1, .int .i64 r5.2]⟩), (23, .int .i64 r9), (24, .int .i64 (w64 (r7 * r9))), (25, .agg ⟨[.int .i64 r3.1, .int .i64 r3.2]⟩), (26, .agg ⟨[.int .i64 r3.1, .int .i64 r3.2]⟩)]), heap := [.cells 87 [.int .i64 r1.1, .int .i64 r1.2], .cells 87 [.int .i64 r3.1, .int .i64 r3.2], .cells 87 [.int .i64 r5.1, .int .i64 r5.2], .dead], own := [], upds := [] } : QSt)) 3 (by kernel_rfl) (by kernel_rfl) ?_
    refine QI.op (q := { val := .int .i64 r11, new := [] }) (s1 := ({ act := (st 41 [(4, .pointer (some ⟨0, 0, none⟩)), (5, .pointer (some ⟨1, 0, none⟩)), (6, .pointer (some ⟨2, 0, none⟩)), (18, .agg ⟨[.int .i64 r1.1, .int .i64 r1.2]⟩), (19, .agg ⟨[.int .i64 r1.1, .int .i64 r1.2]⟩), (20, .int .i64 r7), (21, .agg ⟨[.int .i64 r3.1, .int .i64 r3.2]⟩), (22, .agg ⟨[.int .i64 r5.1, .int .i64 r5.2]⟩), (23, .int .i64 r9), (24, .int .i64 (w64 (r7 * r9))), (25, .agg ⟨[.int .i64 r3.1, .int .i64 r3.2]⟩), (26, .agg ⟨[.int .i64 r3.1, .int .i64 r3.2]⟩), (27, .int .i64 r11)]), heap := [.cells 87 [.int .i64 r1.1, .int .i64 r1.2], .cells 87 [.int .i64 r3.1, .int .i64 r3.2], .cells 87 [.int .i64 r5.1, .int .i64 r5.2], .dead], own := [], upds := [] } : QSt)) (by decide) (qOf_call (g := 68) (args := [.agg ⟨[.int .i64 r3.1, .int .i64 r3.2]⟩, .agg ⟨[.int .i64 r3.1, .int .i64 r3.2]⟩]) (by kernel_rfl) (lookC_skip (by intro _ ha _; have hq := h8; have hi := h12; clear hF; first | (exfalso; simp at ha; done) | ((try simp at ha); have hr := Option.some.inj (hq.symm.trans (Eq.trans (by first | rfl | (congr 1 <;> first | rfl | omega | simp_all)) hi)); subst hr; rfl)) (lookC_skip (fun hg => absurd (show (66 : Nat) = 68 from hg) (by decide)) lookC_hit))) (by kernel_rfl) ?_
    refine QI.run (s1 := ({ act := (st 41 [(4, .pointer (some ⟨0, 0, none⟩)), (5, .pointer (some ⟨1, 0, none⟩)), (6, .pointer (some ⟨2, 0, none⟩)), (18, .agg ⟨[.int .i64 r1.1, .int .i64 r1.2]⟩), (19, .agg ⟨[.int .i64 r1.1, .int .i64 r1.2]⟩), (20, .int .i64 r7), (21, .agg ⟨[.int .i64 r3.1, .int .i64 r3.2]⟩), (22, .agg ⟨[.int .i64 r5.1, .int .i64 r5.2]⟩), (23, .int .i64 r9), (24, .int .i64 (w64 (r7 * r9))), (25, .agg ⟨[.int .i64 r3.1, .int .i64 r3.2]⟩), (26, .agg ⟨[.int .i64 r3.1, .int .i64 r3.2]⟩), (27, .int .i64 r11), (28, .agg ⟨[.int .i64 r1.1, .int .i64 r1.2]⟩), (29, .agg ⟨[.int .i64 r5.1, .int .i64 r5.2]⟩)]), heap := [.cells 87 [.int .i64 r1.1, .int .i64 r1.2], .cells 87 [.int .i64 r3.1, .int .i64 r3.2], .cells 87 [.int .i64 r5.1, .int .i64 r5.2], .dead], own := [], upds := [] } : QSt)) 2 (by kernel_rfl) (by kernel_rfl) ?_
    refine QI.op (q := { val := .int .i64 r13, new := [] }) (s1 := ({ act := (st 41 [(4, .pointer (some ⟨0, 0, none⟩)), (5, .pointer (some ⟨1, 0, none⟩)), (6, .pointer (some ⟨2, 0, none⟩)), (18, .agg ⟨[.int .i64 r1.1, .int .i64 r1.2]⟩), (19, .agg ⟨[.int .i64 r1.1, .int .i64 r1.2]⟩), (20, .int .i64 r7), (21, .agg ⟨[.int .i64 r3.1, .int .i64 r3.2]⟩), (22, .agg ⟨[.int .i64 r5.1, .int .i64 r5.2]⟩), (23, .int .i64 r9), (24, .int .i64 (w64 (r7 * r9))), (25, .agg ⟨[.int .i64 r3.1, .int .i64 r3.2]⟩), (26, .agg ⟨[.int .i64 r3.1, .int .i64 r3.2]⟩), (27, .int .i64 r11), (28, .agg ⟨[.int .i64 r1.1, .int .i64 r1.2]⟩), (29, .agg ⟨[.int .i64 r5.1, .int .i64 r5.2]⟩), (30, .int .i64 r13)]), heap := [.cells 87 [.int .i64 r1.1, .int .i64 r1.2], .cells 87 [.int .i64 r3.1, .int .i64 r3.2], .cells 87 [.int .i64 r5.1, .int .i64 r5.2], .dead], own := [], upds := [] } : QSt)) (by decide) (qOf_call (g := 66) (args := [.agg ⟨[.int .i64 r1.1, .int .i64 r1.2]⟩, .agg ⟨[.int .i64 r5.1, .int .i64 r5.2]⟩]) (by kernel_rfl) (lookC_skip (fun hg => absurd (show (68 : Nat) = 66 from hg) (by decide)) (lookC_skip (by intro _ ha _; have hq := h10; have hi := h14; clear hF; first | (exfalso; simp at ha; done) | ((try simp at ha); have hr := Option.some.inj (hq.symm.trans (Eq.trans (by first | rfl | (congr 1 <;> first | rfl | omega | simp_all)) hi)); subst hr; rfl)) (lookC_skip (fun hg => absurd (show (68 : Nat) = 66 from hg) (by decide)) lookC_hit)))) (by kernel_rfl) ?_
    refine QI.run (s1 := ({ act := (st 41 [(4, .pointer (some ⟨0, 0, none⟩)), (5, .pointer (some ⟨1, 0, none⟩)), (6, .pointer (some ⟨2, 0, none⟩)), (18, .agg ⟨[.int .i64 r1.1, .int .i64 r1.2]⟩), (19, .agg ⟨[.int .i64 r1.1, .int .i64 r1.2]⟩), (20, .int .i64 r7), (21, .agg ⟨[.int .i64 r3.1, .int .i64 r3.2]⟩), (22, .agg ⟨[.int .i64 r5.1, .int .i64 r5.2]⟩), (23, .int .i64 r9), (24, .int .i64 (w64 (r7 * r9))), (25, .agg ⟨[.int .i64 r3.1, .int .i64 r3.2]⟩), (26, .agg ⟨[.int .i64 r3.1, .int .i64 r3.2]⟩), (27, .int .i64 r11), (28, .agg ⟨[.int .i64 r1.1, .int .i64 r1.2]⟩), (29, .agg ⟨[.int .i64 r5.1, .int .i64 r5.2]⟩), (30, .int .i64 r13), (31, .int .i64 (w64 (r11 * r13))), (32, .int .i64 (w64 ((w64 (r7 * r9)) - (w64 (r11 * r13))))), (33, .agg ⟨[.int .i64 r5.1, .int .i64 r5.2]⟩), (34, .agg ⟨[.int .i64 r5.1, .int .i64 r5.2]⟩)]), heap := [.cells 87 [.int .i64 r1.1, .int .i64 r1.2], .cells 87 [.int .i64 r3.1, .int .i64 r3.2], .cells 87 [.int .i64 r5.1, .int .i64 r5.2], .dead], own := [], upds := [] } : QSt)) 4 (by kernel_rfl) (by kernel_rfl) ?_
    refine QI.op (q := { val := .int .i64 r15, new := [] }) (s1 := ({ act := (st 41 [(4, .pointer (some ⟨0, 0, none⟩)), (5, .pointer (some ⟨1, 0, none⟩)), (6, .pointer (some ⟨2, 0, none⟩)), (18, .agg ⟨[.int .i64 r1.1, .int .i64 r1.2]⟩), (19, .agg ⟨[.int .i64 r1.1, .int .i64 r1.2]⟩), (20, .int .i64 r7), (21, .agg ⟨[.int .i64 r3.1, .int .i64 r3.2]⟩), (22, .agg ⟨[.int .i64 r5.1, .int .i64 r5.2]⟩), (23, .int .i64 r9), (24, .int .i64 (w64 (r7 * r9))), (25, .agg ⟨[.int .i64 r3.1, .int .i64 r3.2]⟩), (26, .agg ⟨[.int .i64 r3.1, .int .i64 r3.2]⟩), (27, .int .i64 r11), (28, .agg ⟨[.int .i64 r1.1, .int .i64 r1.2]⟩), (29, .agg ⟨[.int .i64 r5.1, .int .i64 r5.2]⟩), (30, .int .i64 r13), (31, .int .i64 (w64 (r11 * r13))), (32, .int .i64 (w64 ((w64 (r7 * r9)) - (w64 (r11 * r13))))), (33, .agg ⟨[.int .i64 r5.1, .int .i64 r5.2]⟩), (34, .agg ⟨[.int .i64 r5.1, .int .i64 r5.2]⟩), (35, .int .i64 r15)]), heap := [.cells 87 [.int .i64 r1.1, .int .i64 r1.2], .cells 87 [.int .i64 r3.1, .int .i64 r3.2], .cells 87 [.int .i64 r5.1, .int .i64 r5.2], .dead], own := [], upds := [] } : QSt)) (by decide) (qOf_call (g := 68) (args := [.agg ⟨[.int .i64 r5.1, .int .i64 r5.2]⟩, .agg ⟨[.int .i64 r5.1, .int .i64 r5.2]⟩]) (by kernel_rfl) (lookC_skip (by intro _ ha _; have hq := h8; have hi := h16; clear hF; first | (exfalso; simp at ha; done) | ((try simp at ha); have hr := Option.some.inj (hq.symm.trans (Eq.trans (by first | rfl | (congr 1 <;> first | rfl | omega | simp_all)) hi)); subst hr; rfl)) (lookC_skip (fun hg => absurd (show (66 : Nat) = 68 from hg) (by decide)) (lookC_skip (by intro _ ha _; have hq := h12; have hi := h16; clear hF; first | (exfalso; simp at ha; done) | ((try simp at ha); have hr := Option.some.inj (hq.symm.trans (Eq.trans (by first | rfl | (congr 1 <;> first | rfl | omega | simp_all)) hi)); subst hr; rfl)) (lookC_skip (fun hg => absurd (show (66 : Nat) = 68 from hg) (by decide)) lookC_hit))))) (by kernel_rfl) ?_
    refine QI.run (s1 := ({ act := (st 41 [(4, .pointer (some ⟨0, 0, none⟩)), (5, .pointer (some ⟨1, 0, none⟩)), (6, .pointer (some ⟨2, 0, none⟩)), (18, .agg ⟨[.int .i64 r1.1, .int .i64 r1.2]⟩), (19, .agg ⟨[.int .i64 r1.1, .int .i64 r1.2]⟩), (20, .int .i64 r7), (21, .agg ⟨[.int .i64 r3.1, .int .i64 r3.2]⟩), (22, .agg ⟨[.int .i64 r5.1, .int .i64 r5.2]⟩), (23, .int .i64 r9), (24, .int .i64 (w64 (r7 * r9))), (25, .agg ⟨[.int .i64 r3.1, .int .i64 r3.2]⟩), (26, .agg ⟨[.int .i64 r3.1, .int .i64 r3.2]⟩), (27, .int .i64 r11), (28, .agg ⟨[.int .i64 r1.1, .int .i64 r1.2]⟩), (29, .agg ⟨[.int .i64 r5.1, .int .i64 r5.2]⟩), (30, .int .i64 r13), (31, .int .i64 (w64 (r11 * r13))), (32, .int .i64 (w64 ((w64 (r7 * r9)) - (w64 (r11 * r13))))), (33, .agg ⟨[.int .i64 r5.1, .int .i64 r5.2]⟩), (34, .agg ⟨[.int .i64 r5.1, .int .i64 r5.2]⟩), (35, .int .i64 r15), (36, .agg ⟨[.int .i64 r1.1, .int .i64 r1.2]⟩), (37, .agg ⟨[.int .i64 r3.1, .int .i64 r3.2]⟩)]), heap := [.cells 87 [.int .i64 r1.1, .int .i64 r1.2], .cells 87 [.int .i64 r3.1, .int .i64 r3.2], .cells 87 [.int .i64 r5.1, .int .i64 r5.2], .dead], own := [], upds := [] } : QSt)) 2 (by kernel_rfl) (by kernel_rfl) ?_
    refine QI.op (q := { val := .int .i64 r17, new := [] }) (s1 := ({ act := (st 41 [(4, .pointer (some ⟨0, 0, none⟩)), (5, .pointer (some ⟨1, 0, none⟩)), (6, .pointer (some ⟨2, 0, none⟩)), (18, .agg ⟨[.int .i64 r1.1, .int .i64 r1.2]⟩), (19, .agg ⟨[.int .i64 r1.1, .int .i64 r1.2]⟩), (20, .int .i64 r7), (21, .agg ⟨[.int .i64 r3.1, .int .i64 r3.2]⟩), (22, .agg ⟨[.int .i64 r5.1, .int .i64 r5.2]⟩), (23, .int .i64 r9), (24, .int .i64 (w64 (r7 * r9))), (25, .agg ⟨[.int .i64 r3.1, .int .i64 r3.2]⟩), (26, .agg ⟨[.int .i64 r3.1, .int .i64 r3.2]⟩), (27, .int .i64 r11), (28, .agg ⟨[.int .i64 r1.1, .int .i64 r1.2]⟩), (29, .agg ⟨[.int .i64 r5.1, .int .i64 r5.2]⟩), (30, .int .i64 r13), (31, .int .i64 (w64 (r11 * r13))), (32, .int .i64 (w64 ((w64 (r7 * r9)) - (w64 (r11 * r13))))), (33, .agg ⟨[.int .i64 r5.1, .int .i64 r5.2]⟩), (34, .agg ⟨[.int .i64 r5.1, .int .i64 r5.2]⟩), (35, .int .i64 r15), (36, .agg ⟨[.int .i64 r1.1, .int .i64 r1.2]⟩), (37, .agg ⟨[.int .i64 r3.1, .int .i64 r3.2]⟩), (38, .int .i64 r17)]), heap := [.cells 87 [.int .i64 r1.1, .int .i64 r1.2], .cells 87 [.int .i64 r3.1, .int .i64 r3.2], .cells 87 [.int .i64 r5.1, .int .i64 r5.2], .dead], own := [], upds := [] } : QSt)) (by decide) (qOf_call (g := 66) (args := [.agg ⟨[.int .i64 r1.1, .int .i64 r1.2]⟩, .agg ⟨[.int .i64 r3.1, .int .i64 r3.2]⟩]) (by kernel_rfl) (lookC_skip (fun hg => absurd (show (68 : Nat) = 66 from hg) (by decide)) (lookC_skip (by intro _ ha _; have hq := h10; have hi := h18; clear hF; first | (exfalso; simp at ha; done) | ((try simp at ha); have hr := Option.some.inj (hq.symm.trans (Eq.trans (by first | rfl | (congr 1 <;> first | rfl | omega | simp_all)) hi)); subst hr; rfl)) (lookC_skip (fun hg => absurd (show (68 : Nat) = 66 from hg) (by decide)) (lookC_skip (by intro _ ha _; have hq := h14; have hi := h18; clear hF; first | (exfalso; simp at ha; done) | ((try simp at ha); have hr := Option.some.inj (hq.symm.trans (Eq.trans (by first | rfl | (congr 1 <;> first | rfl | omega | simp_all)) hi)); subst hr; rfl)) (lookC_skip (fun hg => absurd (show (68 : Nat) = 66 from hg) (by decide)) lookC_hit)))))) (by kernel_rfl) ?_
    refine QI.run (s1 := ({ act := (st 41 [(4, .pointer (some ⟨0, 0, none⟩)), (5, .pointer (some ⟨1, 0, none⟩)), (6, .pointer (some ⟨2, 0, none⟩)), (18, .agg ⟨[.int .i64 r1.1, .int .i64 r1.2]⟩), (19, .agg ⟨[.int .i64 r1.1, .int .i64 r1.2]⟩), (20, .int .i64 r7), (21, .agg ⟨[.int .i64 r3.1, .int .i64 r3.2]⟩), (22, .agg ⟨[.int .i64 r5.1, .int .i64 r5.2]⟩), (23, .int .i64 r9), (24, .int .i64 (w64 (r7 * r9))), (25, .agg ⟨[.int .i64 r3.1, .int .i64 r3.2]⟩), (26, .agg ⟨[.int .i64 r3.1, .int .i64 r3.2]⟩), (27, .int .i64 r11), (28, .agg ⟨[.int .i64 r1.1, .int .i64 r1.2]⟩), (29, .agg ⟨[.int .i64 r5.1, .int .i64 r5.2]⟩), (30, .int .i64 r13), (31, .int .i64 (w64 (r11 * r13))), (32, .int .i64 (w64 ((w64 (r7 * r9)) - (w64 (r11 * r13))))), (33, .agg ⟨[.int .i64 r5.1, .int .i64 r5.2]⟩), (34, .agg ⟨[.int .i64 r5.1, .int .i64 r5.2]⟩), (35, .int .i64 r15), (36, .agg ⟨[.int .i64 r1.1, .int .i64 r1.2]⟩), (37, .agg ⟨[.int .i64 r3.1, .int .i64 r3.2]⟩), (38, .int .i64 r17), (39, .int .i64 (w64 (r15 * r17)))]), heap := [.cells 87 [.int .i64 r1.1, .int .i64 r1.2], .cells 87 [.int .i64 r3.1, .int .i64 r3.2], .cells 87 [.int .i64 r5.1, .int .i64 r5.2], .dead], own := [], upds := [] } : QSt)) 1 (by kernel_rfl) (by kernel_rfl) ?_
    exact QI.done (by kernel_rfl)
  · refine SI.op (q := { val := .int .i64 o19 }) (a2 := (st 41 [(4, .pointer (some ⟨0, 0, none⟩)), (5, .pointer (some ⟨1, 0, none⟩)), (6, .pointer (some ⟨2, 0, none⟩)), (18, .agg ⟨[.int .i64 r1.1, .int .i64 r1.2]⟩), (19, .agg ⟨[.int .i64 r1.1, .int .i64 r1.2]⟩), (20, .int .i64 r7), (21, .agg ⟨[.int .i64 r3.1, .int .i64 r3.2]⟩), (22, .agg ⟨[.int .i64 r5.1, .int .i64 r5.2]⟩), (23, .int .i64 r9), (24, .int .i64 (w64 (r7 * r9))), (25, .agg ⟨[.int .i64 r3.1, .int .i64 r3.2]⟩), (26, .agg ⟨[.int .i64 r3.1, .int .i64 r3.2]⟩), (27, .int .i64 r11), (28, .agg ⟨[.int .i64 r1.1, .int .i64 r1.2]⟩), (29, .agg ⟨[.int .i64 r5.1, .int .i64 r5.2]⟩), (30, .int .i64 r13), (31, .int .i64 (w64 (r11 * r13))), (32, .int .i64 (w64 ((w64 (r7 * r9)) - (w64 (r11 * r13))))), (33, .agg ⟨[.int .i64 r5.1, .int .i64 r5.2]⟩), (34, .agg ⟨[.int .i64 r5.1, .int .i64 r5.2]⟩), (35, .int .i64 r15), (36, .agg ⟨[.int .i64 r1.1, .int .i64 r1.2]⟩), (37, .agg ⟨[.int .i64 r3.1, .int .i64 r3.2]⟩), (38, .int .i64 r17), (39, .int .i64 (w64 (r15 * r17))), (40, .int .i64 o19)])) (h2 := [.cells 87 [.int .i64 r1.1, .int .i64 r1.2], .cells 87 [.int .i64 r3.1, .int .i64 r3.2], .cells 87 [.int .i64 r5.1, .int .i64 r5.2], .dead]) (by kernel_rfl) (q_convI (e := w64 ((w64 ((w64 (r7 * r9)) - (w64 (r11 * r13)))) + (w64 (r15 * r17)))) (y := o19) (by kernel_rfl) h20) (by kernel_rfl) (by kernel_rfl) ?_
    refine SI.run (a2 := (st 41 [(4, .pointer (some ⟨0, 0, none⟩)), (5, .pointer (some ⟨1, 0, none⟩)), (6, .pointer (some ⟨2, 0, none⟩)), (8, .int .i64 o19), (18, .agg ⟨[.int .i64 r1.1, .int .i64 r1.2]⟩), (19, .agg ⟨[.int .i64 r1.1, .int .i64 r1.2]⟩), (20, .int .i64 r7), (21, .agg ⟨[.int .i64 r3.1, .int .i64 r3.2]⟩), (22, .agg ⟨[.int .i64 r5.1, .int .i64 r5.2]⟩), (23, .int .i64 r9), (24, .int .i64 (w64 (r7 * r9))), (25, .agg ⟨[.int .i64 r3.1, .int .i64 r3.2]⟩), (26, .agg ⟨[.int .i64 r3.1, .int .i64 r3.2]⟩), (27, .int .i64 r11), (28, .agg ⟨[.int .i64 r1.1, .int .i64 r1.2]⟩), (29, .agg ⟨[.int .i64 r5.1, .int .i64 r5.2]⟩), (30, .int .i64 r13), (31, .int .i64 (w64 (r11 * r13))), (32, .int .i64 (w64 ((w64 (r7 * r9)) - (w64 (r11 * r13))))), (33, .agg ⟨[.int .i64 r5.1, .int .i64 r5.2]⟩), (34, .agg ⟨[.int .i64 r5.1, .int .i64 r5.2]⟩), (35, .int .i64 r15), (36, .agg ⟨[.int .i64 r1.1, .int .i64 r1.2]⟩), (37, .agg ⟨[.int .i64 r3.1, .int .i64 r3.2]⟩), (38, .int .i64 r17), (39, .int .i64 (w64 (r15 * r17))), (40, .int .i64 o19)])) (h2 := [.cells 87 [.int .i64 r1.1, .int .i64 r1.2], .cells 87 [.int .i64 r3.1, .int .i64 r3.2], .cells 87 [.int .i64 r5.1, .int .i64 r5.2], .dead]) 1 (by kernel_rfl) ?_
    exact SI.done (by kernel_rfl)
  refine TS.ret' (by kernel_rfl) ?_
  have hF := Option.some.inj hF
  subst hF
  exact ⟨.inr rfl, rfl, .int .i64 o19, by kernel_rfl, WkV.flat0 (by kernel_rfl) (Nat.le_of_ble_eq_true rfl)⟩
theorem C48 (p0 : Int) (p1 : Int) (p2 : Int) (p3 : Int) (p4 : Int) (p5 : Int) (p6 : Int) (p7 : Int) (r : Int) (hF : F48 p0 p1 p2 p3 p4 p5 p6 p7 = some r) : PureSim Try.prog 48 [.agg ⟨[.int .i64 p0, .int .i64 p1]⟩, .agg ⟨[.int .i64 p2, .int .i64 p3]⟩, .agg ⟨[.int .i64 p4, .int .i64 p5]⟩, .agg ⟨[.int .i64 p6, .int .i64 p7]⟩] [] (V48 0 r) (N48 0 r) :=
  PureSim.of_Fin Try.func48 (c := c48) (by kernel_rfl) (by kernel_rfl) 0 rfl [0, 1, 2, 3] [] (by kernel_rfl) (B48 p0 p1 p2 p3 p4 p5 p6 p7 r hF)

-- agonic/chart.Inside
noncomputable def c15 : Code := Try.f15.code
def F15 (p0 : Int) (p1 : Int) (p2 : Int) (p3 : Int) (p4 : Int) (p5 : Int) (p6 : Int) (p7 : Int) (p8 : Int) (p9 : Int) (p10 : Int) (p11 : Int) (p12 : Int) (p13 : Int) (p14 : Int) (p15 : Int) : Option (Int × Int) :=
  F13 p0 p1 p2 p3 p4 p5 p6 p7 p8 p9 p10 p11 >>= fun r1 =>
  (
    if r1.2 != 0 then
      some (true)
    else
      F41 p12 p13 p14 p15 >>= fun r4 =>
      F42 r4.1 r4.2 >>= fun r6 =>
      if r6 then
        some (false)
      else
        some (true)
  : Option Bool) >>= fun m8 =>
  if m8 then
    some (0, 1)
  else
    if r1.1 == 0 then
      some (0, 15)
    else
      F41 p0 p1 p2 p3 >>= fun r10 =>
      F41 p4 p5 p6 p7 >>= fun r12 =>
      F41 p8 p9 p10 p11 >>= fun r14 =>
      F41 p12 p13 p14 p15 >>= fun r16 =>
      F48 r10.1 r10.2 r12.1 r12.2 r14.1 r14.2 r16.1 r16.2 >>= fun r18 =>
      F43 r18 >>= fun r20 =>
      some (w64 (r1.1 * r20), 0)
def V15 (b : Nat) (r : (Int × Int)) : Value := .tuple ⟨[.int .i64 r.1, .int .i64 r.2]⟩
def N15 (b : Nat) (r : (Int × Int)) : List Blk := []
theorem B15 (p0 : Int) (p1 : Int) (p2 : Int) (p3 : Int) (p4 : Int) (p5 : Int) (p6 : Int) (p7 : Int) (p8 : Int) (p9 : Int) (p10 : Int) (p11 : Int) (p12 : Int) (p13 : Int) (p14 : Int) (p15 : Int) (r : (Int × Int)) (hF : F15 p0 p1 p2 p3 p4 p5 p6 p7 p8 p9 p10 p11 p12 p13 p14 p15 = some r) : TS Try.prog 0 0 c15 (st 43 [(0, .agg ⟨[.int .i64 p0, .int .i64 p1, .int .i64 p2, .int .i64 p3]⟩), (1, .agg ⟨[.int .i64 p4, .int .i64 p5, .int .i64 p6, .int .i64 p7]⟩), (2, .agg ⟨[.int .i64 p8, .int .i64 p9, .int .i64 p10, .int .i64 p11]⟩), (3, .agg ⟨[.int .i64 p12, .int .i64 p13, .int .i64 p14, .int .i64 p15]⟩)]) [] (NX Try.prog 0 0 [] (FinP Try.prog Try.f15 0 (V15 0 r) (N15 0 r))) := by
  unfold F15 at hF
  refine TS.seq' (x := c15.s1) (y := c15.s2) (by kernel_rfl) ?_
  refine TS.region' (id := 0) (b := false) (ops := c15.s1.rops) (by kernel_rfl) rfl ?_
  refine TI.run 6 [4, 5, 6, 7] [0, 1, 2, 3] (a2 := (st 43 [(4, .pointer (some ⟨0, 0, none⟩)), (5, .pointer (some ⟨1, 0, none⟩)), (6, .pointer (some ⟨2, 0, none⟩)), (7, .pointer (some ⟨3, 0, none⟩))])) (h2 := [.cells 25 [.int .i64 p0, .int .i64 p1, .int .i64 p2, .int .i64 p3], .cells 25 [.int .i64 p4, .int .i64 p5, .int .i64 p6, .int .i64 p7], .cells 25 [.int .i64 p8, .int .i64 p9, .int .i64 p10, .int .i64 p11], .cells 25 [.int .i64 p12, .int .i64 p13, .int .i64 p14, .int .i64 p15]]) (by kernel_rfl) ?_
  refine TI.done (by kernel_rfl) ?_
  refine NX.sq ?_
  refine TS.seq' (x := c15.s2.s1) (y := c15.s2.s2) (by kernel_rfl) ?_
  have hX := of_do hF
  clear hF
  obtain ⟨r1, h2, hF⟩ := hX
  refine TS.region' (id := 1) (b := false) (ops := c15.s2.s1.rops) (by kernel_rfl) rfl ?_
  refine TI.run 3 [4, 5, 6, 7, 13, 14, 15] [0, 1, 2, 3] (a2 := (st 43 [(4, .pointer (some ⟨0, 0, none⟩)), (5, .pointer (some ⟨1, 0, none⟩)), (6, .pointer (some ⟨2, 0, none⟩)), (7, .pointer (some ⟨3, 0, none⟩)), (13, .agg ⟨[.int .i64 p0, .int .i64 p1, .int .i64 p2, .int .i64 p3]⟩), (14, .agg ⟨[.int .i64 p4, .int .i64 p5, .int .i64 p6, .int .i64 p7]⟩), (15, .agg ⟨[.int .i64 p8, .int .i64 p9, .int .i64 p10, .int .i64 p11]⟩)])) (h2 := [.cells 25 [.int .i64 p0, .int .i64 p1, .int .i64 p2, .int .i64 p3], .cells 25 [.int .i64 p4, .int .i64 p5, .int .i64 p6, .int .i64 p7], .cells 25 [.int .i64 p8, .int .i64 p9, .int .i64 p10, .int .i64 p11], .cells 25 [.int .i64 p12, .int .i64 p13, .int .i64 p14, .int .i64 p15]]) (by kernel_rfl) ?_
  refine TI.callM (g := 13) (args := [.agg ⟨[.int .i64 p0, .int .i64 p1, .int .i64 p2, .int .i64 p3]⟩, .agg ⟨[.int .i64 p4, .int .i64 p5, .int .i64 p6, .int .i64 p7]⟩, .agg ⟨[.int .i64 p8, .int .i64 p9, .int .i64 p10, .int .i64 p11]⟩]) (v := .tuple ⟨[.int .i64 r1.1, .int .i64 r1.2]⟩) (new := []) (by kernel_rfl) (PureSim.any (C13 p0 p1 p2 p3 p4 p5 p6 p7 p8 p9 p10 p11 r1 h2) (flatL (by kernel_rfl)) (by kernel_rfl) [.cells 25 [.int .i64 p0, .int .i64 p1, .int .i64 p2, .int .i64 p3], .cells 25 [.int .i64 p4, .int .i64 p5, .int .i64 p6, .int .i64 p7], .cells 25 [.int .i64 p8, .int .i64 p9, .int .i64 p10, .int .i64 p11], .cells 25 [.int .i64 p12, .int .i64 p13, .int .i64 p14, .int .i64 p15]]) [4, 5, 6, 7, 16] [0, 1, 2, 3] (a2 := (st 43 [(4, .pointer (some ⟨0, 0, none⟩)), (5, .pointer (some ⟨1, 0, none⟩)), (6, .pointer (some ⟨2, 0, none⟩)), (7, .pointer (some ⟨3, 0, none⟩)), (16, .tuple ⟨[.int .i64 r1.1, .int .i64 r1.2]⟩)])) (h2 := [.cells 25 [.int .i64 p0, .int .i64 p1, .int .i64 p2, .int .i64 p3], .cells 25 [.int .i64 p4, .int .i64 p5, .int .i64 p6, .int .i64 p7], .cells 25 [.int .i64 p8, .int .i64 p9, .int .i64 p10, .int .i64 p11], .cells 25 [.int .i64 p12, .int .i64 p13, .int .i64 p14, .int .i64 p15]]) (by kernel_rfl) ?_
  refine TI.run 5 [4, 5, 6, 7, 10, 11] [0, 1, 2, 3] (a2 := (st 43 [(4, .pointer (some ⟨0, 0, none⟩)), (5, .pointer (some ⟨1, 0, none⟩)), (6, .pointer (some ⟨2, 0, none⟩)), (7, .pointer (some ⟨3, 0, none⟩)), (10, .int .i64 r1.1), (11, .int .i64 r1.2)])) (h2 := [.cells 25 [.int .i64 p0, .int .i64 p1, .int .i64 p2, .int .i64 p3], .cells 25 [.int .i64 p4, .int .i64 p5, .int .i64 p6, .int .i64 p7], .cells 25 [.int .i64 p8, .int .i64 p9, .int .i64 p10, .int .i64 p11], .cells 25 [.int .i64 p12, .int .i64 p13, .int .i64 p14, .int .i64 p15]]) (by kernel_rfl) ?_
  refine TI.done (by kernel_rfl) ?_
  refine NX.sq ?_
  refine TS.seq' (x := c15.s2.s2.s1) (y := c15.s2.s2.s2) (by kernel_rfl) ?_
  refine TS.block' (id := 0) (x := c15.s2.s2.s1.bd) (by kernel_rfl) ?_
  refine TS.seq' (x := c15.s2.s2.s1.bd.s1) (y := c15.s2.s2.s1.bd.s2) (by kernel_rfl) ?_
  have hX := of_do hF
  clear hF
  obtain ⟨m8, hm22, hF⟩ := hX
  have hK : NX Try.prog 0 0 [.sq c15.s2.s2.s1.bd.s2, .bk 0, .sq c15.s2.s2.s2] (FinP Try.prog Try.f15 0 (V15 0 r) (N15 0 r)) .normal (st 43 [(4, .pointer (some ⟨0, 0, none⟩)), (5, .pointer (some ⟨1, 0, none⟩)), (6, .pointer (some ⟨2, 0, none⟩)), (7, .pointer (some ⟨3, 0, none⟩)), (10, .int .i64 r1.1), (19, .bool m8)]) [.cells 25 [.int .i64 p0, .int .i64 p1, .int .i64 p2, .int .i64 p3], .cells 25 [.int .i64 p4, .int .i64 p5, .int .i64 p6, .int .i64 p7], .cells 25 [.int .i64 p8, .int .i64 p9, .int .i64 p10, .int .i64 p11], .cells 25 [.int .i64 p12, .int .i64 p13, .int .i64 p14, .int .i64 p15]] := by
    refine NX.sq ?_
    cases m8 with
    | true =>
      replace hF := of_pos hF rfl
      refine TS.condT' (o := (.tmp 19)) (x := c15.s2.s2.s1.bd.s2.th) (y := c15.s2.s2.s1.bd.s2.el) (by kernel_rfl) (by kernel_rfl) ?_
      refine TS.seq' (x := c15.s2.s2.s1.bd.s2.th.s1) (y := c15.s2.s2.s1.bd.s2.th.s2) (by kernel_rfl) ?_
      refine TS.region' (id := 3) (b := false) (ops := c15.s2.s2.s1.bd.s2.th.s1.rops) (by kernel_rfl) rfl ?_
      refine TI.run 2 [8, 9] [] (a2 := (st 43 [(8, .int .i64 0), (9, .int .i64 1)])) (h2 := [.dead, .dead, .dead, .dead]) (by kernel_rfl) ?_
      refine TI.done (by kernel_rfl) ?_
      refine NX.sq ?_
      refine TS.ret' (by kernel_rfl) ?_
      refine NX.bkR ?_
      refine NX.sqR ?_
      have hF := Option.some.inj hF
      subst hF
      exact ⟨.inr rfl, rfl, .tuple ⟨[.int .i64 0, .int .i64 1]⟩, by kernel_rfl, WkV.flat0 (by kernel_rfl) (Nat.le_of_ble_eq_true rfl)⟩
    | false =>
      replace hF := of_neg hF rfl
      refine TS.condF' (o := (.tmp 19)) (x := c15.s2.s2.s1.bd.s2.th) (y := c15.s2.s2.s1.bd.s2.el) (by kernel_rfl) (by kernel_rfl) ?_
      refine TS.seq' (x := c15.s2.s2.s1.bd.s2.el.s1) (y := c15.s2.s2.s1.bd.s2.el.s2) (by kernel_rfl) ?_
      refine TS.region' (id := 4) (b := false) (ops := c15.s2.s2.s1.bd.s2.el.s1.rops) (by kernel_rfl) rfl ?_
      refine TI.run 3 [4, 5, 6, 7, 10, 28] [0, 1, 2, 3] (a2 := (st 43 [(4, .pointer (some ⟨0, 0, none⟩)), (5, .pointer (some ⟨1, 0, none⟩)), (6, .pointer (some ⟨2, 0, none⟩)), (7, .pointer (some ⟨3, 0, none⟩)), (10, .int .i64 r1.1), (28, .bool (r1.1 == 0))])) (h2 := [.cells 25 [.int .i64 p0, .int .i64 p1, .int .i64 p2, .int .i64 p3], .cells 25 [.int .i64 p4, .int .i64 p5, .int .i64 p6, .int .i64 p7], .cells 25 [.int .i64 p8, .int .i64 p9, .int .i64 p10, .int .i64 p11], .cells 25 [.int .i64 p12, .int .i64 p13, .int .i64 p14, .int .i64 p15]]) (by kernel_rfl) ?_
      refine TI.done (by kernel_rfl) ?_
      refine NX.sq ?_
      refine TS.cond' (o := (.tmp 28)) (x := c15.s2.s2.s1.bd.s2.el.s2.th) (y := c15.s2.s2.s1.bd.s2.el.s2.el) (b := r1.1 == 0) (by kernel_rfl) (by kernel_rfl) (fun hc9 => ?_) (fun hc9 => ?_)
      · replace hF := of_pos hF hc9
        refine TS.seq' (x := c15.s2.s2.s1.bd.s2.el.s2.th.s1) (y := c15.s2.s2.s1.bd.s2.el.s2.th.s2) (by kernel_rfl) ?_
        refine TS.region' (id := 5) (b := false) (ops := c15.s2.s2.s1.bd.s2.el.s2.th.s1.rops) (by kernel_rfl) rfl ?_
        refine TI.run 2 [8, 9] [] (a2 := (st 43 [(8, .int .i64 0), (9, .int .i64 15)])) (h2 := [.dead, .dead, .dead, .dead]) (by kernel_rfl) ?_
        refine TI.done (by kernel_rfl) ?_
        refine NX.sq ?_
        refine TS.ret' (by kernel_rfl) ?_
        refine NX.bkR ?_
        refine NX.sqR ?_
        have hF := Option.some.inj hF
        subst hF
        exact ⟨.inr rfl, rfl, .tuple ⟨[.int .i64 0, .int .i64 15]⟩, by kernel_rfl, WkV.flat0 (by kernel_rfl) (Nat.le_of_ble_eq_true rfl)⟩
      · replace hF := of_neg hF hc9
        refine TS.skip' (by kernel_rfl) ?_
        refine NX.bk ?_
        refine NX.sq ?_
        refine TS.seq' (x := c15.s2.s2.s2.s1) (y := c15.s2.s2.s2.s2) (by kernel_rfl) ?_
        have hX := of_do hF
        clear hF
        obtain ⟨r10, h11, hF⟩ := hX
        have hX := of_do hF
        clear hF
        obtain ⟨r12, h13, hF⟩ := hX
        have hX := of_do hF
        clear hF
        obtain ⟨r14, h15, hF⟩ := hX
        have hX := of_do hF
        clear hF
        obtain ⟨r16, h17, hF⟩ := hX
        have hX := of_do hF
        clear hF
        obtain ⟨r18, h19, hF⟩ := hX
        have hX := of_do hF
        clear hF
        obtain ⟨r20, h21, hF⟩ := hX
        have hT : ∀ e ∈ ([⟨41, [.agg ⟨[.int .i64 p0, .int .i64 p1, .int .i64 p2, .int .i64 p3]⟩], [.cells 25 [.int .i64 p0, .int .i64 p1, .int .i64 p2, .int .i64 p3], .cells 25 [.int .i64 p4, .int .i64 p5, .int .i64 p6, .int .i64 p7], .cells 25 [.int .i64 p8, .int .i64 p9, .int .i64 p10, .int .i64 p11], .cells 25 [.int .i64 p12, .int .i64 p13, .int .i64 p14, .int .i64 p15]], .agg ⟨[.int .i64 r10.1, .int .i64 r10.2]⟩, []⟩, ⟨41, [.agg ⟨[.int .i64 p4, .int .i64 p5, .int .i64 p6, .int .i64 p7]⟩], [.cells 25 [.int .i64 p0, .int .i64 p1, .int .i64 p2, .int .i64 p3], .cells 25 [.int .i64 p4, .int .i64 p5, .int .i64 p6, .int .i64 p7], .cells 25 [.int .i64 p8, .int .i64 p9, .int .i64 p10, .int .i64 p11], .cells 25 [.int .i64 p12, .int .i64 p13, .int .i64 p14, .int .i64 p15]], .agg ⟨[.int .i64 r12.1, .int .i64 r12.2]⟩, []⟩, ⟨41, [.agg ⟨[.int .i64 p8, .int .i64 p9, .int .i64 p10, .int .i64 p11]⟩], [.cells 25 [.int .i64 p0, .int .i64 p1, .int .i64 p2, .int .i64 p3], .cells 25 [.int .i64 p4, .int .i64 p5, .int .i64 p6, .int .i64 p7], .cells 25 [.int .i64 p8, .int .i64 p9, .int .i64 p10, .int .i64 p11], .cells 25 [.int .i64 p12, .int .i64 p13, .int .i64 p14, .int .i64 p15]], .agg ⟨[.int .i64 r14.1, .int .i64 r14.2]⟩, []⟩, ⟨41, [.agg ⟨[.int .i64 p12, .int .i64 p13, .int .i64 p14, .int .i64 p15]⟩], [.cells 25 [.int .i64 p0, .int .i64 p1, .int .i64 p2, .int .i64 p3], .cells 25 [.int .i64 p4, .int .i64 p5, .int .i64 p6, .int .i64 p7], .cells 25 [.int .i64 p8, .int .i64 p9, .int .i64 p10, .int .i64 p11], .cells 25 [.int .i64 p12, .int .i64 p13, .int .i64 p14, .int .i64 p15]], .agg ⟨[.int .i64 r16.1, .int .i64 r16.2]⟩, []⟩, ⟨48, [.agg ⟨[.int .i64 r10.1, .int .i64 r10.2]⟩, .agg ⟨[.int .i64 r12.1, .int .i64 r12.2]⟩, .agg ⟨[.int .i64 r14.1, .int .i64 r14.2]⟩, .agg ⟨[.int .i64 r16.1, .int .i64 r16.2]⟩], [.cells 25 [.int .i64 p0, .int .i64 p1, .int .i64 p2, .int .i64 p3], .cells 25 [.int .i64 p4, .int .i64 p5, .int .i64 p6, .int .i64 p7], .cells 25 [.int .i64 p8, .int .i64 p9, .int .i64 p10, .int .i64 p11], .cells 25 [.int .i64 p12, .int .i64 p13, .int .i64 p14, .int .i64 p15]], .int .i64 r18, []⟩, ⟨43, [.int .i64 r18], [.cells 25 [.int .i64 p0, .int .i64 p1, .int .i64 p2, .int .i64 p3], .cells 25 [.int .i64 p4, .int .i64 p5, .int .i64 p6, .int .i64 p7], .cells 25 [.int .i64 p8, .int .i64 p9, .int .i64 p10, .int .i64 p11], .cells 25 [.int .i64 p12, .int .i64 p13, .int .i64 p14, .int .i64 p15]], .int .i64 r20, []⟩] : List Entry), PureSim Try.prog e.g e.args e.h e.v e.new := by
          intro e he
          simp only [List.mem_cons, List.not_mem_nil, or_false] at he
          rcases he with rfl | rfl | rfl | rfl | rfl | rfl
          · exact (PureSim.any (C41 p0 p1 p2 p3 r10 h11) (flatL (by kernel_rfl)) (by kernel_rfl) [.cells 25 [.int .i64 p0, .int .i64 p1, .int .i64 p2, .int .i64 p3], .cells 25 [.int .i64 p4, .int .i64 p5, .int .i64 p6, .int .i64 p7], .cells 25 [.int .i64 p8, .int .i64 p9, .int .i64 p10, .int .i64 p11], .cells 25 [.int .i64 p12, .int .i64 p13, .int .i64 p14, .int .i64 p15]])
          · exact (PureSim.any (C41 p4 p5 p6 p7 r12 h13) (flatL (by kernel_rfl)) (by kernel_rfl) [.cells 25 [.int .i64 p0, .int .i64 p1, .int .i64 p2, .int .i64 p3], .cells 25 [.int .i64 p4, .int .i64 p5, .int .i64 p6, .int .i64 p7], .cells 25 [.int .i64 p8, .int .i64 p9, .int .i64 p10, .int .i64 p11], .cells 25 [.int .i64 p12, .int .i64 p13, .int .i64 p14, .int .i64 p15]])
          · exact (PureSim.any (C41 p8 p9 p10 p11 r14 h15) (flatL (by kernel_rfl)) (by kernel_rfl) [.cells 25 [.int .i64 p0, .int .i64 p1, .int .i64 p2, .int .i64 p3], .cells 25 [.int .i64 p4, .int .i64 p5, .int .i64 p6, .int .i64 p7], .cells 25 [.int .i64 p8, .int .i64 p9, .int .i64 p10, .int .i64 p11], .cells 25 [.int .i64 p12, .int .i64 p13, .int .i64 p14, .int .i64 p15]])
          · exact (PureSim.any (C41 p12 p13 p14 p15 r16 h17) (flatL (by kernel_rfl)) (by kernel_rfl) [.cells 25 [.int .i64 p0, .int .i64 p1, .int .i64 p2, .int .i64 p3], .cells 25 [.int .i64 p4, .int .i64 p5, .int .i64 p6, .int .i64 p7], .cells 25 [.int .i64 p8, .int .i64 p9, .int .i64 p10, .int .i64 p11], .cells 25 [.int .i64 p12, .int .i64 p13, .int .i64 p14, .int .i64 p15]])
          · exact (PureSim.any (C48 r10.1 r10.2 r12.1 r12.2 r14.1 r14.2 r16.1 r16.2 r18 h19) (flatL (by kernel_rfl)) (by kernel_rfl) [.cells 25 [.int .i64 p0, .int .i64 p1, .int .i64 p2, .int .i64 p3], .cells 25 [.int .i64 p4, .int .i64 p5, .int .i64 p6, .int .i64 p7], .cells 25 [.int .i64 p8, .int .i64 p9, .int .i64 p10, .int .i64 p11], .cells 25 [.int .i64 p12, .int .i64 p13, .int .i64 p14, .int .i64 p15]])
          · exact (PureSim.any (C43 r18 r20 h21) (flatL (by kernel_rfl)) (by kernel_rfl) [.cells 25 [.int .i64 p0, .int .i64 p1, .int .i64 p2, .int .i64 p3], .cells 25 [.int .i64 p4, .int .i64 p5, .int .i64 p6, .int .i64 p7], .cells 25 [.int .i64 p8, .int .i64 p9, .int .i64 p10, .int .i64 p11], .cells 25 [.int .i64 p12, .int .i64 p13, .int .i64 p14, .int .i64 p15]])
        refine TS.draw' (id := 6) (b := true) (ops := c15.s2.s2.s2.s1.rops) (fin := ({ act := (st 43 [(4, .pointer (some ⟨0, 0, none⟩)), (5, .pointer (some ⟨1, 0, none⟩)), (6, .pointer (some ⟨2, 0, none⟩)), (7, .pointer (some ⟨3, 0, none⟩)), (10, .int .i64 r1.1), (28, .bool (r1.1 == 0)), (31, .int .i64 r1.1), (32, .agg ⟨[.int .i64 p0, .int .i64 p1, .int .i64 p2, .int .i64 p3]⟩), (33, .agg ⟨[.int .i64 r10.1, .int .i64 r10.2]⟩), (34, .agg ⟨[.int .i64 p4, .int .i64 p5, .int .i64 p6, .int .i64 p7]⟩), (35, .agg ⟨[.int .i64 r12.1, .int .i64 r12.2]⟩), (36, .agg ⟨[.int .i64 p8, .int .i64 p9, .int .i64 p10, .int .i64 p11]⟩), (37, .agg ⟨[.int .i64 r14.1, .int .i64 r14.2]⟩), (38, .agg ⟨[.int .i64 p12, .int .i64 p13, .int .i64 p14, .int .i64 p15]⟩), (39, .agg ⟨[.int .i64 r16.1, .int .i64 r16.2]⟩), (40, .int .i64 r18), (41, .int .i64 r20)]), heap := [.cells 25 [.int .i64 p0, .int .i64 p1, .int .i64 p2, .int .i64 p3], .cells 25 [.int .i64 p4, .int .i64 p5, .int .i64 p6, .int .i64 p7], .cells 25 [.int .i64 p8, .int .i64 p9, .int .i64 p10, .int .i64 p11], .cells 25 [.int .i64 p12, .int .i64 p13, .int .i64 p14, .int .i64 p15]], own := [], upds := [] } : QSt)) (fin2 := ({ act := (st 43 [(4, .pointer (some ⟨0, 0, none⟩)), (5, .pointer (some ⟨1, 0, none⟩)), (6, .pointer (some ⟨2, 0, none⟩)), (7, .pointer (some ⟨3, 0, none⟩)), (10, .int .i64 r1.1), (28, .bool (r1.1 == 0)), (31, .int .i64 r1.1), (32, .agg ⟨[.int .i64 p0, .int .i64 p1, .int .i64 p2, .int .i64 p3]⟩), (33, .agg ⟨[.int .i64 r10.1, .int .i64 r10.2]⟩), (34, .agg ⟨[.int .i64 p4, .int .i64 p5, .int .i64 p6, .int .i64 p7]⟩), (35, .agg ⟨[.int .i64 r12.1, .int .i64 r12.2]⟩), (36, .agg ⟨[.int .i64 p8, .int .i64 p9, .int .i64 p10, .int .i64 p11]⟩), (37, .agg ⟨[.int .i64 r14.1, .int .i64 r14.2]⟩), (38, .agg ⟨[.int .i64 p12, .int .i64 p13, .int .i64 p14, .int .i64 p15]⟩), (39, .agg ⟨[.int .i64 r16.1, .int .i64 r16.2]⟩), (40, .int .i64 r18), (41, .int .i64 r20)]), heap := [.cells 25 [.int .i64 p0, .int .i64 p1, .int .i64 p2, .int .i64 p3], .cells 25 [.int .i64 p4, .int .i64 p5, .int .i64 p6, .int .i64 p7], .cells 25 [.int .i64 p8, .int .i64 p9, .int .i64 p10, .int .i64 p11], .cells 25 [.int .i64 p12, .int .i64 p13, .int .i64 p14, .int .i64 p15]], own := [], upds := [] } : QSt)) (a1 := (st 43 [(4, .pointer (some ⟨0, 0, none⟩)), (5, .pointer (some ⟨1, 0, none⟩)), (6, .pointer (some ⟨2, 0, none⟩)), (7, .pointer (some ⟨3, 0, none⟩)), (8, .int .i64 (w64 (r1.1 * r20))), (9, .int .i64 0), (10, .int .i64 r1.1), (28, .bool (r1.1 == 0)), (31, .int .i64 r1.1), (32, .agg ⟨[.int .i64 p0, .int .i64 p1, .int .i64 p2, .int .i64 p3]⟩), (33, .agg ⟨[.int .i64 r10.1, .int .i64 r10.2]⟩), (34, .agg ⟨[.int .i64 p4, .int .i64 p5, .int .i64 p6, .int .i64 p7]⟩), (35, .agg ⟨[.int .i64 r12.1, .int .i64 r12.2]⟩), (36, .agg ⟨[.int .i64 p8, .int .i64 p9, .int .i64 p10, .int .i64 p11]⟩), (37, .agg ⟨[.int .i64 r14.1, .int .i64 r14.2]⟩), (38, .agg ⟨[.int .i64 p12, .int .i64 p13, .int .i64 p14, .int .i64 p15]⟩), (39, .agg ⟨[.int .i64 r16.1, .int .i64 r16.2]⟩), (40, .int .i64 r18), (41, .int .i64 r20), (42, .int .i64 (w64 (r1.1 * r20)))])) (h1 := [.cells 25 [.int .i64 p0, .int .i64 p1, .int .i64 p2, .int .i64 p3], .cells 25 [.int .i64 p4, .int .i64 p5, .int .i64 p6, .int .i64 p7], .cells 25 [.int .i64 p8, .int .i64 p9, .int .i64 p10, .int .i64 p11], .cells 25 [.int .i64 p12, .int .i64 p13, .int .i64 p14, .int .i64 p15]]) (a2 := (st 43 [(8, .int .i64 (w64 (r1.1 * r20))), (9, .int .i64 0)])) (h2 := [.dead, .dead, .dead, .dead]) [⟨41, [.agg ⟨[.int .i64 p0, .int .i64 p1, .int .i64 p2, .int .i64 p3]⟩], [.cells 25 [.int .i64 p0, .int .i64 p1, .int .i64 p2, .int .i64 p3], .cells 25 [.int .i64 p4, .int .i64 p5, .int .i64 p6, .int .i64 p7], .cells 25 [.int .i64 p8, .int .i64 p9, .int .i64 p10, .int .i64 p11], .cells 25 [.int .i64 p12, .int .i64 p13, .int .i64 p14, .int .i64 p15]], .agg ⟨[.int .i64 r10.1, .int .i64 r10.2]⟩, []⟩, ⟨41, [.agg ⟨[.int .i64 p4, .int .i64 p5, .int .i64 p6, .int .i64 p7]⟩], [.cells 25 [.int .i64 p0, .int .i64 p1, .int .i64 p2, .int .i64 p3], .cells 25 [.int .i64 p4, .int .i64 p5, .int .i64 p6, .int .i64 p7], .cells 25 [.int .i64 p8, .int .i64 p9, .int .i64 p10, .int .i64 p11], .cells 25 [.int .i64 p12, .int .i64 p13, .int .i64 p14, .int .i64 p15]], .agg ⟨[.int .i64 r12.1, .int .i64 r12.2]⟩, []⟩, ⟨41, [.agg ⟨[.int .i64 p8, .int .i64 p9, .int .i64 p10, .int .i64 p11]⟩], [.cells 25 [.int .i64 p0, .int .i64 p1, .int .i64 p2, .int .i64 p3], .cells 25 [.int .i64 p4, .int .i64 p5, .int .i64 p6, .int .i64 p7], .cells 25 [.int .i64 p8, .int .i64 p9, .int .i64 p10, .int .i64 p11], .cells 25 [.int .i64 p12, .int .i64 p13, .int .i64 p14, .int .i64 p15]], .agg ⟨[.int .i64 r14.1, .int .i64 r14.2]⟩, []⟩, ⟨41, [.agg ⟨[.int .i64 p12, .int .i64 p13, .int .i64 p14, .int .i64 p15]⟩], [.cells 25 [.int .i64 p0, .int .i64 p1, .int .i64 p2, .int .i64 p3], .cells 25 [.int .i64 p4, .int .i64 p5, .int .i64 p6, .int .i64 p7], .cells 25 [.int .i64 p8, .int .i64 p9, .int .i64 p10, .int .i64 p11], .cells 25 [.int .i64 p12, .int .i64 p13, .int .i64 p14, .int .i64 p15]], .agg ⟨[.int .i64 r16.1, .int .i64 r16.2]⟩, []⟩, ⟨48, [.agg ⟨[.int .i64 r10.1, .int .i64 r10.2]⟩, .agg ⟨[.int .i64 r12.1, .int .i64 r12.2]⟩, .agg ⟨[.int .i64 r14.1, .int .i64 r14.2]⟩, .agg ⟨[.int .i64 r16.1, .int .i64 r16.2]⟩], [.cells 25 [.int .i64 p0, .int .i64 p1, .int .i64 p2, .int .i64 p3], .cells 25 [.int .i64 p4, .int .i64 p5, .int .i64 p6, .int .i64 p7], .cells 25 [.int .i64 p8, .int .i64 p9, .int .i64 p10, .int .i64 p11], .cells 25 [.int .i64 p12, .int .i64 p13, .int .i64 p14, .int .i64 p15]], .int .i64 r18, []⟩, ⟨43, [.int .i64 r18], [.cells 25 [.int .i64 p0, .int .i64 p1, .int .i64 p2, .int .i64 p3], .cells 25 [.int .i64 p4, .int .i64 p5, .int .i64 p6, .int .i64 p7], .cells 25 [.int .i64 p8, .int .i64 p9, .int .i64 p10, .int .i64 p11], .cells 25 [.int .i64 p12, .int .i64 p13, .int .i64 p14, .int .i64 p15]], .int .i64 r20, []⟩] hT mixed (by kernel_rfl) rfl 11 (by kernel_rfl) [] ?_ rfl (.inl ⟨rfl, rfl⟩) ?_ [8, 9] [] (by kernel_rfl) ?_
        · refine QI.run (s1 := ({ act := (st 43 [(4, .pointer (some ⟨0, 0, none⟩)), (5, .pointer (some ⟨1, 0, none⟩)), (6, .pointer (some ⟨2, 0, none⟩)), (7, .pointer (some ⟨3, 0, none⟩)), (10, .int .i64 r1.1), (28, .bool (r1.1 == 0)), (31, .int .i64 r1.1), (32, .agg ⟨[.int .i64 p0, .int .i64 p1, .int .i64 p2, .int .i64 p3]⟩)]), heap := [.cells 25 [.int .i64 p0, .int .i64 p1, .int .i64 p2, .int .i64 p3], .cells 25 [.int .i64 p4, .int .i64 p5, .int .i64 p6, .int .i64 p7], .cells 25 [.int .i64 p8, .int .i64 p9, .int .i64 p10, .int .i64 p11], .cells 25 [.int .i64 p12, .int .i64 p13, .int .i64 p14, .int .i64 p15]], own := [], upds := [] } : QSt)) 2 (by kernel_rfl) (by kernel_rfl) ?_
          refine QI.op (q := { val := .agg ⟨[.int .i64 r10.1, .int .i64 r10.2]⟩, new := [] }) (s1 := ({ act := (st 43 [(4, .pointer (some ⟨0, 0, none⟩)), (5, .pointer (some ⟨1, 0, none⟩)), (6, .pointer (some ⟨2, 0, none⟩)), (7, .pointer (some ⟨3, 0, none⟩)), (10, .int .i64 r1.1), (28, .bool (r1.1 == 0)), (31, .int .i64 r1.1), (32, .agg ⟨[.int .i64 p0, .int .i64 p1, .int .i64 p2, .int .i64 p3]⟩), (33, .agg ⟨[.int .i64 r10.1, .int .i64 r10.2]⟩)]), heap := [.cells 25 [.int .i64 p0, .int .i64 p1, .int .i64 p2, .int .i64 p3], .cells 25 [.int .i64 p4, .int .i64 p5, .int .i64 p6, .int .i64 p7], .cells 25 [.int .i64 p8, .int .i64 p9, .int .i64 p10, .int .i64 p11], .cells 25 [.int .i64 p12, .int .i64 p13, .int .i64 p14, .int .i64 p15]], own := [], upds := [] } : QSt)) (by decide) (qOf_call (g := 41) (args := [.agg ⟨[.int .i64 p0, .int .i64 p1, .int .i64 p2, .int .i64 p3]⟩]) (by kernel_rfl) lookC_hit) (by kernel_rfl) ?_
          refine QI.run (s1 := ({ act := (st 43 [(4, .pointer (some ⟨0, 0, none⟩)), (5, .pointer (some ⟨1, 0, none⟩)), (6, .pointer (some ⟨2, 0, none⟩)), (7, .pointer (some ⟨3, 0, none⟩)), (10, .int .i64 r1.1), (28, .bool (r1.1 == 0)), (31, .int .i64 r1.1), (32, .agg ⟨[.int .i64 p0, .int .i64 p1, .int .i64 p2, .int .i64 p3]⟩), (33, .agg ⟨[.int .i64 r10.1, .int .i64 r10.2]⟩), (34, .agg ⟨[.int .i64 p4, .int .i64 p5, .int .i64 p6, .int .i64 p7]⟩)]), heap := [.cells 25 [.int .i64 p0, .int .i64 p1, .int .i64 p2, .int .i64 p3], .cells 25 [.int .i64 p4, .int .i64 p5, .int .i64 p6, .int .i64 p7], .cells 25 [.int .i64 p8, .int .i64 p9, .int .i64 p10, .int .i64 p11], .cells 25 [.int .i64 p12, .int .i64 p13, .int .i64 p14, .int .i64 p15]], own := [], upds := [] } : QSt)) 1 (by kernel_rfl) (by kernel_rfl) ?_
          refine QI.op (q := { val := .agg ⟨[.int .i64 r12.1, .int .i64 r12.2]⟩, new := [] }) (s1 := ({ act := (st 43 [(4, .pointer (some ⟨0, 0, none⟩)), (5, .pointer (some ⟨1, 0, none⟩)), (6, .pointer (some ⟨2, 0, none⟩)), (7, .pointer (some ⟨3, 0, none⟩)), (10, .int .i64 r1.1), (28, .bool (r1.1 == 0)), (31, .int .i64 r1.1), (32, .agg ⟨[.int .i64 p0, .int .i64 p1, .int .i64 p2, .int .i64 p3]⟩), (33, .agg ⟨[.int .i64 r10.1, .int .i64 r10.2]⟩), (34, .agg ⟨[.int .i64 p4, .int .i64 p5, .int .i64 p6, .int .i64 p7]⟩), (35, .agg ⟨[.int .i64 r12.1, .int .i64 r12.2]⟩)]), heap := [.cells 25 [.int .i64 p0, .int .i64 p1, .int .i64 p2, .int .i64 p3], .cells 25 [.int .i64 p4, .int .i64 p5, .int .i64 p6, .int .i64 p7], .cells 25 [.int .i64 p8, .int .i64 p9, .int .i64 p10, .int .i64 p11], .cells 25 [.int .i64 p12, .int .i64 p13, .int .i64 p14, .int .i64 p15]], own := [], upds := [] } : QSt)) (by decide) (qOf_call (g := 41) (args := [.agg ⟨[.int .i64 p4, .int .i64 p5, .int .i64 p6, .int .i64 p7]⟩]) (by kernel_rfl) (lookC_skip (by intro _ ha _; have hq := h11; have hi := h13; clear hF; first | (exfalso; simp at ha; done) | ((try simp at ha); have hr := Option.some.inj (hq.symm.trans (Eq.trans (by first | rfl | (congr 1 <;> first | rfl | omega | simp_all)) hi)); subst hr; rfl)) lookC_hit)) (by kernel_rfl) ?_
          refine QI.run (s1 := ({ act := (st 43 [(4, .pointer (some ⟨0, 0, none⟩)), (5, .pointer (some ⟨1, 0, none⟩)), (6, .pointer (some ⟨2, 0, none⟩)), (7, .pointer (some ⟨3, 0, none⟩)), (10, .int .i64 r1.1), (28, .bool (r1.1 == 0)), (31, .int .i64 r1.1), (32, .agg ⟨[.int .i64 p0, .int .i64 p1, .int .i64 p2, .int .i64 p3]⟩), (33, .agg ⟨[.int .i64 r10.1, .int .i64 r10.2]⟩), (34, .agg ⟨[.int .i64 p4, .int .i64 p5, .int .i64 p6, .int .i64 p7]⟩), (35, .agg ⟨[.int .i64 r12.1, .int .i64 r12.2]⟩), (36, .agg ⟨[.int .i64 p8, .int .i64 p9, .int .i64 p10, .int .i64 p11]⟩)]), heap := [.cells 25 [.int .i64 p0, .int .i64 p1, .int .i64 p2, .int .i64 p3], .cells 25 [.int .i64 p4, .int .i64 p5, .int .i64 p6, .int .i64 p7], .cells 25 [.int .i64 p8, .int .i64 p9, .int .i64 p10, .int .i64 p11], .cells 25 [.int .i64 p12, .int .i64 p13, .int .i64 p14, .int .i64 p15]], own := [], upds := [] } : QSt)) 1 (by kernel_rfl) (by kernel_rfl) ?_
          refine QI.op (q := { val := .agg ⟨[.int .i64 r14.1, .int .i64 r14.2]⟩, new := [] }) (s1 := ({ act := (st 43 [(4, .pointer (some ⟨0, 0, none⟩)), (5, .pointer (some ⟨1, 0, none⟩)), (6, .pointer (some ⟨2, 0, none⟩)), (7, .pointer (some ⟨3, 0, none⟩)), (10, .int .i64 r1.1), (28, .bool (r1.1 == 0)), (31, .int .i64 r1.1), (32, .agg ⟨[.int .i64 p0, .int .i64 p1, .int .i64 p2, .int .i64 p3]⟩), (33, .agg ⟨[.int .i64 r10.1, .int .i64 r10.2]⟩), (34, .agg ⟨[.int .i64 p4, .int .i64 p5, .int .i64 p6, .int .i64 p7]⟩), (35, .agg ⟨[.int .i64 r12.1, .int .i64 r12.2]⟩), (36, .agg ⟨[.int .i64 p8, .int .i64 p9, .int .i64 p10, .int .i64 p11]⟩), (37, .agg ⟨[.int .i64 r14.1, .int .i64 r14.2]⟩)]), heap := [.cells 25 [.int .i64 p0, .int .i64 p1, .int .i64 p2, .int .i64 p3], .cells 25 [.int .i64 p4, .int .i64 p5, .int .i64 p6, .int .i64 p7], .cells 25 [.int .i64 p8, .int .i64 p9, .int .i64 p10, .int .i64 p11], .cells 25 [.int .i64 p12, .int .i64 p13, .int .i64 p14, .int .i64 p15]], own := [], upds := [] } : QSt)) (by decide) (qOf_call (g := 41) (args := [.agg ⟨[.int .i64 p8, .int .i64 p9, .int .i64 p10, .int .i64 p11]⟩]) (by kernel_rfl) (lookC_skip (by intro _ ha _; have hq := h11; have hi := h15; clear hF; first | (exfalso; simp at ha; done) | ((try simp at ha); have hr := Option.some.inj (hq.symm.trans (Eq.trans (by first | rfl | (congr 1 <;> first | rfl | omega | simp_all)) hi)); subst hr; rfl)) (lookC_skip (by intro _ ha _; have hq := h13; have hi := h15; clear hF; first | (exfalso; simp at ha; done) | ((try simp at ha); have hr := Option.some.inj (hq.symm.trans (Eq.trans (by first | rfl | (congr 1 <;> first | rfl | omega | simp_all)) hi)); subst hr; rfl)) lookC_hit))) (by kernel_rfl) ?_
          refine QI.run (s1 := ({ act := (st 43 [(4, .pointer (some ⟨0, 0, none⟩)), (5, .pointer (some ⟨1, 0, none⟩)), (6, .pointer (some ⟨2, 0, none⟩)), (7, .pointer (some ⟨3, 0, none⟩)), (10, .int .i64 r1.1), (28, .bool (r1.1 == 0)), (31, .int .i64 r1.1), (32, .agg ⟨[.int .i64 p0, .int .i64 p1, .int .i64 p2, .int .i64 p3]⟩), (33, .agg ⟨[.int .i64 r10.1, .int .i64 r10.2]⟩), (34, .agg ⟨[.int .i64 p4, .int .i64 p5, .int .i64 p6, .int .i64 p7]⟩), (35, .agg ⟨[.int .i64 r12.1, .int .i64 r12.2]⟩), (36, .agg ⟨[.int .i64 p8, .int .i64 p9, .int .i64 p10, .int .i64 p11]⟩), (37, .agg ⟨[.int .i64 r14.1, .int .i64 r14.2]⟩), (38, .agg ⟨[.int .i64 p12, .int .i64 p13, .int .i64 p14, .int .i64 p15]⟩)]), heap := [.cells 25 [.int .i64 p0, .int .i64 p1, .int .i64 p2, .int .i64 p3], .cells 25 [.int .i64 p4, .int .i64 p5, .int .i64 p6, .int .i64 p7], .cells 25 [.int .i64 p8, .int .i64 p9, .int .i64 p10, .int .i64 p11], .cells 25 [.int .i64 p12, .int .i64 p13, .int .i64 p14, .int .i64 p15]], own := [], upds := [] } : QSt)) 1 (by kernel_rfl) (by kernel_rfl) ?_
          refine QI.op (q := { val := .agg ⟨[.int .i64 r16.1, .int .i64 r16.2]⟩, new := [] }) (s1 := ({ act := (st 43 [(4, .pointer (some ⟨0, 0, none⟩)), (5, .pointer (some ⟨1, 0, none⟩)), (6, .pointer (some ⟨2, 0, none⟩)), (7, .pointer (some ⟨3, 0, none⟩)), (10, .int .i64 r1.1), (28, .bool (r1.1 == 0)), (31, .int .i64 r1.1), (32, .agg ⟨[.int .i64 p0, .int .i64 p1, .int .i64 p2, .int .i64 p3]⟩), (33, .agg ⟨[.int .i64 r10.1, .int .i64 r10.2]⟩), (34, .agg ⟨[.int .i64 p4, .int .i64 p5, .int .i64 p6, .int .i64 p7]⟩), (35, .agg ⟨[.int .i64 r12.1, .int .i64 r12.2]⟩), (36, .agg ⟨[.int .i64 p8, .int .i64 p9, .int .i64 p10, .int .i64 p11]⟩), (37, .agg ⟨[.int .i64 r14.1, .int .i64 r14.2]⟩), (38, .agg ⟨[.int .i64 p12, .int .i64 p13, .int .i64 p14, .int .i64 p15]⟩), (39, .agg ⟨[.int .i64 r16.1, .int .i64 r16.2]⟩)]), heap := [.cells 25 [.int .i64 p0, .int .i64 p1, .int .i64 p2, .int .i64 p3], .cells 25 [.int .i64 p4, .int .i64 p5, .int .i64 p6, .int .i64 p7], .cells 25 [.int .i64 p8, .int .i64 p9, .int .i64 p10, .int .i64 p11], .cells 25 [.int .i64 p12, .int .i64 p13, .int .i64 p14, .int .i64 p15]], own := [], upds := [] } : QSt)) (by decide) (qOf_call (g := 41) (args := [.agg ⟨[.int .i64 p12, .int .i64 p13, .int .i64 p14, .int .i64 p15]⟩]) (by kernel_rfl) (lookC_skip (by intro _ ha _; have hq := h11; have hi := h17; clear hF; first | (exfalso; simp at ha; done) | ((try simp at ha); have hr := Option.some.inj (hq.symm.trans (Eq.trans (by first | rfl | (congr 1 <;> first | rfl | omega | simp_all)) hi)); subst hr; rfl)) (lookC_skip (by intro _ ha _; have hq := h13; have hi := h17; clear hF; first | (exfalso; simp at ha; done) | ((try simp at ha); have hr := Option.some.inj (hq.symm.trans (Eq.trans (by first | rfl | (congr 1 <;> first | rfl | omega | simp_all)) hi)); subst hr; rfl)) (lookC_skip (by intro _ ha _; have hq := h15; have hi := h17; clear hF; first | (exfalso; simp at ha; done) | ((try simp at ha); have hr := Option.some.inj (hq.symm.trans (Eq.trans (by first | rfl | (congr 1 <;> first | rfl | omega | simp_all)) hi)); subst hr; rfl)) lookC_hit)))) (by kernel_rfl) ?_
          refine QI.op (q := { val := .int .i64 r18, new := [] }) (s1 := ({ act := (st 43 [(4, .pointer (some ⟨0, 0, none⟩)), (5, .pointer (some ⟨1, 0, none⟩)), (6, .pointer (some ⟨2, 0, none⟩)), (7, .pointer (some ⟨3, 0, none⟩)), (10, .int .i64 r1.1), (28, .bool (r1.1 == 0)), (31, .int .i64 r1.1), (32, .agg ⟨[.int .i64 p0, .int .i64 p1, .int .i64 p2, .int .i64 p3]⟩), (33, .agg ⟨[.int .i64 r10.1, .int .i64 r10.2]⟩), (34, .agg ⟨[.int .i64 p4, .int .i64 p5, .int .i64 p6, .int .i64 p7]⟩), (35, .agg ⟨[.int .i64 r12.1, .int .i64 r12.2]⟩), (36, .agg ⟨[.int .i64 p8, .int .i64 p9, .int .i64 p10, .int .i64 p11]⟩), (37, .agg ⟨[.int .i64 r14.1, .int .i64 r14.2]⟩), (38, .agg ⟨[.int .i64 p12, .int .i64 p13, .int .i64 p14, .int .i64 p15]⟩), (39, .agg ⟨[.int .i64 r16.1, .int .i64 r16.2]⟩), (40, .int .i64 r18)]), heap := [.cells 25 [.int .i64 p0, .int .i64 p1, .int .i64 p2, .int .i64 p3], .cells 25 [.int .i64 p4, .int .i64 p5, .int .i64 p6, .int .i64 p7], .cells 25 [.int .i64 p8, .int .i64 p9, .int .i64 p10, .int .i64 p11], .cells 25 [.int .i64 p12, .int .i64 p13, .int .i64 p14, .int .i64 p15]], own := [], upds := [] } : QSt)) (by decide) (qOf_call (g := 48) (args := [.agg ⟨[.int .i64 r10.1, .int .i64 r10.2]⟩, .agg ⟨[.int .i64 r12.1, .int .i64 r12.2]⟩, .agg ⟨[.int .i64 r14.1, .int .i64 r14.2]⟩, .agg ⟨[.int .i64 r16.1, .int .i64 r16.2]⟩]) (by kernel_rfl) (lookC_skip (fun hg => absurd (show (41 : Nat) = 48 from hg) (by decide)) (lookC_skip (fun hg => absurd (show (41 : Nat) = 48 from hg) (by decide)) (lookC_skip (fun hg => absurd (show (41 : Nat) = 48 from hg) (by decide)) (lookC_skip (fun hg => absurd (show (41 : Nat) = 48 from hg) (by decide)) lookC_hit))))) (by kernel_rfl) ?_
          refine QI.op (q := { val := .int .i64 r20, new := [] }) (s1 := ({ act := (st 43 [(4, .pointer (some ⟨0, 0, none⟩)), (5, .pointer (some ⟨1, 0, none⟩)), (6, .pointer (some ⟨2, 0, none⟩)), (7, .pointer (some ⟨3, 0, none⟩)), (10, .int .i64 r1.1), (28, .bool (r1.1 == 0)), (31, .int .i64 r1.1), (32, .agg ⟨[.int .i64 p0, .int .i64 p1, .int .i64 p2, .int .i64 p3]⟩), (33, .agg ⟨[.int .i64 r10.1, .int .i64 r10.2]⟩), (34, .agg ⟨[.int .i64 p4, .int .i64 p5, .int .i64 p6, .int .i64 p7]⟩), (35, .agg ⟨[.int .i64 r12.1, .int .i64 r12.2]⟩), (36, .agg ⟨[.int .i64 p8, .int .i64 p9, .int .i64 p10, .int .i64 p11]⟩), (37, .agg ⟨[.int .i64 r14.1, .int .i64 r14.2]⟩), (38, .agg ⟨[.int .i64 p12, .int .i64 p13, .int .i64 p14, .int .i64 p15]⟩), (39, .agg ⟨[.int .i64 r16.1, .int .i64 r16.2]⟩), (40, .int .i64 r18), (41, .int .i64 r20)]), heap := [.cells 25 [.int .i64 p0, .int .i64 p1, .int .i64 p2, .int .i64 p3], .cells 25 [.int .i64 p4, .int .i64 p5, .int .i64 p6, .int .i64 p7], .cells 25 [.int .i64 p8, .int .i64 p9, .int .i64 p10, .int .i64 p11], .cells 25 [.int .i64 p12, .int .i64 p13, .int .i64 p14, .int .i64 p15]], own := [], upds := [] } : QSt)) (by decide) (qOf_call (g := 43) (args := [.int .i64 r18]) (by kernel_rfl) (lookC_skip (fun hg => absurd (show (41 : Nat) = 43 from hg) (by decide)) (lookC_skip (fun hg => absurd (show (41 : Nat) = 43 from hg) (by decide)) (lookC_skip (fun hg => absurd (show (41 : Nat) = 43 from hg) (by decide)) (lookC_skip (fun hg => absurd (show (41 : Nat) = 43 from hg) (by decide)) (lookC_skip (fun hg => absurd (show (48 : Nat) = 43 from hg) (by decide)) lookC_hit)))))) (by kernel_rfl) ?_
          exact QI.done (by kernel_rfl)
        · refine SI.run (a2 := (st 43 [(4, .pointer (some ⟨0, 0, none⟩)), (5, .pointer (some ⟨1, 0, none⟩)), (6, .pointer (some ⟨2, 0, none⟩)), (7, .pointer (some ⟨3, 0, none⟩)), (8, .int .i64 (w64 (r1.1 * r20))), (9, .int .i64 0), (10, .int .i64 r1.1), (28, .bool (r1.1 == 0)), (31, .int .i64 r1.1), (32, .agg ⟨[.int .i64 p0, .int .i64 p1, .int .i64 p2, .int .i64 p3]⟩), (33, .agg ⟨[.int .i64 r10.1, .int .i64 r10.2]⟩), (34, .agg ⟨[.int .i64 p4, .int .i64 p5, .int .i64 p6, .int .i64 p7]⟩), (35, .agg ⟨[.int .i64 r12.1, .int .i64 r12.2]⟩), (36, .agg ⟨[.int .i64 p8, .int .i64 p9, .int .i64 p10, .int .i64 p11]⟩), (37, .agg ⟨[.int .i64 r14.1, .int .i64 r14.2]⟩), (38, .agg ⟨[.int .i64 p12, .int .i64 p13, .int .i64 p14, .int .i64 p15]⟩), (39, .agg ⟨[.int .i64 r16.1, .int .i64 r16.2]⟩), (40, .int .i64 r18), (41, .int .i64 r20), (42, .int .i64 (w64 (r1.1 * r20)))])) (h2 := [.cells 25 [.int .i64 p0, .int .i64 p1, .int .i64 p2, .int .i64 p3], .cells 25 [.int .i64 p4, .int .i64 p5, .int .i64 p6, .int .i64 p7], .cells 25 [.int .i64 p8, .int .i64 p9, .int .i64 p10, .int .i64 p11], .cells 25 [.int .i64 p12, .int .i64 p13, .int .i64 p14, .int .i64 p15]]) 3 (by kernel_rfl) ?_
          exact SI.done (by kernel_rfl)
        refine TS.ret' (by kernel_rfl) ?_
        have hF := Option.some.inj hF
        subst hF
        exact ⟨.inr rfl, rfl, .tuple ⟨[.int .i64 (w64 (r1.1 * r20)), .int .i64 0]⟩, by kernel_rfl, WkV.flat0 (by kernel_rfl) (Nat.le_of_ble_eq_true rfl)⟩
  rcases Bool.eq_false_or_eq_true (r1.2 != 0) with hc3 | hc3
  · replace hm22 := of_pos hm22 hc3
    have hm22 := Option.some.inj hm22
    subst hm22
    refine TS.region' (id := 2) (b := false) (ops := c15.s2.s2.s1.bd.s1.rops) (by kernel_rfl) rfl ?_
    refine TI.run 1 [4, 5, 6, 7, 10, 20] [0, 1, 2, 3] (a2 := (st 43 [(4, .pointer (some ⟨0, 0, none⟩)), (5, .pointer (some ⟨1, 0, none⟩)), (6, .pointer (some ⟨2, 0, none⟩)), (7, .pointer (some ⟨3, 0, none⟩)), (10, .int .i64 r1.1), (20, .int .i64 r1.2)])) (h2 := [.cells 25 [.int .i64 p0, .int .i64 p1, .int .i64 p2, .int .i64 p3], .cells 25 [.int .i64 p4, .int .i64 p5, .int .i64 p6, .int .i64 p7], .cells 25 [.int .i64 p8, .int .i64 p9, .int .i64 p10, .int .i64 p11], .cells 25 [.int .i64 p12, .int .i64 p13, .int .i64 p14, .int .i64 p15]]) (by kernel_rfl) ?_
    refine TI.op (q := { val := .bool true }) (q_conv (e := r1.2 != 0) (b := true) (by kernel_rfl) hc3) [4, 5, 6, 7, 10, 21] [0, 1, 2, 3] (a2 := (st 43 [(4, .pointer (some ⟨0, 0, none⟩)), (5, .pointer (some ⟨1, 0, none⟩)), (6, .pointer (some ⟨2, 0, none⟩)), (7, .pointer (some ⟨3, 0, none⟩)), (10, .int .i64 r1.1), (21, .bool true)])) (h2 := [.cells 25 [.int .i64 p0, .int .i64 p1, .int .i64 p2, .int .i64 p3], .cells 25 [.int .i64 p4, .int .i64 p5, .int .i64 p6, .int .i64 p7], .cells 25 [.int .i64 p8, .int .i64 p9, .int .i64 p10, .int .i64 p11], .cells 25 [.int .i64 p12, .int .i64 p13, .int .i64 p14, .int .i64 p15]]) (by kernel_rfl) ?_
    refine TI.run 7 [4, 5, 6, 7, 10, 19] [0, 1, 2, 3] (a2 := (st 43 [(4, .pointer (some ⟨0, 0, none⟩)), (5, .pointer (some ⟨1, 0, none⟩)), (6, .pointer (some ⟨2, 0, none⟩)), (7, .pointer (some ⟨3, 0, none⟩)), (10, .int .i64 r1.1), (19, .bool true)])) (h2 := [.cells 25 [.int .i64 p0, .int .i64 p1, .int .i64 p2, .int .i64 p3], .cells 25 [.int .i64 p4, .int .i64 p5, .int .i64 p6, .int .i64 p7], .cells 25 [.int .i64 p8, .int .i64 p9, .int .i64 p10, .int .i64 p11], .cells 25 [.int .i64 p12, .int .i64 p13, .int .i64 p14, .int .i64 p15]]) (by kernel_rfl) ?_
    refine TI.done (by kernel_rfl) ?_
    exact hK
  · replace hm22 := of_neg hm22 hc3
    have hX := of_do hm22
    clear hm22
    obtain ⟨r4, h5, hm22⟩ := hX
    have hX := of_do hm22
    clear hm22
    obtain ⟨r6, h7, hm22⟩ := hX
    cases r6 with
    | true =>
      replace hm22 := of_pos hm22 rfl
      have hm22 := Option.some.inj hm22
      subst hm22
      refine TS.region' (id := 2) (b := false) (ops := c15.s2.s2.s1.bd.s1.rops) (by kernel_rfl) rfl ?_
      refine TI.run 1 [4, 5, 6, 7, 10, 20] [0, 1, 2, 3] (a2 := (st 43 [(4, .pointer (some ⟨0, 0, none⟩)), (5, .pointer (some ⟨1, 0, none⟩)), (6, .pointer (some ⟨2, 0, none⟩)), (7, .pointer (some ⟨3, 0, none⟩)), (10, .int .i64 r1.1), (20, .int .i64 r1.2)])) (h2 := [.cells 25 [.int .i64 p0, .int .i64 p1, .int .i64 p2, .int .i64 p3], .cells 25 [.int .i64 p4, .int .i64 p5, .int .i64 p6, .int .i64 p7], .cells 25 [.int .i64 p8, .int .i64 p9, .int .i64 p10, .int .i64 p11], .cells 25 [.int .i64 p12, .int .i64 p13, .int .i64 p14, .int .i64 p15]]) (by kernel_rfl) ?_
      refine TI.op (q := { val := .bool false }) (q_conv (e := r1.2 != 0) (b := false) (by kernel_rfl) hc3) [4, 5, 6, 7, 10, 21] [0, 1, 2, 3] (a2 := (st 43 [(4, .pointer (some ⟨0, 0, none⟩)), (5, .pointer (some ⟨1, 0, none⟩)), (6, .pointer (some ⟨2, 0, none⟩)), (7, .pointer (some ⟨3, 0, none⟩)), (10, .int .i64 r1.1), (21, .bool false)])) (h2 := [.cells 25 [.int .i64 p0, .int .i64 p1, .int .i64 p2, .int .i64 p3], .cells 25 [.int .i64 p4, .int .i64 p5, .int .i64 p6, .int .i64 p7], .cells 25 [.int .i64 p8, .int .i64 p9, .int .i64 p10, .int .i64 p11], .cells 25 [.int .i64 p12, .int .i64 p13, .int .i64 p14, .int .i64 p15]]) (by kernel_rfl) ?_
      refine TI.run 2 [4, 5, 6, 7, 10, 22, 23] [0, 1, 2, 3] (a2 := (st 43 [(4, .pointer (some ⟨0, 0, none⟩)), (5, .pointer (some ⟨1, 0, none⟩)), (6, .pointer (some ⟨2, 0, none⟩)), (7, .pointer (some ⟨3, 0, none⟩)), (10, .int .i64 r1.1), (22, .bool false), (23, .agg ⟨[.int .i64 p12, .int .i64 p13, .int .i64 p14, .int .i64 p15]⟩)])) (h2 := [.cells 25 [.int .i64 p0, .int .i64 p1, .int .i64 p2, .int .i64 p3], .cells 25 [.int .i64 p4, .int .i64 p5, .int .i64 p6, .int .i64 p7], .cells 25 [.int .i64 p8, .int .i64 p9, .int .i64 p10, .int .i64 p11], .cells 25 [.int .i64 p12, .int .i64 p13, .int .i64 p14, .int .i64 p15]]) (by kernel_rfl) ?_
      refine TI.callM (g := 41) (args := [.agg ⟨[.int .i64 p12, .int .i64 p13, .int .i64 p14, .int .i64 p15]⟩]) (v := .agg ⟨[.int .i64 r4.1, .int .i64 r4.2]⟩) (new := []) (by kernel_rfl) (PureSim.any (C41 p12 p13 p14 p15 r4 h5) (flatL (by kernel_rfl)) (by kernel_rfl) [.cells 25 [.int .i64 p0, .int .i64 p1, .int .i64 p2, .int .i64 p3], .cells 25 [.int .i64 p4, .int .i64 p5, .int .i64 p6, .int .i64 p7], .cells 25 [.int .i64 p8, .int .i64 p9, .int .i64 p10, .int .i64 p11], .cells 25 [.int .i64 p12, .int .i64 p13, .int .i64 p14, .int .i64 p15]]) [4, 5, 6, 7, 10, 22, 24] [0, 1, 2, 3] (a2 := (st 43 [(4, .pointer (some ⟨0, 0, none⟩)), (5, .pointer (some ⟨1, 0, none⟩)), (6, .pointer (some ⟨2, 0, none⟩)), (7, .pointer (some ⟨3, 0, none⟩)), (10, .int .i64 r1.1), (22, .bool false), (24, .agg ⟨[.int .i64 r4.1, .int .i64 r4.2]⟩)])) (h2 := [.cells 25 [.int .i64 p0, .int .i64 p1, .int .i64 p2, .int .i64 p3], .cells 25 [.int .i64 p4, .int .i64 p5, .int .i64 p6, .int .i64 p7], .cells 25 [.int .i64 p8, .int .i64 p9, .int .i64 p10, .int .i64 p11], .cells 25 [.int .i64 p12, .int .i64 p13, .int .i64 p14, .int .i64 p15]]) (by kernel_rfl) ?_
      refine TI.callM (g := 42) (args := [.agg ⟨[.int .i64 r4.1, .int .i64 r4.2]⟩]) (v := .bool true) (new := []) (by kernel_rfl) (PureSim.any (C42 r4.1 r4.2 true h7) (flatL (by kernel_rfl)) (by kernel_rfl) [.cells 25 [.int .i64 p0, .int .i64 p1, .int .i64 p2, .int .i64 p3], .cells 25 [.int .i64 p4, .int .i64 p5, .int .i64 p6, .int .i64 p7], .cells 25 [.int .i64 p8, .int .i64 p9, .int .i64 p10, .int .i64 p11], .cells 25 [.int .i64 p12, .int .i64 p13, .int .i64 p14, .int .i64 p15]]) [4, 5, 6, 7, 10, 22, 25] [0, 1, 2, 3] (a2 := (st 43 [(4, .pointer (some ⟨0, 0, none⟩)), (5, .pointer (some ⟨1, 0, none⟩)), (6, .pointer (some ⟨2, 0, none⟩)), (7, .pointer (some ⟨3, 0, none⟩)), (10, .int .i64 r1.1), (22, .bool false), (25, .bool true)])) (h2 := [.cells 25 [.int .i64 p0, .int .i64 p1, .int .i64 p2, .int .i64 p3], .cells 25 [.int .i64 p4, .int .i64 p5, .int .i64 p6, .int .i64 p7], .cells 25 [.int .i64 p8, .int .i64 p9, .int .i64 p10, .int .i64 p11], .cells 25 [.int .i64 p12, .int .i64 p13, .int .i64 p14, .int .i64 p15]]) (by kernel_rfl) ?_
      refine TI.run 3 [4, 5, 6, 7, 10, 19] [0, 1, 2, 3] (a2 := (st 43 [(4, .pointer (some ⟨0, 0, none⟩)), (5, .pointer (some ⟨1, 0, none⟩)), (6, .pointer (some ⟨2, 0, none⟩)), (7, .pointer (some ⟨3, 0, none⟩)), (10, .int .i64 r1.1), (19, .bool false)])) (h2 := [.cells 25 [.int .i64 p0, .int .i64 p1, .int .i64 p2, .int .i64 p3], .cells 25 [.int .i64 p4, .int .i64 p5, .int .i64 p6, .int .i64 p7], .cells 25 [.int .i64 p8, .int .i64 p9, .int .i64 p10, .int .i64 p11], .cells 25 [.int .i64 p12, .int .i64 p13, .int .i64 p14, .int .i64 p15]]) (by kernel_rfl) ?_
      refine TI.done (by kernel_rfl) ?_
      exact hK
    | false =>
      replace hm22 := of_neg hm22 rfl
      have hm22 := Option.some.inj hm22
      subst hm22
      refine TS.region' (id := 2) (b := false) (ops := c15.s2.s2.s1.bd.s1.rops) (by kernel_rfl) rfl ?_
      refine TI.run 1 [4, 5, 6, 7, 10, 20] [0, 1, 2, 3] (a2 := (st 43 [(4, .pointer (some ⟨0, 0, none⟩)), (5, .pointer (some ⟨1, 0, none⟩)), (6, .pointer (some ⟨2, 0, none⟩)), (7, .pointer (some ⟨3, 0, none⟩)), (10, .int .i64 r1.1), (20, .int .i64 r1.2)])) (h2 := [.cells 25 [.int .i64 p0, .int .i64 p1, .int .i64 p2, .int .i64 p3], .cells 25 [.int .i64 p4, .int .i64 p5, .int .i64 p6, .int .i64 p7], .cells 25 [.int .i64 p8, .int .i64 p9, .int .i64 p10, .int .i64 p11], .cells 25 [.int .i64 p12, .int .i64 p13, .int .i64 p14, .int .i64 p15]]) (by kernel_rfl) ?_
      refine TI.op (q := { val := .bool false }) (q_conv (e := r1.2 != 0) (b := false) (by kernel_rfl) hc3) [4, 5, 6, 7, 10, 21] [0, 1, 2, 3] (a2 := (st 43 [(4, .pointer (some ⟨0, 0, none⟩)), (5, .pointer (some ⟨1, 0, none⟩)), (6, .pointer (some ⟨2, 0, none⟩)), (7, .pointer (some ⟨3, 0, none⟩)), (10, .int .i64 r1.1), (21, .bool false)])) (h2 := [.cells 25 [.int .i64 p0, .int .i64 p1, .int .i64 p2, .int .i64 p3], .cells 25 [.int .i64 p4, .int .i64 p5, .int .i64 p6, .int .i64 p7], .cells 25 [.int .i64 p8, .int .i64 p9, .int .i64 p10, .int .i64 p11], .cells 25 [.int .i64 p12, .int .i64 p13, .int .i64 p14, .int .i64 p15]]) (by kernel_rfl) ?_
      refine TI.run 2 [4, 5, 6, 7, 10, 22, 23] [0, 1, 2, 3] (a2 := (st 43 [(4, .pointer (some ⟨0, 0, none⟩)), (5, .pointer (some ⟨1, 0, none⟩)), (6, .pointer (some ⟨2, 0, none⟩)), (7, .pointer (some ⟨3, 0, none⟩)), (10, .int .i64 r1.1), (22, .bool false), (23, .agg ⟨[.int .i64 p12, .int .i64 p13, .int .i64 p14, .int .i64 p15]⟩)])) (h2 := [.cells 25 [.int .i64 p0, .int .i64 p1, .int .i64 p2, .int .i64 p3], .cells 25 [.int .i64 p4, .int .i64 p5, .int .i64 p6, .int .i64 p7], .cells 25 [.int .i64 p8, .int .i64 p9, .int .i64 p10, .int .i64 p11], .cells 25 [.int .i64 p12, .int .i64 p13, .int .i64 p14, .int .i64 p15]]) (by kernel_rfl) ?_
      refine TI.callM (g := 41) (args := [.agg ⟨[.int .i64 p12, .int .i64 p13, .int .i64 p14, .int .i64 p15]⟩]) (v := .agg ⟨[.int .i64 r4.1, .int .i64 r4.2]⟩) (new := []) (by kernel_rfl) (PureSim.any (C41 p12 p13 p14 p15 r4 h5) (flatL (by kernel_rfl)) (by kernel_rfl) [.cells 25 [.int .i64 p0, .int .i64 p1, .int .i64 p2, .int .i64 p3], .cells 25 [.int .i64 p4, .int .i64 p5, .int .i64 p6, .int .i64 p7], .cells 25 [.int .i64 p8, .int .i64 p9, .int .i64 p10, .int .i64 p11], .cells 25 [.int .i64 p12, .int .i64 p13, .int .i64 p14, .int .i64 p15]]) [4, 5, 6, 7, 10, 22, 24] [0, 1, 2, 3] (a2 := (st 43 [(4, .pointer (some ⟨0, 0, none⟩)), (5, .pointer (some ⟨1, 0, none⟩)), (6, .pointer (some ⟨2, 0, none⟩)), (7, .pointer (some ⟨3, 0, none⟩)), (10, .int .i64 r1.1), (22, .bool false), (24, .agg ⟨[.int .i64 r4.1, .int .i64 r4.2]⟩)])) (h2 := [.cells 25 [.int .i64 p0, .int .i64 p1, .int .i64 p2, .int .i64 p3], .cells 25 [.int .i64 p4, .int .i64 p5, .int .i64 p6, .int .i64 p7], .cells 25 [.int .i64 p8, .int .i64 p9, .int .i64 p10, .int .i64 p11], .cells 25 [.int .i64 p12, .int .i64 p13, .int .i64 p14, .int .i64 p15]]) (by kernel_rfl) ?_
      refine TI.callM (g := 42) (args := [.agg ⟨[.int .i64 r4.1, .int .i64 r4.2]⟩]) (v := .bool false) (new := []) (by kernel_rfl) (PureSim.any (C42 r4.1 r4.2 false h7) (flatL (by kernel_rfl)) (by kernel_rfl) [.cells 25 [.int .i64 p0, .int .i64 p1, .int .i64 p2, .int .i64 p3], .cells 25 [.int .i64 p4, .int .i64 p5, .int .i64 p6, .int .i64 p7], .cells 25 [.int .i64 p8, .int .i64 p9, .int .i64 p10, .int .i64 p11], .cells 25 [.int .i64 p12, .int .i64 p13, .int .i64 p14, .int .i64 p15]]) [4, 5, 6, 7, 10, 22, 25] [0, 1, 2, 3] (a2 := (st 43 [(4, .pointer (some ⟨0, 0, none⟩)), (5, .pointer (some ⟨1, 0, none⟩)), (6, .pointer (some ⟨2, 0, none⟩)), (7, .pointer (some ⟨3, 0, none⟩)), (10, .int .i64 r1.1), (22, .bool false), (25, .bool false)])) (h2 := [.cells 25 [.int .i64 p0, .int .i64 p1, .int .i64 p2, .int .i64 p3], .cells 25 [.int .i64 p4, .int .i64 p5, .int .i64 p6, .int .i64 p7], .cells 25 [.int .i64 p8, .int .i64 p9, .int .i64 p10, .int .i64 p11], .cells 25 [.int .i64 p12, .int .i64 p13, .int .i64 p14, .int .i64 p15]]) (by kernel_rfl) ?_
      refine TI.run 3 [4, 5, 6, 7, 10, 19] [0, 1, 2, 3] (a2 := (st 43 [(4, .pointer (some ⟨0, 0, none⟩)), (5, .pointer (some ⟨1, 0, none⟩)), (6, .pointer (some ⟨2, 0, none⟩)), (7, .pointer (some ⟨3, 0, none⟩)), (10, .int .i64 r1.1), (19, .bool true)])) (h2 := [.cells 25 [.int .i64 p0, .int .i64 p1, .int .i64 p2, .int .i64 p3], .cells 25 [.int .i64 p4, .int .i64 p5, .int .i64 p6, .int .i64 p7], .cells 25 [.int .i64 p8, .int .i64 p9, .int .i64 p10, .int .i64 p11], .cells 25 [.int .i64 p12, .int .i64 p13, .int .i64 p14, .int .i64 p15]]) (by kernel_rfl) ?_
      refine TI.done (by kernel_rfl) ?_
      exact hK
theorem C15 (p0 : Int) (p1 : Int) (p2 : Int) (p3 : Int) (p4 : Int) (p5 : Int) (p6 : Int) (p7 : Int) (p8 : Int) (p9 : Int) (p10 : Int) (p11 : Int) (p12 : Int) (p13 : Int) (p14 : Int) (p15 : Int) (r : (Int × Int)) (hF : F15 p0 p1 p2 p3 p4 p5 p6 p7 p8 p9 p10 p11 p12 p13 p14 p15 = some r) : PureSim Try.prog 15 [.agg ⟨[.int .i64 p0, .int .i64 p1, .int .i64 p2, .int .i64 p3]⟩, .agg ⟨[.int .i64 p4, .int .i64 p5, .int .i64 p6, .int .i64 p7]⟩, .agg ⟨[.int .i64 p8, .int .i64 p9, .int .i64 p10, .int .i64 p11]⟩, .agg ⟨[.int .i64 p12, .int .i64 p13, .int .i64 p14, .int .i64 p15]⟩] [] (V15 0 r) (N15 0 r) :=
  PureSim.of_Fin Try.func15 (c := c15) (by kernel_rfl) (by kernel_rfl) 0 rfl [0, 1, 2, 3] [] (by kernel_rfl) (B15 p0 p1 p2 p3 p4 p5 p6 p7 p8 p9 p10 p11 p12 p13 p14 p15 r hF)

end Go.Proofs.Ytnhcgbcmnhdocaa
