/- What functions of the program compute, and that they do. -/
import Derived.Test.YtenjelagfbceeaaG9b
set_option linter.unusedVariables false
set_option linter.unusedSimpArgs false
set_option maxRecDepth 100000
set_option maxHeartbeats 4000000
namespace Go.Proofs.Ytenjelagfbceeaa
open Go Go.Cl
-- agonic/agoniclaw06.pulls
noncomputable def c42 : Code := Try.f42.code
def F42l1 (p0 : Int) (p1 : Int) (p2 : Int) (p3 : Int) (p4 : Int) (p5 : Int) (p6 : Int) (r1 : Int) (v48 : Int) (v111 : Int) (v110 : (List (Int × Int))) : Option (List (Int × Int)) :=
    if decide (v111 ≤ (w64 (p5 + p6))) then
      F43 v48 v111 >>= fun r126 =>
      F45 r126.1 r126.2 p2 p3 >>= fun r128 =>
      if r1 = 0 then none else
      (
        if (Int.tmod r128 r1) == 0 then
          F45 p0 p1 r126.1 r126.2 >>= fun r132 =>
          some ((Int.tmod r132 r1) == 0)
        else
          some (false)
      : Option Bool) >>= fun m134 =>
      (
        if m134 then
          if List.length v110 ≤ 1000000000 then
            some (v110 ++ [(r126.1, r126.2)])
          else none
        else
          some v110
      : Option (List (Int × Int))) >>= fun m137 =>
      F42l1 p0 p1 p2 p3 p4 p5 p6 r1 v48 (w64 (v111 + 1)) m137
    else
      some v110
  partial_fixpoint
def F42l0 (p0 : Int) (p1 : Int) (p2 : Int) (p3 : Int) (p4 : Int) (p5 : Int) (p6 : Int) (r1 : Int) (v49 : (List (Int × Int))) (v48 : Int) : Option (List (Int × Int)) :=
    if decide (v48 ≤ (w64 (p4 + p6))) then
      F42l1 p0 p1 p2 p3 p4 p5 p6 r1 v48 (w64 (p5 - p6)) v49 >>= fun r141 =>
      F42l0 p0 p1 p2 p3 p4 p5 p6 r1 r141 (w64 (v48 + 1))
    else
      some v49
  partial_fixpoint
def F42 (p0 : Int) (p1 : Int) (p2 : Int) (p3 : Int) (p4 : Int) (p5 : Int) (p6 : Int) : Option (List (Int × Int)) :=
  F45 p0 p1 p2 p3 >>= fun r1 =>
  F42l0 p0 p1 p2 p3 p4 p5 p6 r1 ([]) (w64 (p4 - p6)) >>= fun r143 =>
  some r143
def V42 (b : Nat) (r : (List (Int × Int))) : Value := accV (b + 0) (List.length r)
def N42 (b : Nat) (r : (List (Int × Int))) : List Blk := [accB 23 (List.length r) (List.flatMap e23 r)]
def P42l1 (p0 : Int) (p1 : Int) (p2 : Int) (p3 : Int) (p4 : Int) (p5 : Int) (p6 : Int) (r1 : Int) (v48 : Int) (r : (List (Int × Int))) : Post := fun e a h => e = .exit 2 ∧ Wk Try.prog 0 0 a h (st 65 [(2, .int .i64 p6), (3, .pointer (some ⟨0, 0, none⟩)), (4, .pointer (some ⟨1, 0, none⟩)), (7, .int .i64 r1), (8, accV 2 (List.length r)), (9, .int .i64 v48)]) [.cells 25 [.int .i64 p0, .int .i64 p1, .int .i64 p2, .int .i64 p3], .cells 23 [.int .i64 p4, .int .i64 p5], accB 23 (List.length r) (List.flatMap e23 r)]
theorem L42l1 (p0 : Int) (p1 : Int) (p2 : Int) (p3 : Int) (p4 : Int) (p5 : Int) (p6 : Int) (r1 : Int) (v48 : Int) (v111 : Int) (v110 : (List (Int × Int))) (r : (List (Int × Int))) (hF : F42l1 p0 p1 p2 p3 p4 p5 p6 r1 v48 v111 v110 = some r) : TL Try.prog 0 0 c42.s2.s2.s2.s1.s2.bd.bd.s2.s1.bd.s2.bd.bd (st 65 [(2, .int .i64 p6), (3, .pointer (some ⟨0, 0, none⟩)), (4, .pointer (some ⟨1, 0, none⟩)), (7, .int .i64 r1), (8, accV 2 (List.length v110)), (9, .int .i64 v48), (10, .int .i64 v111)]) [.cells 25 [.int .i64 p0, .int .i64 p1, .int .i64 p2, .int .i64 p3], .cells 23 [.int .i64 p4, .int .i64 p5], accB 23 (List.length v110) (List.flatMap e23 v110)] (P42l1 p0 p1 p2 p3 p4 p5 p6 r1 v48 r) := by
  refine F42l1.partial_correctness p0 p1 p2 p3 p4 p5 p6 r1 v48 (motive := fun v111 v110 r => TL Try.prog 0 0 c42.s2.s2.s2.s1.s2.bd.bd.s2.s1.bd.s2.bd.bd (st 65 [(2, .int .i64 p6), (3, .pointer (some ⟨0, 0, none⟩)), (4, .pointer (some ⟨1, 0, none⟩)), (7, .int .i64 r1), (8, accV 2 (List.length v110)), (9, .int .i64 v48), (10, .int .i64 v111)]) [.cells 25 [.int .i64 p0, .int .i64 p1, .int .i64 p2, .int .i64 p3], .cells 23 [.int .i64 p4, .int .i64 p5], accB 23 (List.length v110) (List.flatMap e23 v110)] (P42l1 p0 p1 p2 p3 p4 p5 p6 r1 v48 r)) ?_ v111 v110 r hF
  clear hF r v111 v110
  intro again ih v111 v110 r hF
  refine TL.round ?_
  refine TS.seq' (x := c42.s2.s2.s2.s1.s2.bd.bd.s2.s1.bd.s2.bd.bd.s1) (y := c42.s2.s2.s2.s1.s2.bd.bd.s2.s1.bd.s2.bd.bd.s2) (by kernel_rfl) ?_
  refine TS.seq' (x := c42.s2.s2.s2.s1.s2.bd.bd.s2.s1.bd.s2.bd.bd.s1.s1) (y := c42.s2.s2.s2.s1.s2.bd.bd.s2.s1.bd.s2.bd.bd.s1.s2) (by kernel_rfl) ?_
  refine TS.region' (id := 7) (b := false) (ops := c42.s2.s2.s2.s1.s2.bd.bd.s2.s1.bd.s2.bd.bd.s1.s1.rops) (by kernel_rfl) rfl ?_
  refine TI.run 6 [2, 3, 4, 7, 8, 9, 10, 38] [0, 1, 2] (a2 := (st 65 [(2, .int .i64 p6), (3, .pointer (some ⟨0, 0, none⟩)), (4, .pointer (some ⟨1, 0, none⟩)), (7, .int .i64 r1), (8, accV 2 (List.length v110)), (9, .int .i64 v48), (10, .int .i64 v111), (38, .bool (decide (v111 ≤ (w64 (p5 + p6)))))])) (h2 := [.cells 25 [.int .i64 p0, .int .i64 p1, .int .i64 p2, .int .i64 p3], .cells 23 [.int .i64 p4, .int .i64 p5], accB 23 (List.length v110) (List.flatMap e23 v110)]) (by kernel_rfl) ?_
  refine TI.done (by kernel_rfl) ?_
  refine NX.sq ?_
  refine TS.cond' (o := (.tmp 38)) (x := c42.s2.s2.s2.s1.s2.bd.bd.s2.s1.bd.s2.bd.bd.s1.s2.th) (y := c42.s2.s2.s2.s1.s2.bd.bd.s2.s1.bd.s2.bd.bd.s1.s2.el) (b := decide (v111 ≤ (w64 (p5 + p6)))) (by kernel_rfl) (by kernel_rfl) (fun hc125 => ?_) (fun hc125 => ?_)
  · replace hF := of_pos hF hc125
    refine TS.skip' (by kernel_rfl) ?_
    refine NX.sq ?_
    refine TS.seq' (x := c42.s2.s2.s2.s1.s2.bd.bd.s2.s1.bd.s2.bd.bd.s2.s1) (y := c42.s2.s2.s2.s1.s2.bd.bd.s2.s1.bd.s2.bd.bd.s2.s2) (by kernel_rfl) ?_
    refine TS.block' (id := 3) (x := c42.s2.s2.s2.s1.s2.bd.bd.s2.s1.bd.s2.bd.bd.s2.s1.bd) (by kernel_rfl) ?_
    refine TS.seq' (x := c42.s2.s2.s2.s1.s2.bd.bd.s2.s1.bd.s2.bd.bd.s2.s1.bd.s1) (y := c42.s2.s2.s2.s1.s2.bd.bd.s2.s1.bd.s2.bd.bd.s2.s1.bd.s2) (by kernel_rfl) ?_
    have hX := of_do hF
    clear hF
    obtain ⟨r126, h127, hF⟩ := hX
    refine TS.region' (id := 9) (b := false) (ops := c42.s2.s2.s2.s1.s2.bd.bd.s2.s1.bd.s2.bd.bd.s2.s1.bd.s1.rops) (by kernel_rfl) rfl ?_
    refine TI.run 2 [2, 3, 4, 7, 8, 9, 10, 41, 42] [0, 1, 2] (a2 := (st 65 [(2, .int .i64 p6), (3, .pointer (some ⟨0, 0, none⟩)), (4, .pointer (some ⟨1, 0, none⟩)), (7, .int .i64 r1), (8, accV 2 (List.length v110)), (9, .int .i64 v48), (10, .int .i64 v111), (41, .int .i64 v48), (42, .int .i64 v111)])) (h2 := [.cells 25 [.int .i64 p0, .int .i64 p1, .int .i64 p2, .int .i64 p3], .cells 23 [.int .i64 p4, .int .i64 p5], accB 23 (List.length v110) (List.flatMap e23 v110)]) (by kernel_rfl) ?_
    refine TI.callM (g := 43) (args := [.int .i64 v48, .int .i64 v111]) (v := .agg ⟨[.int .i64 r126.1, .int .i64 r126.2]⟩) (new := []) (by kernel_rfl) (PureSim.any (C43 v48 v111 r126 h127) (flatL (by kernel_rfl)) (by kernel_rfl) [.cells 25 [.int .i64 p0, .int .i64 p1, .int .i64 p2, .int .i64 p3], .cells 23 [.int .i64 p4, .int .i64 p5], accB 23 (List.length v110) (List.flatMap e23 v110)]) [2, 3, 4, 7, 8, 9, 10, 43] [0, 1, 2] (a2 := (st 65 [(2, .int .i64 p6), (3, .pointer (some ⟨0, 0, none⟩)), (4, .pointer (some ⟨1, 0, none⟩)), (7, .int .i64 r1), (8, accV 2 (List.length v110)), (9, .int .i64 v48), (10, .int .i64 v111), (43, .agg ⟨[.int .i64 r126.1, .int .i64 r126.2]⟩)])) (h2 := [.cells 25 [.int .i64 p0, .int .i64 p1, .int .i64 p2, .int .i64 p3], .cells 23 [.int .i64 p4, .int .i64 p5], accB 23 (List.length v110) (List.flatMap e23 v110)]) (by kernel_rfl) ?_
    refine TI.run 2 [2, 3, 4, 7, 8, 9, 10, 11] [0, 1, 2, 3] (a2 := (st 65 [(2, .int .i64 p6), (3, .pointer (some ⟨0, 0, none⟩)), (4, .pointer (some ⟨1, 0, none⟩)), (7, .int .i64 r1), (8, accV 2 (List.length v110)), (9, .int .i64 v48), (10, .int .i64 v111), (11, .pointer (some ⟨3, 0, none⟩))])) (h2 := [.cells 25 [.int .i64 p0, .int .i64 p1, .int .i64 p2, .int .i64 p3], .cells 23 [.int .i64 p4, .int .i64 p5], accB 23 (List.length v110) (List.flatMap e23 v110), .cells 23 [.int .i64 r126.1, .int .i64 r126.2]]) (by kernel_rfl) ?_
    refine TI.done (by kernel_rfl) ?_
    refine NX.sq ?_
    refine TS.seq' (x := c42.s2.s2.s2.s1.s2.bd.bd.s2.s1.bd.s2.bd.bd.s2.s1.bd.s2.s1) (y := c42.s2.s2.s2.s1.s2.bd.bd.s2.s1.bd.s2.bd.bd.s2.s1.bd.s2.s2) (by kernel_rfl) ?_
    have hX := of_do hF
    clear hF
    obtain ⟨r128, h129, hF⟩ := hX
    have hX := of_guardn hF
    clear hF
    obtain ⟨hg130, hF⟩ := hX
    have hX := of_do hF
    clear hF
    obtain ⟨m134, hm140, hF⟩ := hX
    have hK : NX Try.prog 0 0 [.sq c42.s2.s2.s2.s1.s2.bd.bd.s2.s1.bd.s2.bd.bd.s2.s1.bd.s2.s2, .bk 3, .sq c42.s2.s2.s2.s1.s2.bd.bd.s2.s1.bd.s2.bd.bd.s2.s2] (Rd Try.prog 0 0 c42.s2.s2.s2.s1.s2.bd.bd.s2.s1.bd.s2.bd.bd (P42l1 p0 p1 p2 p3 p4 p5 p6 r1 v48 r)) .normal (st 65 [(2, .int .i64 p6), (3, .pointer (some ⟨0, 0, none⟩)), (4, .pointer (some ⟨1, 0, none⟩)), (7, .int .i64 r1), (8, accV 2 (List.length v110)), (9, .int .i64 v48), (10, .int .i64 v111), (11, .pointer (some ⟨3, 0, none⟩)), (59, .bool m134)]) [.cells 25 [.int .i64 p0, .int .i64 p1, .int .i64 p2, .int .i64 p3], .cells 23 [.int .i64 p4, .int .i64 p5], accB 23 (List.length v110) (List.flatMap e23 v110), .cells 23 [.int .i64 r126.1, .int .i64 r126.2]] := by
      refine NX.sq ?_
      have hX := of_do hF
      clear hF
      obtain ⟨m137, hm138, hF⟩ := hX
      have hK : NX Try.prog 0 0 [.bk 3, .sq c42.s2.s2.s2.s1.s2.bd.bd.s2.s1.bd.s2.bd.bd.s2.s2] (Rd Try.prog 0 0 c42.s2.s2.s2.s1.s2.bd.bd.s2.s1.bd.s2.bd.bd (P42l1 p0 p1 p2 p3 p4 p5 p6 r1 v48 r)) .normal (st 65 [(2, .int .i64 p6), (3, .pointer (some ⟨0, 0, none⟩)), (4, .pointer (some ⟨1, 0, none⟩)), (7, .int .i64 r1), (8, accV 2 (List.length m137)), (9, .int .i64 v48), (10, .int .i64 v111)]) [.cells 25 [.int .i64 p0, .int .i64 p1, .int .i64 p2, .int .i64 p3], .cells 23 [.int .i64 p4, .int .i64 p5], accB 23 (List.length m137) (List.flatMap e23 m137)] := by
        refine NX.bk ?_
        refine NX.sq ?_
        refine TS.region' (id := 8) (b := false) (ops := c42.s2.s2.s2.s1.s2.bd.bd.s2.s1.bd.s2.bd.bd.s2.s2.rops) (by kernel_rfl) rfl ?_
        refine TI.run 3 [2, 3, 4, 7, 8, 9, 10] [0, 1, 2] (a2 := (st 65 [(2, .int .i64 p6), (3, .pointer (some ⟨0, 0, none⟩)), (4, .pointer (some ⟨1, 0, none⟩)), (7, .int .i64 r1), (8, accV 2 (List.length m137)), (9, .int .i64 v48), (10, .int .i64 (w64 (v111 + 1)))])) (h2 := [.cells 25 [.int .i64 p0, .int .i64 p1, .int .i64 p2, .int .i64 p3], .cells 23 [.int .i64 p4, .int .i64 p5], accB 23 (List.length m137) (List.flatMap e23 m137)]) (by kernel_rfl) ?_
        refine TI.done (by kernel_rfl) ?_
        exact Rd.again (a2 := (st 65 [(2, .int .i64 p6), (3, .pointer (some ⟨0, 0, none⟩)), (4, .pointer (some ⟨1, 0, none⟩)), (7, .int .i64 r1), (8, accV 2 (List.length m137)), (9, .int .i64 v48), (10, .int .i64 (w64 (v111 + 1)))])) (h2 := [.cells 25 [.int .i64 p0, .int .i64 p1, .int .i64 p2, .int .i64 p3], .cells 23 [.int .i64 p4, .int .i64 p5], accB 23 (List.length m137) (List.flatMap e23 m137)]) (Wk.anew (base := 0) (L := 0) (f := [0, 1, 2]) (by decide) (by decide) (Nat.le_of_ble_eq_true rfl) rfl (.cons (At.blk (by kernel_rfl) (RnB.lit (.cons (.flat (by kernel_rfl)) (.cons (.flat (by kernel_rfl)) (.cons (.flat (by kernel_rfl)) (.cons (.flat (by kernel_rfl)) .nil)))))) (.cons (At.blk (by kernel_rfl) (RnB.lit (.cons (.flat (by kernel_rfl)) (.cons (.flat (by kernel_rfl)) .nil)))) (.cons (At.acc (by kernel_rfl) rfl (fun _ => rfl)) (.nil _)))) (LRn.stx [2, 3, 4, 7, 8, 9, 10] [.int .i64 p6, .pointer (some ⟨0, 0, none⟩), .pointer (some ⟨1, 0, none⟩), .int .i64 r1, accV 2 (List.length m137), .int .i64 v48, .int .i64 (w64 (v111 + 1))] [.int .i64 p6, .pointer (some ⟨0, 0, none⟩), .pointer (some ⟨1, 0, none⟩), .int .i64 r1, accV 2 (List.length m137), .int .i64 v48, .int .i64 (w64 (v111 + 1))] (.cons (.flat (by kernel_rfl)) (.cons (Rn.ptr _ _ _ (Nat.le_of_ble_eq_true rfl) rfl) (.cons (Rn.ptr _ _ _ (Nat.le_of_ble_eq_true rfl) rfl) (.cons (.flat (by kernel_rfl)) (.cons (Rn.acc (Nat.le_of_ble_eq_true rfl) rfl) (.cons (.flat (by kernel_rfl)) (.cons (.flat (by kernel_rfl)) .nil))))))) (by kernel_rfl) (by kernel_rfl) rfl) rfl rfl) (ih (w64 (v111 + 1)) m137 _ hF)
      clear hF
      have hF := hm138
      clear hm138
      refine TS.start ?_
      cases m134 with
      | true =>
        replace hF := of_pos hF rfl
        refine TS.condT' (o := (.tmp 59)) (x := c42.s2.s2.s2.s1.s2.bd.bd.s2.s1.bd.s2.bd.bd.s2.s1.bd.s2.s2.th) (y := c42.s2.s2.s2.s1.s2.bd.bd.s2.s1.bd.s2.bd.bd.s2.s1.bd.s2.s2.el) (by kernel_rfl) (by kernel_rfl) ?_
        have hX := of_guard hF
        clear hF
        obtain ⟨hg139, hF⟩ := hX
        refine TS.region' (id := 11) (b := false) (ops := c42.s2.s2.s2.s1.s2.bd.bd.s2.s1.bd.s2.bd.bd.s2.s1.bd.s2.s2.th.rops) (by kernel_rfl) rfl ?_
        refine TI.run 3 [2, 3, 4, 7, 9, 10, 60, 62] [0, 1, 2, 4] (a2 := (st 65 [(2, .int .i64 p6), (3, .pointer (some ⟨0, 0, none⟩)), (4, .pointer (some ⟨1, 0, none⟩)), (7, .int .i64 r1), (9, .int .i64 v48), (10, .int .i64 v111), (60, accV 2 (List.length v110)), (62, .slice (some ⟨4, 0, none⟩) 1 1)])) (h2 := [.cells 25 [.int .i64 p0, .int .i64 p1, .int .i64 p2, .int .i64 p3], .cells 23 [.int .i64 p4, .int .i64 p5], accB 23 (List.length v110) (List.flatMap e23 v110), .dead, .cells 23 [.int .i64 r126.1, .int .i64 r126.2]]) (by kernel_rfl) ?_
        refine TI.acc (l := v110) (b := 2) (ts := #[86, 86]) (e := 23) (bytes := 16) (z := .agg ⟨[.int .i64 0, .int .i64 0]⟩) (y := .slice (some ⟨4, 0, none⟩) 1 1) (ys := [(r126.1, r126.2)]) (xs := List.flatMap e23 ([(r126.1, r126.2)])) (m := 1) (s := 2) (enc := e23) (by kernel_rfl) (by kernel_rfl) (by decide) (by kernel_rfl) (by kernel_rfl) (by kernel_rfl) (by kernel_rfl) (by kernel_rfl) (by kernel_rfl) (by kernel_rfl) (by kernel_rfl) (fun _ => rfl) rfl rfl (by omega) [2, 3, 4, 7, 9, 10, 63] [0, 1, 5] (a2 := (st 65 [(2, .int .i64 p6), (3, .pointer (some ⟨0, 0, none⟩)), (4, .pointer (some ⟨1, 0, none⟩)), (7, .int .i64 r1), (9, .int .i64 v48), (10, .int .i64 v111), (63, .slice (some ⟨5, 0, none⟩) (List.length (v110 ++ [(r126.1, r126.2)])) UNK)])) (h2 := [.cells 25 [.int .i64 p0, .int .i64 p1, .int .i64 p2, .int .i64 p3], .cells 23 [.int .i64 p4, .int .i64 p5], .dead, .dead, .dead, .cells 23 (List.flatMap e23 (v110 ++ [(r126.1, r126.2)]))]) (by kernel_rfl) ?_
        refine TI.run 1 [2, 3, 4, 7, 8, 9, 10] [0, 1, 5] (a2 := (st 65 [(2, .int .i64 p6), (3, .pointer (some ⟨0, 0, none⟩)), (4, .pointer (some ⟨1, 0, none⟩)), (7, .int .i64 r1), (8, .slice (some ⟨5, 0, none⟩) (List.length (v110 ++ [(r126.1, r126.2)])) UNK), (9, .int .i64 v48), (10, .int .i64 v111)])) (h2 := [.cells 25 [.int .i64 p0, .int .i64 p1, .int .i64 p2, .int .i64 p3], .cells 23 [.int .i64 p4, .int .i64 p5], .dead, .dead, .dead, .cells 23 (List.flatMap e23 (v110 ++ [(r126.1, r126.2)]))]) (by kernel_rfl) ?_
        refine TI.done (by kernel_rfl) ?_
        have hF := Option.some.inj hF
        subst hF
        exact TS.weak (Wk.anew (base := 0) (L := 0) (f := [0, 1, 5]) (by decide) (by decide) (Nat.le_of_ble_eq_true rfl) rfl (.cons (At.blk (by kernel_rfl) (RnB.lit (.cons (.flat (by kernel_rfl)) (.cons (.flat (by kernel_rfl)) (.cons (.flat (by kernel_rfl)) (.cons (.flat (by kernel_rfl)) .nil)))))) (.cons (At.blk (by kernel_rfl) (RnB.lit (.cons (.flat (by kernel_rfl)) (.cons (.flat (by kernel_rfl)) .nil)))) (.cons (At.accU (by kernel_rfl) rfl (fun _ => rfl)) (.nil _)))) (LRn.stx [2, 3, 4, 7, 8, 9, 10] [.int .i64 p6, .pointer (some ⟨0, 0, none⟩), .pointer (some ⟨1, 0, none⟩), .int .i64 r1, accV 2 (List.length (v110 ++ [(r126.1, r126.2)])), .int .i64 v48, .int .i64 v111] [.int .i64 p6, .pointer (some ⟨0, 0, none⟩), .pointer (some ⟨1, 0, none⟩), .int .i64 r1, .slice (some ⟨5, 0, none⟩) (List.length (v110 ++ [(r126.1, r126.2)])) UNK, .int .i64 v48, .int .i64 v111] (.cons (.flat (by kernel_rfl)) (.cons (Rn.ptr _ _ _ (Nat.le_of_ble_eq_true rfl) rfl) (.cons (Rn.ptr _ _ _ (Nat.le_of_ble_eq_true rfl) rfl) (.cons (.flat (by kernel_rfl)) (.cons (Rn.accU (Nat.le_of_ble_eq_true rfl) rfl (by simp)) (.cons (.flat (by kernel_rfl)) (.cons (.flat (by kernel_rfl)) .nil))))))) (by kernel_rfl) (by kernel_rfl) rfl) rfl rfl) hK
      | false =>
        replace hF := of_neg hF rfl
        refine TS.condF' (o := (.tmp 59)) (x := c42.s2.s2.s2.s1.s2.bd.bd.s2.s1.bd.s2.bd.bd.s2.s1.bd.s2.s2.th) (y := c42.s2.s2.s2.s1.s2.bd.bd.s2.s1.bd.s2.bd.bd.s2.s1.bd.s2.s2.el) (by kernel_rfl) (by kernel_rfl) ?_
        refine TS.skip' (by kernel_rfl) ?_
        have hF := Option.some.inj hF
        subst hF
        exact TS.weak (Wk.anew (base := 0) (L := 0) (f := [0, 1, 2]) (by decide) (by decide) (Nat.le_of_ble_eq_true rfl) rfl (.cons (At.blk (by kernel_rfl) (RnB.lit (.cons (.flat (by kernel_rfl)) (.cons (.flat (by kernel_rfl)) (.cons (.flat (by kernel_rfl)) (.cons (.flat (by kernel_rfl)) .nil)))))) (.cons (At.blk (by kernel_rfl) (RnB.lit (.cons (.flat (by kernel_rfl)) (.cons (.flat (by kernel_rfl)) .nil)))) (.cons (At.acc (by kernel_rfl) rfl (fun _ => rfl)) (.nil _)))) (LRn.stx [2, 3, 4, 7, 8, 9, 10] [.int .i64 p6, .pointer (some ⟨0, 0, none⟩), .pointer (some ⟨1, 0, none⟩), .int .i64 r1, accV 2 (List.length v110), .int .i64 v48, .int .i64 v111] [.int .i64 p6, .pointer (some ⟨0, 0, none⟩), .pointer (some ⟨1, 0, none⟩), .int .i64 r1, accV 2 (List.length v110), .int .i64 v48, .int .i64 v111] (.cons (.flat (by kernel_rfl)) (.cons (Rn.ptr _ _ _ (Nat.le_of_ble_eq_true rfl) rfl) (.cons (Rn.ptr _ _ _ (Nat.le_of_ble_eq_true rfl) rfl) (.cons (.flat (by kernel_rfl)) (.cons (Rn.acc (Nat.le_of_ble_eq_true rfl) rfl) (.cons (.flat (by kernel_rfl)) (.cons (.flat (by kernel_rfl)) .nil))))))) (by kernel_rfl) (by kernel_rfl) rfl) rfl rfl) hK
    rcases Bool.eq_false_or_eq_true ((Int.tmod r128 r1) == 0) with hc131 | hc131
    · replace hm140 := of_pos hm140 hc131
      have hX := of_do hm140
      clear hm140
      obtain ⟨r132, h133, hm140⟩ := hX
      have hm140 := Option.some.inj hm140
      subst hm140
      refine TS.region' (id := 10) (b := false) (ops := c42.s2.s2.s2.s1.s2.bd.bd.s2.s1.bd.s2.bd.bd.s2.s1.bd.s2.s1.rops) (by kernel_rfl) rfl ?_
      refine TI.run 3 [2, 3, 4, 7, 8, 9, 10, 11, 44, 46] [0, 1, 2, 3] (a2 := (st 65 [(2, .int .i64 p6), (3, .pointer (some ⟨0, 0, none⟩)), (4, .pointer (some ⟨1, 0, none⟩)), (7, .int .i64 r1), (8, accV 2 (List.length v110)), (9, .int .i64 v48), (10, .int .i64 v111), (11, .pointer (some ⟨3, 0, none⟩)), (44, .agg ⟨[.int .i64 r126.1, .int .i64 r126.2]⟩), (46, .agg ⟨[.int .i64 p2, .int .i64 p3]⟩)])) (h2 := [.cells 25 [.int .i64 p0, .int .i64 p1, .int .i64 p2, .int .i64 p3], .cells 23 [.int .i64 p4, .int .i64 p5], accB 23 (List.length v110) (List.flatMap e23 v110), .cells 23 [.int .i64 r126.1, .int .i64 r126.2]]) (by kernel_rfl) ?_
      refine TI.callM (g := 45) (args := [.agg ⟨[.int .i64 r126.1, .int .i64 r126.2]⟩, .agg ⟨[.int .i64 p2, .int .i64 p3]⟩]) (v := .int .i64 r128) (new := []) (by kernel_rfl) (PureSim.any (C45 r126.1 r126.2 p2 p3 r128 h129) (flatL (by kernel_rfl)) (by kernel_rfl) [.cells 25 [.int .i64 p0, .int .i64 p1, .int .i64 p2, .int .i64 p3], .cells 23 [.int .i64 p4, .int .i64 p5], accB 23 (List.length v110) (List.flatMap e23 v110), .cells 23 [.int .i64 r126.1, .int .i64 r126.2]]) [2, 3, 4, 7, 8, 9, 10, 11, 47] [0, 1, 2, 3] (a2 := (st 65 [(2, .int .i64 p6), (3, .pointer (some ⟨0, 0, none⟩)), (4, .pointer (some ⟨1, 0, none⟩)), (7, .int .i64 r1), (8, accV 2 (List.length v110)), (9, .int .i64 v48), (10, .int .i64 v111), (11, .pointer (some ⟨3, 0, none⟩)), (47, .int .i64 r128)])) (h2 := [.cells 25 [.int .i64 p0, .int .i64 p1, .int .i64 p2, .int .i64 p3], .cells 23 [.int .i64 p4, .int .i64 p5], accB 23 (List.length v110) (List.flatMap e23 v110), .cells 23 [.int .i64 r126.1, .int .i64 r126.2]]) (by kernel_rfl) ?_
      refine TI.run 1 [2, 3, 4, 7, 8, 9, 10, 11, 47, 48] [0, 1, 2, 3] (a2 := (st 65 [(2, .int .i64 p6), (3, .pointer (some ⟨0, 0, none⟩)), (4, .pointer (some ⟨1, 0, none⟩)), (7, .int .i64 r1), (8, accV 2 (List.length v110)), (9, .int .i64 v48), (10, .int .i64 v111), (11, .pointer (some ⟨3, 0, none⟩)), (47, .int .i64 r128), (48, .int .i64 r1)])) (h2 := [.cells 25 [.int .i64 p0, .int .i64 p1, .int .i64 p2, .int .i64 p3], .cells 23 [.int .i64 p4, .int .i64 p5], accB 23 (List.length v110) (List.flatMap e23 v110), .cells 23 [.int .i64 r126.1, .int .i64 r126.2]]) (by kernel_rfl) ?_
      refine TI.op (q := { val := .int .i64 (Int.tmod r128 r1) }) (q_int (P := Try.prog) (op := .rem) (ty := 3) (ox := (.tmp 47)) (oy := (.tmp 48)) (k := .i64) (k' := .i64) (y := r128) (z := r1) (by kernel_rfl) (rem_ok hg130)) [2, 3, 4, 7, 8, 9, 10, 11, 49] [0, 1, 2, 3] (a2 := (st 65 [(2, .int .i64 p6), (3, .pointer (some ⟨0, 0, none⟩)), (4, .pointer (some ⟨1, 0, none⟩)), (7, .int .i64 r1), (8, accV 2 (List.length v110)), (9, .int .i64 v48), (10, .int .i64 v111), (11, .pointer (some ⟨3, 0, none⟩)), (49, .int .i64 (Int.tmod r128 r1))])) (h2 := [.cells 25 [.int .i64 p0, .int .i64 p1, .int .i64 p2, .int .i64 p3], .cells 23 [.int .i64 p4, .int .i64 p5], accB 23 (List.length v110) (List.flatMap e23 v110), .cells 23 [.int .i64 r126.1, .int .i64 r126.2]]) (by kernel_rfl) ?_
      refine TI.op (q := { val := .bool true }) (q_conv (e := (Int.tmod r128 r1) == 0) (b := true) (by kernel_rfl) hc131) [2, 3, 4, 7, 8, 9, 10, 11, 50] [0, 1, 2, 3] (a2 := (st 65 [(2, .int .i64 p6), (3, .pointer (some ⟨0, 0, none⟩)), (4, .pointer (some ⟨1, 0, none⟩)), (7, .int .i64 r1), (8, accV 2 (List.length v110)), (9, .int .i64 v48), (10, .int .i64 v111), (11, .pointer (some ⟨3, 0, none⟩)), (50, .bool true)])) (h2 := [.cells 25 [.int .i64 p0, .int .i64 p1, .int .i64 p2, .int .i64 p3], .cells 23 [.int .i64 p4, .int .i64 p5], accB 23 (List.length v110) (List.flatMap e23 v110), .cells 23 [.int .i64 r126.1, .int .i64 r126.2]]) (by kernel_rfl) ?_
      refine TI.run 4 [2, 3, 4, 7, 8, 9, 10, 11, 51, 53, 54] [0, 1, 2, 3] (a2 := (st 65 [(2, .int .i64 p6), (3, .pointer (some ⟨0, 0, none⟩)), (4, .pointer (some ⟨1, 0, none⟩)), (7, .int .i64 r1), (8, accV 2 (List.length v110)), (9, .int .i64 v48), (10, .int .i64 v111), (11, .pointer (some ⟨3, 0, none⟩)), (51, .bool true), (53, .agg ⟨[.int .i64 p0, .int .i64 p1]⟩), (54, .agg ⟨[.int .i64 r126.1, .int .i64 r126.2]⟩)])) (h2 := [.cells 25 [.int .i64 p0, .int .i64 p1, .int .i64 p2, .int .i64 p3], .cells 23 [.int .i64 p4, .int .i64 p5], accB 23 (List.length v110) (List.flatMap e23 v110), .cells 23 [.int .i64 r126.1, .int .i64 r126.2]]) (by kernel_rfl) ?_
      refine TI.callM (g := 45) (args := [.agg ⟨[.int .i64 p0, .int .i64 p1]⟩, .agg ⟨[.int .i64 r126.1, .int .i64 r126.2]⟩]) (v := .int .i64 r132) (new := []) (by kernel_rfl) (PureSim.any (C45 p0 p1 r126.1 r126.2 r132 h133) (flatL (by kernel_rfl)) (by kernel_rfl) [.cells 25 [.int .i64 p0, .int .i64 p1, .int .i64 p2, .int .i64 p3], .cells 23 [.int .i64 p4, .int .i64 p5], accB 23 (List.length v110) (List.flatMap e23 v110), .cells 23 [.int .i64 r126.1, .int .i64 r126.2]]) [2, 3, 4, 7, 8, 9, 10, 11, 51, 55] [0, 1, 2, 3] (a2 := (st 65 [(2, .int .i64 p6), (3, .pointer (some ⟨0, 0, none⟩)), (4, .pointer (some ⟨1, 0, none⟩)), (7, .int .i64 r1), (8, accV 2 (List.length v110)), (9, .int .i64 v48), (10, .int .i64 v111), (11, .pointer (some ⟨3, 0, none⟩)), (51, .bool true), (55, .int .i64 r132)])) (h2 := [.cells 25 [.int .i64 p0, .int .i64 p1, .int .i64 p2, .int .i64 p3], .cells 23 [.int .i64 p4, .int .i64 p5], accB 23 (List.length v110) (List.flatMap e23 v110), .cells 23 [.int .i64 r126.1, .int .i64 r126.2]]) (by kernel_rfl) ?_
      refine TI.run 1 [2, 3, 4, 7, 8, 9, 10, 11, 51, 55, 56] [0, 1, 2, 3] (a2 := (st 65 [(2, .int .i64 p6), (3, .pointer (some ⟨0, 0, none⟩)), (4, .pointer (some ⟨1, 0, none⟩)), (7, .int .i64 r1), (8, accV 2 (List.length v110)), (9, .int .i64 v48), (10, .int .i64 v111), (11, .pointer (some ⟨3, 0, none⟩)), (51, .bool true), (55, .int .i64 r132), (56, .int .i64 r1)])) (h2 := [.cells 25 [.int .i64 p0, .int .i64 p1, .int .i64 p2, .int .i64 p3], .cells 23 [.int .i64 p4, .int .i64 p5], accB 23 (List.length v110) (List.flatMap e23 v110), .cells 23 [.int .i64 r126.1, .int .i64 r126.2]]) (by kernel_rfl) ?_
      refine TI.op (q := { val := .int .i64 (Int.tmod r132 r1) }) (q_int (P := Try.prog) (op := .rem) (ty := 3) (ox := (.tmp 55)) (oy := (.tmp 56)) (k := .i64) (k' := .i64) (y := r132) (z := r1) (by kernel_rfl) (rem_ok hg130)) [2, 3, 4, 7, 8, 9, 10, 11, 51, 57] [0, 1, 2, 3] (a2 := (st 65 [(2, .int .i64 p6), (3, .pointer (some ⟨0, 0, none⟩)), (4, .pointer (some ⟨1, 0, none⟩)), (7, .int .i64 r1), (8, accV 2 (List.length v110)), (9, .int .i64 v48), (10, .int .i64 v111), (11, .pointer (some ⟨3, 0, none⟩)), (51, .bool true), (57, .int .i64 (Int.tmod r132 r1))])) (h2 := [.cells 25 [.int .i64 p0, .int .i64 p1, .int .i64 p2, .int .i64 p3], .cells 23 [.int .i64 p4, .int .i64 p5], accB 23 (List.length v110) (List.flatMap e23 v110), .cells 23 [.int .i64 r126.1, .int .i64 r126.2]]) (by kernel_rfl) ?_
      refine TI.run 2 [2, 3, 4, 7, 8, 9, 10, 11, 59] [0, 1, 2, 3] (a2 := (st 65 [(2, .int .i64 p6), (3, .pointer (some ⟨0, 0, none⟩)), (4, .pointer (some ⟨1, 0, none⟩)), (7, .int .i64 r1), (8, accV 2 (List.length v110)), (9, .int .i64 v48), (10, .int .i64 v111), (11, .pointer (some ⟨3, 0, none⟩)), (59, .bool ((Int.tmod r132 r1) == 0))])) (h2 := [.cells 25 [.int .i64 p0, .int .i64 p1, .int .i64 p2, .int .i64 p3], .cells 23 [.int .i64 p4, .int .i64 p5], accB 23 (List.length v110) (List.flatMap e23 v110), .cells 23 [.int .i64 r126.1, .int .i64 r126.2]]) (by kernel_rfl) ?_
      refine TI.done (by kernel_rfl) ?_
      exact hK
    · replace hm140 := of_neg hm140 hc131
      have hm140 := Option.some.inj hm140
      subst hm140
      refine TS.region' (id := 10) (b := false) (ops := c42.s2.s2.s2.s1.s2.bd.bd.s2.s1.bd.s2.bd.bd.s2.s1.bd.s2.s1.rops) (by kernel_rfl) rfl ?_
      refine TI.run 3 [2, 3, 4, 7, 8, 9, 10, 11, 44, 46] [0, 1, 2, 3] (a2 := (st 65 [(2, .int .i64 p6), (3, .pointer (some ⟨0, 0, none⟩)), (4, .pointer (some ⟨1, 0, none⟩)), (7, .int .i64 r1), (8, accV 2 (List.length v110)), (9, .int .i64 v48), (10, .int .i64 v111), (11, .pointer (some ⟨3, 0, none⟩)), (44, .agg ⟨[.int .i64 r126.1, .int .i64 r126.2]⟩), (46, .agg ⟨[.int .i64 p2, .int .i64 p3]⟩)])) (h2 := [.cells 25 [.int .i64 p0, .int .i64 p1, .int .i64 p2, .int .i64 p3], .cells 23 [.int .i64 p4, .int .i64 p5], accB 23 (List.length v110) (List.flatMap e23 v110), .cells 23 [.int .i64 r126.1, .int .i64 r126.2]]) (by kernel_rfl) ?_
      refine TI.callM (g := 45) (args := [.agg ⟨[.int .i64 r126.1, .int .i64 r126.2]⟩, .agg ⟨[.int .i64 p2, .int .i64 p3]⟩]) (v := .int .i64 r128) (new := []) (by kernel_rfl) (PureSim.any (C45 r126.1 r126.2 p2 p3 r128 h129) (flatL (by kernel_rfl)) (by kernel_rfl) [.cells 25 [.int .i64 p0, .int .i64 p1, .int .i64 p2, .int .i64 p3], .cells 23 [.int .i64 p4, .int .i64 p5], accB 23 (List.length v110) (List.flatMap e23 v110), .cells 23 [.int .i64 r126.1, .int .i64 r126.2]]) [2, 3, 4, 7, 8, 9, 10, 11, 47] [0, 1, 2, 3] (a2 := (st 65 [(2, .int .i64 p6), (3, .pointer (some ⟨0, 0, none⟩)), (4, .pointer (some ⟨1, 0, none⟩)), (7, .int .i64 r1), (8, accV 2 (List.length v110)), (9, .int .i64 v48), (10, .int .i64 v111), (11, .pointer (some ⟨3, 0, none⟩)), (47, .int .i64 r128)])) (h2 := [.cells 25 [.int .i64 p0, .int .i64 p1, .int .i64 p2, .int .i64 p3], .cells 23 [.int .i64 p4, .int .i64 p5], accB 23 (List.length v110) (List.flatMap e23 v110), .cells 23 [.int .i64 r126.1, .int .i64 r126.2]]) (by kernel_rfl) ?_
      refine TI.run 1 [2, 3, 4, 7, 8, 9, 10, 11, 47, 48] [0, 1, 2, 3] (a2 := (st 65 [(2, .int .i64 p6), (3, .pointer (some ⟨0, 0, none⟩)), (4, .pointer (some ⟨1, 0, none⟩)), (7, .int .i64 r1), (8, accV 2 (List.length v110)), (9, .int .i64 v48), (10, .int .i64 v111), (11, .pointer (some ⟨3, 0, none⟩)), (47, .int .i64 r128), (48, .int .i64 r1)])) (h2 := [.cells 25 [.int .i64 p0, .int .i64 p1, .int .i64 p2, .int .i64 p3], .cells 23 [.int .i64 p4, .int .i64 p5], accB 23 (List.length v110) (List.flatMap e23 v110), .cells 23 [.int .i64 r126.1, .int .i64 r126.2]]) (by kernel_rfl) ?_
      refine TI.op (q := { val := .int .i64 (Int.tmod r128 r1) }) (q_int (P := Try.prog) (op := .rem) (ty := 3) (ox := (.tmp 47)) (oy := (.tmp 48)) (k := .i64) (k' := .i64) (y := r128) (z := r1) (by kernel_rfl) (rem_ok hg130)) [2, 3, 4, 7, 8, 9, 10, 11, 49] [0, 1, 2, 3] (a2 := (st 65 [(2, .int .i64 p6), (3, .pointer (some ⟨0, 0, none⟩)), (4, .pointer (some ⟨1, 0, none⟩)), (7, .int .i64 r1), (8, accV 2 (List.length v110)), (9, .int .i64 v48), (10, .int .i64 v111), (11, .pointer (some ⟨3, 0, none⟩)), (49, .int .i64 (Int.tmod r128 r1))])) (h2 := [.cells 25 [.int .i64 p0, .int .i64 p1, .int .i64 p2, .int .i64 p3], .cells 23 [.int .i64 p4, .int .i64 p5], accB 23 (List.length v110) (List.flatMap e23 v110), .cells 23 [.int .i64 r126.1, .int .i64 r126.2]]) (by kernel_rfl) ?_
      refine TI.op (q := { val := .bool false }) (q_conv (e := (Int.tmod r128 r1) == 0) (b := false) (by kernel_rfl) hc131) [2, 3, 4, 7, 8, 9, 10, 11, 50] [0, 1, 2, 3] (a2 := (st 65 [(2, .int .i64 p6), (3, .pointer (some ⟨0, 0, none⟩)), (4, .pointer (some ⟨1, 0, none⟩)), (7, .int .i64 r1), (8, accV 2 (List.length v110)), (9, .int .i64 v48), (10, .int .i64 v111), (11, .pointer (some ⟨3, 0, none⟩)), (50, .bool false)])) (h2 := [.cells 25 [.int .i64 p0, .int .i64 p1, .int .i64 p2, .int .i64 p3], .cells 23 [.int .i64 p4, .int .i64 p5], accB 23 (List.length v110) (List.flatMap e23 v110), .cells 23 [.int .i64 r126.1, .int .i64 r126.2]]) (by kernel_rfl) ?_
      refine TI.run 9 [2, 3, 4, 7, 8, 9, 10, 11, 59] [0, 1, 2, 3] (a2 := (st 65 [(2, .int .i64 p6), (3, .pointer (some ⟨0, 0, none⟩)), (4, .pointer (some ⟨1, 0, none⟩)), (7, .int .i64 r1), (8, accV 2 (List.length v110)), (9, .int .i64 v48), (10, .int .i64 v111), (11, .pointer (some ⟨3, 0, none⟩)), (59, .bool false)])) (h2 := [.cells 25 [.int .i64 p0, .int .i64 p1, .int .i64 p2, .int .i64 p3], .cells 23 [.int .i64 p4, .int .i64 p5], accB 23 (List.length v110) (List.flatMap e23 v110), .cells 23 [.int .i64 r126.1, .int .i64 r126.2]]) (by kernel_rfl) ?_
      refine TI.done (by kernel_rfl) ?_
      exact hK
  · replace hF := of_neg hF hc125
    refine TS.exit' (id := 2) (by kernel_rfl) ?_
    refine NX.sqX ?_
    have hF := Option.some.inj hF
    subst hF
    exact Rd.out (e := .exit 2) (by intro h; cases h) (And.intro rfl (Wk.anew (base := 0) (L := 0) (f := [0, 1, 2]) (by decide) (by decide) (Nat.le_of_ble_eq_true rfl) rfl (.cons (At.blk (by kernel_rfl) (RnB.lit (.cons (.flat (by kernel_rfl)) (.cons (.flat (by kernel_rfl)) (.cons (.flat (by kernel_rfl)) (.cons (.flat (by kernel_rfl)) .nil)))))) (.cons (At.blk (by kernel_rfl) (RnB.lit (.cons (.flat (by kernel_rfl)) (.cons (.flat (by kernel_rfl)) .nil)))) (.cons (At.acc (by kernel_rfl) rfl (fun _ => rfl)) (.nil _)))) (LRn.stx [2, 3, 4, 7, 8, 9] [.int .i64 p6, .pointer (some ⟨0, 0, none⟩), .pointer (some ⟨1, 0, none⟩), .int .i64 r1, accV 2 (List.length v110), .int .i64 v48] [.int .i64 p6, .pointer (some ⟨0, 0, none⟩), .pointer (some ⟨1, 0, none⟩), .int .i64 r1, accV 2 (List.length v110), .int .i64 v48] (.cons (.flat (by kernel_rfl)) (.cons (Rn.ptr _ _ _ (Nat.le_of_ble_eq_true rfl) rfl) (.cons (Rn.ptr _ _ _ (Nat.le_of_ble_eq_true rfl) rfl) (.cons (.flat (by kernel_rfl)) (.cons (Rn.acc (Nat.le_of_ble_eq_true rfl) rfl) (.cons (.flat (by kernel_rfl)) .nil)))))) (by kernel_rfl) (by kernel_rfl) rfl) rfl rfl))
def P42l0 (p0 : Int) (p1 : Int) (p2 : Int) (p3 : Int) (p4 : Int) (p5 : Int) (p6 : Int) (r1 : Int) (r : (List (Int × Int))) : Post := fun e a h => e = .exit 0 ∧ Wk Try.prog 0 0 a h (st 65 [(8, accV 0 (List.length r))]) [accB 23 (List.length r) (List.flatMap e23 r)]
theorem L42l0 (p0 : Int) (p1 : Int) (p2 : Int) (p3 : Int) (p4 : Int) (p5 : Int) (p6 : Int) (r1 : Int) (v49 : (List (Int × Int))) (v48 : Int) (r : (List (Int × Int))) (hF : F42l0 p0 p1 p2 p3 p4 p5 p6 r1 v49 v48 = some r) : TL Try.prog 0 0 c42.s2.s2.s2.s1.s2.bd.bd (st 65 [(2, .int .i64 p6), (3, .pointer (some ⟨0, 0, none⟩)), (4, .pointer (some ⟨1, 0, none⟩)), (7, .int .i64 r1), (8, accV 2 (List.length v49)), (9, .int .i64 v48)]) [.cells 25 [.int .i64 p0, .int .i64 p1, .int .i64 p2, .int .i64 p3], .cells 23 [.int .i64 p4, .int .i64 p5], accB 23 (List.length v49) (List.flatMap e23 v49)] (P42l0 p0 p1 p2 p3 p4 p5 p6 r1 r) := by
  refine F42l0.partial_correctness p0 p1 p2 p3 p4 p5 p6 r1 (motive := fun v49 v48 r => TL Try.prog 0 0 c42.s2.s2.s2.s1.s2.bd.bd (st 65 [(2, .int .i64 p6), (3, .pointer (some ⟨0, 0, none⟩)), (4, .pointer (some ⟨1, 0, none⟩)), (7, .int .i64 r1), (8, accV 2 (List.length v49)), (9, .int .i64 v48)]) [.cells 25 [.int .i64 p0, .int .i64 p1, .int .i64 p2, .int .i64 p3], .cells 23 [.int .i64 p4, .int .i64 p5], accB 23 (List.length v49) (List.flatMap e23 v49)] (P42l0 p0 p1 p2 p3 p4 p5 p6 r1 r)) ?_ v49 v48 r hF
  clear hF r v49 v48
  intro again ih v49 v48 r hF
  refine TL.round ?_
  refine TS.seq' (x := c42.s2.s2.s2.s1.s2.bd.bd.s1) (y := c42.s2.s2.s2.s1.s2.bd.bd.s2) (by kernel_rfl) ?_
  refine TS.seq' (x := c42.s2.s2.s2.s1.s2.bd.bd.s1.s1) (y := c42.s2.s2.s2.s1.s2.bd.bd.s1.s2) (by kernel_rfl) ?_
  refine TS.region' (id := 4) (b := false) (ops := c42.s2.s2.s2.s1.s2.bd.bd.s1.s1.rops) (by kernel_rfl) rfl ?_
  refine TI.run 6 [2, 3, 4, 7, 8, 9, 26] [0, 1, 2] (a2 := (st 65 [(2, .int .i64 p6), (3, .pointer (some ⟨0, 0, none⟩)), (4, .pointer (some ⟨1, 0, none⟩)), (7, .int .i64 r1), (8, accV 2 (List.length v49)), (9, .int .i64 v48), (26, .bool (decide (v48 ≤ (w64 (p4 + p6)))))])) (h2 := [.cells 25 [.int .i64 p0, .int .i64 p1, .int .i64 p2, .int .i64 p3], .cells 23 [.int .i64 p4, .int .i64 p5], accB 23 (List.length v49) (List.flatMap e23 v49)]) (by kernel_rfl) ?_
  refine TI.done (by kernel_rfl) ?_
  refine NX.sq ?_
  refine TS.cond' (o := (.tmp 26)) (x := c42.s2.s2.s2.s1.s2.bd.bd.s1.s2.th) (y := c42.s2.s2.s2.s1.s2.bd.bd.s1.s2.el) (b := decide (v48 ≤ (w64 (p4 + p6)))) (by kernel_rfl) (by kernel_rfl) (fun hc97 => ?_) (fun hc97 => ?_)
  · replace hF := of_pos hF hc97
    refine TS.skip' (by kernel_rfl) ?_
    refine NX.sq ?_
    refine TS.seq' (x := c42.s2.s2.s2.s1.s2.bd.bd.s2.s1) (y := c42.s2.s2.s2.s1.s2.bd.bd.s2.s2) (by kernel_rfl) ?_
    refine TS.block' (id := 1) (x := c42.s2.s2.s2.s1.s2.bd.bd.s2.s1.bd) (by kernel_rfl) ?_
    refine TS.seq' (x := c42.s2.s2.s2.s1.s2.bd.bd.s2.s1.bd.s1) (y := c42.s2.s2.s2.s1.s2.bd.bd.s2.s1.bd.s2) (by kernel_rfl) ?_
    refine TS.region' (id := 6) (b := false) (ops := c42.s2.s2.s2.s1.s2.bd.bd.s2.s1.bd.s1.rops) (by kernel_rfl) rfl ?_
    refine TI.run 5 [2, 3, 4, 7, 8, 9, 10] [0, 1, 2] (a2 := (st 65 [(2, .int .i64 p6), (3, .pointer (some ⟨0, 0, none⟩)), (4, .pointer (some ⟨1, 0, none⟩)), (7, .int .i64 r1), (8, accV 2 (List.length v49)), (9, .int .i64 v48), (10, .int .i64 (w64 (p5 - p6)))])) (h2 := [.cells 25 [.int .i64 p0, .int .i64 p1, .int .i64 p2, .int .i64 p3], .cells 23 [.int .i64 p4, .int .i64 p5], accB 23 (List.length v49) (List.flatMap e23 v49)]) (by kernel_rfl) ?_
    refine TI.done (by kernel_rfl) ?_
    refine NX.sq ?_
    refine TS.block' (id := 2) (x := c42.s2.s2.s2.s1.s2.bd.bd.s2.s1.bd.s2.bd) (by kernel_rfl) ?_
    have hX := of_do hF
    clear hF
    obtain ⟨r141, h142, hF⟩ := hX
    refine TS.loop' (x := c42.s2.s2.s2.s1.s2.bd.bd.s2.s1.bd.s2.bd.bd) (by kernel_rfl) (TL.weak (a2 := (st 65 [(2, .int .i64 p6), (3, .pointer (some ⟨0, 0, none⟩)), (4, .pointer (some ⟨1, 0, none⟩)), (7, .int .i64 r1), (8, accV 2 (List.length v49)), (9, .int .i64 v48), (10, .int .i64 (w64 (p5 - p6)))])) (h2 := [.cells 25 [.int .i64 p0, .int .i64 p1, .int .i64 p2, .int .i64 p3], .cells 23 [.int .i64 p4, .int .i64 p5], accB 23 (List.length v49) (List.flatMap e23 v49)]) (Wk.anew (base := 0) (L := 0) (f := [0, 1, 2]) (by decide) (by decide) (Nat.le_of_ble_eq_true rfl) rfl (.cons (At.blk (by kernel_rfl) (RnB.lit (.cons (.flat (by kernel_rfl)) (.cons (.flat (by kernel_rfl)) (.cons (.flat (by kernel_rfl)) (.cons (.flat (by kernel_rfl)) .nil)))))) (.cons (At.blk (by kernel_rfl) (RnB.lit (.cons (.flat (by kernel_rfl)) (.cons (.flat (by kernel_rfl)) .nil)))) (.cons (At.acc (by kernel_rfl) rfl (fun _ => rfl)) (.nil _)))) (LRn.stx [2, 3, 4, 7, 8, 9, 10] [.int .i64 p6, .pointer (some ⟨0, 0, none⟩), .pointer (some ⟨1, 0, none⟩), .int .i64 r1, accV 2 (List.length v49), .int .i64 v48, .int .i64 (w64 (p5 - p6))] [.int .i64 p6, .pointer (some ⟨0, 0, none⟩), .pointer (some ⟨1, 0, none⟩), .int .i64 r1, accV 2 (List.length v49), .int .i64 v48, .int .i64 (w64 (p5 - p6))] (.cons (.flat (by kernel_rfl)) (.cons (Rn.ptr _ _ _ (Nat.le_of_ble_eq_true rfl) rfl) (.cons (Rn.ptr _ _ _ (Nat.le_of_ble_eq_true rfl) rfl) (.cons (.flat (by kernel_rfl)) (.cons (Rn.acc (Nat.le_of_ble_eq_true rfl) rfl) (.cons (.flat (by kernel_rfl)) (.cons (.flat (by kernel_rfl)) .nil))))))) (by kernel_rfl) (by kernel_rfl) rfl) rfl rfl) (TL.post (L42l1 p0 p1 p2 p3 p4 p5 p6 r1 v48 (w64 (p5 - p6)) v49 r141 h142) ?_))
    rintro e a1 h1 hp
    obtain ⟨rfl, hw⟩ := hp
    refine ⟨(st 65 [(2, .int .i64 p6), (3, .pointer (some ⟨0, 0, none⟩)), (4, .pointer (some ⟨1, 0, none⟩)), (7, .int .i64 r1), (8, accV 2 (List.length r141)), (9, .int .i64 v48)]), [.cells 25 [.int .i64 p0, .int .i64 p1, .int .i64 p2, .int .i64 p3], .cells 23 [.int .i64 p4, .int .i64 p5], accB 23 (List.length r141) (List.flatMap e23 r141)], ?_, hw⟩
    refine NX.bkX ?_
    refine NX.bk ?_
    refine NX.sq ?_
    refine TS.region' (id := 5) (b := false) (ops := c42.s2.s2.s2.s1.s2.bd.bd.s2.s2.rops) (by kernel_rfl) rfl ?_
    refine TI.run 3 [2, 3, 4, 7, 8, 9] [0, 1, 2] (a2 := (st 65 [(2, .int .i64 p6), (3, .pointer (some ⟨0, 0, none⟩)), (4, .pointer (some ⟨1, 0, none⟩)), (7, .int .i64 r1), (8, accV 2 (List.length r141)), (9, .int .i64 (w64 (v48 + 1)))])) (h2 := [.cells 25 [.int .i64 p0, .int .i64 p1, .int .i64 p2, .int .i64 p3], .cells 23 [.int .i64 p4, .int .i64 p5], accB 23 (List.length r141) (List.flatMap e23 r141)]) (by kernel_rfl) ?_
    refine TI.done (by kernel_rfl) ?_
    exact Rd.again (a2 := (st 65 [(2, .int .i64 p6), (3, .pointer (some ⟨0, 0, none⟩)), (4, .pointer (some ⟨1, 0, none⟩)), (7, .int .i64 r1), (8, accV 2 (List.length r141)), (9, .int .i64 (w64 (v48 + 1)))])) (h2 := [.cells 25 [.int .i64 p0, .int .i64 p1, .int .i64 p2, .int .i64 p3], .cells 23 [.int .i64 p4, .int .i64 p5], accB 23 (List.length r141) (List.flatMap e23 r141)]) (Wk.anew (base := 0) (L := 0) (f := [0, 1, 2]) (by decide) (by decide) (Nat.le_of_ble_eq_true rfl) rfl (.cons (At.blk (by kernel_rfl) (RnB.lit (.cons (.flat (by kernel_rfl)) (.cons (.flat (by kernel_rfl)) (.cons (.flat (by kernel_rfl)) (.cons (.flat (by kernel_rfl)) .nil)))))) (.cons (At.blk (by kernel_rfl) (RnB.lit (.cons (.flat (by kernel_rfl)) (.cons (.flat (by kernel_rfl)) .nil)))) (.cons (At.acc (by kernel_rfl) rfl (fun _ => rfl)) (.nil _)))) (LRn.stx [2, 3, 4, 7, 8, 9] [.int .i64 p6, .pointer (some ⟨0, 0, none⟩), .pointer (some ⟨1, 0, none⟩), .int .i64 r1, accV 2 (List.length r141), .int .i64 (w64 (v48 + 1))] [.int .i64 p6, .pointer (some ⟨0, 0, none⟩), .pointer (some ⟨1, 0, none⟩), .int .i64 r1, accV 2 (List.length r141), .int .i64 (w64 (v48 + 1))] (.cons (.flat (by kernel_rfl)) (.cons (Rn.ptr _ _ _ (Nat.le_of_ble_eq_true rfl) rfl) (.cons (Rn.ptr _ _ _ (Nat.le_of_ble_eq_true rfl) rfl) (.cons (.flat (by kernel_rfl)) (.cons (Rn.acc (Nat.le_of_ble_eq_true rfl) rfl) (.cons (.flat (by kernel_rfl)) .nil)))))) (by kernel_rfl) (by kernel_rfl) rfl) rfl rfl) (ih r141 (w64 (v48 + 1)) _ hF)
  · replace hF := of_neg hF hc97
    refine TS.exit' (id := 0) (by kernel_rfl) ?_
    refine NX.sqX ?_
    have hF := Option.some.inj hF
    subst hF
    exact Rd.out (e := .exit 0) (by intro h; cases h) (And.intro rfl (Wk.anew (base := 0) (L := 0) (f := [2]) (by decide) (by decide) (Nat.le_of_ble_eq_true rfl) rfl (.cons (At.acc (by kernel_rfl) rfl (fun _ => rfl)) (.nil _)) (LRn.stx [8] [accV 0 (List.length v49)] [accV 2 (List.length v49)] (.cons (Rn.acc (Nat.le_of_ble_eq_true rfl) rfl) .nil) (by kernel_rfl) (by kernel_rfl) rfl) rfl rfl))
theorem B42 (p0 : Int) (p1 : Int) (p2 : Int) (p3 : Int) (p4 : Int) (p5 : Int) (p6 : Int) (r : (List (Int × Int))) (hF : F42 p0 p1 p2 p3 p4 p5 p6 = some r) : TS Try.prog 0 0 c42 (st 65 [(0, .agg ⟨[.int .i64 p0, .int .i64 p1, .int .i64 p2, .int .i64 p3]⟩), (1, .agg ⟨[.int .i64 p4, .int .i64 p5]⟩), (2, .int .i64 p6)]) [] (NX Try.prog 0 0 [] (FinP Try.prog Try.f42 0 (V42 0 r) (N42 0 r))) := by
  unfold F42 at hF
  refine TS.seq' (x := c42.s1) (y := c42.s2) (by kernel_rfl) ?_
  refine TS.region' (id := 0) (b := false) (ops := c42.s1.rops) (by kernel_rfl) rfl ?_
  refine TI.run 3 [2, 3, 4] [0, 1] (a2 := (st 65 [(2, .int .i64 p6), (3, .pointer (some ⟨0, 0, none⟩)), (4, .pointer (some ⟨1, 0, none⟩))])) (h2 := [.cells 25 [.int .i64 p0, .int .i64 p1, .int .i64 p2, .int .i64 p3], .cells 23 [.int .i64 p4, .int .i64 p5]]) (by kernel_rfl) ?_
  refine TI.done (by kernel_rfl) ?_
  refine NX.sq ?_
  refine TS.seq' (x := c42.s2.s1) (y := c42.s2.s2) (by kernel_rfl) ?_
  have hX := of_do hF
  clear hF
  obtain ⟨r1, h2, hF⟩ := hX
  refine TS.region' (id := 1) (b := false) (ops := c42.s2.s1.rops) (by kernel_rfl) rfl ?_
  refine TI.run 4 [2, 3, 4, 13, 15] [0, 1] (a2 := (st 65 [(2, .int .i64 p6), (3, .pointer (some ⟨0, 0, none⟩)), (4, .pointer (some ⟨1, 0, none⟩)), (13, .agg ⟨[.int .i64 p0, .int .i64 p1]⟩), (15, .agg ⟨[.int .i64 p2, .int .i64 p3]⟩)])) (h2 := [.cells 25 [.int .i64 p0, .int .i64 p1, .int .i64 p2, .int .i64 p3], .cells 23 [.int .i64 p4, .int .i64 p5]]) (by kernel_rfl) ?_
  refine TI.callM (g := 45) (args := [.agg ⟨[.int .i64 p0, .int .i64 p1]⟩, .agg ⟨[.int .i64 p2, .int .i64 p3]⟩]) (v := .int .i64 r1) (new := []) (by kernel_rfl) (PureSim.any (C45 p0 p1 p2 p3 r1 h2) (flatL (by kernel_rfl)) (by kernel_rfl) [.cells 25 [.int .i64 p0, .int .i64 p1, .int .i64 p2, .int .i64 p3], .cells 23 [.int .i64 p4, .int .i64 p5]]) [2, 3, 4, 16] [0, 1] (a2 := (st 65 [(2, .int .i64 p6), (3, .pointer (some ⟨0, 0, none⟩)), (4, .pointer (some ⟨1, 0, none⟩)), (16, .int .i64 r1)])) (h2 := [.cells 25 [.int .i64 p0, .int .i64 p1, .int .i64 p2, .int .i64 p3], .cells 23 [.int .i64 p4, .int .i64 p5]]) (by kernel_rfl) ?_
  refine TI.run 1 [2, 3, 4, 7] [0, 1] (a2 := (st 65 [(2, .int .i64 p6), (3, .pointer (some ⟨0, 0, none⟩)), (4, .pointer (some ⟨1, 0, none⟩)), (7, .int .i64 r1)])) (h2 := [.cells 25 [.int .i64 p0, .int .i64 p1, .int .i64 p2, .int .i64 p3], .cells 23 [.int .i64 p4, .int .i64 p5]]) (by kernel_rfl) ?_
  refine TI.done (by kernel_rfl) ?_
  refine NX.sq ?_
  refine TS.seq' (x := c42.s2.s2.s1) (y := c42.s2.s2.s2) (by kernel_rfl) ?_
  refine TS.region' (id := 2) (b := false) (ops := c42.s2.s2.s1.rops) (by kernel_rfl) rfl ?_
  refine TI.run 1 [2, 3, 4, 7, 8] [0, 1] (a2 := (st 65 [(2, .int .i64 p6), (3, .pointer (some ⟨0, 0, none⟩)), (4, .pointer (some ⟨1, 0, none⟩)), (7, .int .i64 r1), (8, .slice none 0 0)])) (h2 := [.cells 25 [.int .i64 p0, .int .i64 p1, .int .i64 p2, .int .i64 p3], .cells 23 [.int .i64 p4, .int .i64 p5]]) (by kernel_rfl) ?_
  refine TI.done (by kernel_rfl) ?_
  refine NX.sq ?_
  refine TS.seq' (x := c42.s2.s2.s2.s1) (y := c42.s2.s2.s2.s2) (by kernel_rfl) ?_
  refine TS.seq' (x := c42.s2.s2.s2.s1.s1) (y := c42.s2.s2.s2.s1.s2) (by kernel_rfl) ?_
  refine TS.region' (id := 3) (b := false) (ops := c42.s2.s2.s2.s1.s1.rops) (by kernel_rfl) rfl ?_
  refine TI.run 5 [2, 3, 4, 7, 8, 9] [0, 1] (a2 := (st 65 [(2, .int .i64 p6), (3, .pointer (some ⟨0, 0, none⟩)), (4, .pointer (some ⟨1, 0, none⟩)), (7, .int .i64 r1), (8, .slice none 0 0), (9, .int .i64 (w64 (p4 - p6)))])) (h2 := [.cells 25 [.int .i64 p0, .int .i64 p1, .int .i64 p2, .int .i64 p3], .cells 23 [.int .i64 p4, .int .i64 p5]]) (by kernel_rfl) ?_
  refine TI.done (by kernel_rfl) ?_
  refine NX.sq ?_
  refine TS.block' (id := 0) (x := c42.s2.s2.s2.s1.s2.bd) (by kernel_rfl) ?_
  have hX := of_do hF
  clear hF
  obtain ⟨r143, h144, hF⟩ := hX
  refine TS.loop' (x := c42.s2.s2.s2.s1.s2.bd.bd) (by kernel_rfl) (TL.weak (a2 := (st 65 [(2, .int .i64 p6), (3, .pointer (some ⟨0, 0, none⟩)), (4, .pointer (some ⟨1, 0, none⟩)), (7, .int .i64 r1), (8, accV 2 (List.length ([]))), (9, .int .i64 (w64 (p4 - p6)))])) (h2 := [.cells 25 [.int .i64 p0, .int .i64 p1, .int .i64 p2, .int .i64 p3], .cells 23 [.int .i64 p4, .int .i64 p5], accB 23 (List.length ([])) (List.flatMap e23 ([]))]) (Wk.anew (base := 0) (L := 0) (f := [0, 1, 2]) (by decide) (by decide) (Nat.le_of_ble_eq_true rfl) rfl (.cons (At.blk (by kernel_rfl) (RnB.lit (.cons (.flat (by kernel_rfl)) (.cons (.flat (by kernel_rfl)) (.cons (.flat (by kernel_rfl)) (.cons (.flat (by kernel_rfl)) .nil)))))) (.cons (At.blk (by kernel_rfl) (RnB.lit (.cons (.flat (by kernel_rfl)) (.cons (.flat (by kernel_rfl)) .nil)))) (.cons At.accN (.nil _)))) (LRn.stx [2, 3, 4, 7, 8, 9] [.int .i64 p6, .pointer (some ⟨0, 0, none⟩), .pointer (some ⟨1, 0, none⟩), .int .i64 r1, accV 2 (List.length ([])), .int .i64 (w64 (p4 - p6))] [.int .i64 p6, .pointer (some ⟨0, 0, none⟩), .pointer (some ⟨1, 0, none⟩), .int .i64 r1, .slice none 0 0, .int .i64 (w64 (p4 - p6))] (.cons (.flat (by kernel_rfl)) (.cons (Rn.ptr _ _ _ (Nat.le_of_ble_eq_true rfl) rfl) (.cons (Rn.ptr _ _ _ (Nat.le_of_ble_eq_true rfl) rfl) (.cons (.flat (by kernel_rfl)) (.cons (Rn.accN) (.cons (.flat (by kernel_rfl)) .nil)))))) (by kernel_rfl) (by kernel_rfl) rfl) rfl rfl) (TL.post (L42l0 p0 p1 p2 p3 p4 p5 p6 r1 ([]) (w64 (p4 - p6)) r143 h144) ?_))
  rintro e a1 h1 hp
  obtain ⟨rfl, hw⟩ := hp
  refine ⟨(st 65 [(8, accV 0 (List.length r143))]), [accB 23 (List.length r143) (List.flatMap e23 r143)], ?_, hw⟩
  refine NX.bkX ?_
  refine NX.sq ?_
  refine TS.seq' (x := c42.s2.s2.s2.s2.s1) (y := c42.s2.s2.s2.s2.s2) (by kernel_rfl) ?_
  refine TS.region' (id := 12) (b := false) (ops := c42.s2.s2.s2.s2.s1.rops) (by kernel_rfl) rfl ?_
  refine TI.run 2 [6] [0] (a2 := (st 65 [(6, accV 0 (List.length r143))])) (h2 := [accB 23 (List.length r143) (List.flatMap e23 r143)]) (by kernel_rfl) ?_
  refine TI.done (by kernel_rfl) ?_
  refine NX.sq ?_
  refine TS.ret' (by kernel_rfl) ?_
  have hF := Option.some.inj hF
  subst hF
  exact ⟨.inr rfl, rfl, accV 0 (List.length r143), by kernel_rfl, WkV.made (L := 0) (f := [0]) (by decide) (by decide) rfl (.cons (At.acc (by kernel_rfl) rfl (fun _ => rfl)) (.nil _)) (Rn.acc (Nat.le_of_ble_eq_true rfl) rfl)⟩
theorem C42 (p0 : Int) (p1 : Int) (p2 : Int) (p3 : Int) (p4 : Int) (p5 : Int) (p6 : Int) (r : (List (Int × Int))) (hF : F42 p0 p1 p2 p3 p4 p5 p6 = some r) : PureSim Try.prog 42 [.agg ⟨[.int .i64 p0, .int .i64 p1, .int .i64 p2, .int .i64 p3]⟩, .agg ⟨[.int .i64 p4, .int .i64 p5]⟩, .int .i64 p6] [] (V42 0 r) (N42 0 r) :=
  PureSim.of_Fin Try.func42 (c := c42) (by kernel_rfl) (by kernel_rfl) 0 rfl [0, 1, 2] [] (by kernel_rfl) (B42 p0 p1 p2 p3 p4 p5 p6 r hF)

end Go.Proofs.Ytenjelagfbceeaa
