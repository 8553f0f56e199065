/- What functions of the program compute, and that they do. -/
import Derived.Test.YthpfffijnkmdgaaCS
set_option linter.unusedVariables false
set_option linter.unusedSimpArgs false
set_option maxRecDepth 100000
set_option maxHeartbeats 4000000
namespace Go.Proofs.Ythpfffijnkmdgaa
open Go Go.Cl
noncomputable section
noncomputable def c81 : Code := Try.f81.code
def F81 (p0 : Int) (p1 : Int) : Option Int :=
 some p0
def V81 (b : Nat) (r : Int) : Value := iv r
def N81 (b : Nat) (r : Int) : List Blk := []
theorem B81 (p0 : Int) (p1 : Int) (r : Int) (hF : F81 p0 p1 = some r) : TS Try.prog 0 0 c81 (st 5 [(0, ag [iv p0, iv p1])]) [] (NX Try.prog 0 0 [] (FinP Try.prog Try.f81 0 (V81 0 r) (N81 0 r))) := by
 unfold F81 at hF
 refine TS.sq (TS.rg (TI.rn 2 [1] [0] (st 5 [(1, pt 0 0)]) [cl 90 [iv p0, iv p1]] (TI.dn (NX.sq (TS.sq (TS.rg (TI.rn 3 [2] [] (st 5 [(2, iv p0)]) [.dead] (TI.dn ?_))))))))
 refine NX.sq (TS.rt ?_)
 have hF := Option.some.inj hF
 subst hF
 exact ⟨.inr rfl, rfl, iv p0, by kernel_rfl, WkV.flat0 (by kernel_rfl) (Nat.le_of_ble_eq_true rfl)⟩
theorem C81 (p0 : Int) (p1 : Int) (r : Int) (hF : F81 p0 p1 = some r) : PureSim Try.prog 81 [ag [iv p0, iv p1]] [] (V81 0 r) (N81 0 r) :=
 PureSim.of_Fin Try.func81 (c := c81) (by kernel_rfl) (by kernel_rfl) 0 rfl [0] [] (by kernel_rfl) (B81 p0 p1 r hF)
noncomputable def c80 : Code := Try.f80.code
def S80_0 (v8 : (List (Int × Int))) (p0 : (List (Int × (Int × Int)))) (v7 : Int) (o20 : (Int × (Int × Int))) (r22 : Int) : CAct := (st 26 [(1, .func (.func 81) ⟨[]⟩ ⟨[]⟩), (5, accV 1 v8.length), (7, pt 2 0), (8, sv 0 p0.length ANY), (9, iv (p0.length : Int)), (10, iv v7), (14, accV 1 v8.length), (15, pt 2 0), (16, iv o20.1), (17, .func (.func 81) ⟨[]⟩ ⟨[]⟩), (18, pt 2 1), (19, ag [iv o20.2.1, iv o20.2.2]), (20, iv r22), (21, ag [iv o20.1, iv r22]), (22, sv 3 1 1)])
def S80_1 (v8 : (List (Int × Int))) (p0 : (List (Int × (Int × Int)))) (v7 : Int) : CAct := (st 26 [(1, .func (.func 81) ⟨[]⟩ ⟨[]⟩), (5, accV 1 v8.length), (8, sv 0 p0.length ANY), (9, iv (p0.length : Int)), (10, iv v7)])
def H80_2 (p0 : (List (Int × (Int × Int)))) (v8 : (List (Int × Int))) (o20 : (Int × (Int × Int))) : List Blk := [ab 92 e92 p0, ab 55 e55 v8, cl 92 [iv o20.1, iv o20.2.1, iv o20.2.2]]
def H80_3 (p0 : (List (Int × (Int × Int)))) (v8 : (List (Int × Int))) : List Blk := [ab 92 e92 p0, ab 55 e55 v8]
def F80l0 (p0 : (List (Int × (Int × Int)))) (v8 : (List (Int × Int))) (v7 : Int) : Option (List (Int × Int)) :=
 if decide (v7 < (p0.length : Int)) then
  if (0 : Int) ≤ v7 ∧ v7 < (p0.length : Int) then
   some (List.getD p0 (Int.toNat v7) (0, (0, 0))) >>= fun o20 =>
   F81 o20.2.1 o20.2.2 >>= fun r22 =>
   if List.length v8 ≤ 1000000000 then
    F80l0 p0 (v8 ++ [(o20.1, r22)]) (w64 (v7 + 1))
   else none
  else none
 else
  some v8
 partial_fixpoint
def F80 (p0 : (List (Int × (Int × Int)))) : Option (List (Int × Int)) :=
 F80l0 p0 ([]) 0 >>= fun r25 =>
 some r25
def V80 (b : Nat) (r : (List (Int × Int))) : Value := accV (b + 0) r.length
def N80 (b : Nat) (r : (List (Int × Int))) : List Blk := [ab 55 e55 r]
def P80l0 (p0 : (List (Int × (Int × Int)))) (r : (List (Int × Int))) : Post := fun e a h => e = .exit 0 ∧ Wk Try.prog 1 1 a h (st 26 [(5, accV 1 r.length)]) [ab 92 e92 p0, ab 55 e55 r]
theorem L80l0 (p0 : (List (Int × (Int × Int)))) (v8 : (List (Int × Int))) (v7 : Int) (r : (List (Int × Int))) (hF : F80l0 p0 v8 v7 = some r) : TL Try.prog 1 1 c80.s2.s2.s1.s2.bd.bd (S80_1 v8 p0 v7) (H80_3 p0 v8) (P80l0 p0 r) := by
 refine F80l0.partial_correctness p0 (motive := fun v8 v7 r => TL Try.prog 1 1 c80.s2.s2.s1.s2.bd.bd (S80_1 v8 p0 v7) (H80_3 p0 v8) (P80l0 p0 r)) ?_ v8 v7 r hF
 clear hF r v8 v7
 intro again ih v8 v7 r hF
 refine TL.round (TS.sq (TS.rg (TI.ra 1 [1, 5, 8, 9, 10, 11] (st 26 [(1, .func (.func 81) ⟨[]⟩ ⟨[]⟩), (5, accV 1 v8.length), (8, sv 0 p0.length ANY), (9, iv (p0.length : Int)), (10, iv v7), (11, .bool (decide (v7 < (p0.length : Int))))]) (TI.dn (NX.sq (TS.sq ?_))))))
 refine TS.cd (.tmp 11) (decide (v7 < (p0.length : Int))) (fun hc18 => ?_) (fun hc18 => ?_)
 · replace hF := of_pos hF hc18
   refine TS.sk (NX.sq (TS.sq (TS.bk 1 (TS.sq ?_))))
   have hX := of_guard hF
   clear hF
   obtain ⟨hg19, hF⟩ := hX
   have hX := of_do hF
   clear hF
   obtain ⟨o20, h21, hF⟩ := hX
   replace h21 := Option.some.inj h21
   refine TS.rg (TI.o { val := .pointer (some ⟨0, 0 + (Int.toNat v7) * 3, none⟩) } (q_ixS 0 0 ((Int.toNat v7) * 3) (by kernel_rfl) hg19) [1, 5, 8, 9, 10, 12] [0, 1] (st 26 [(1, .func (.func 81) ⟨[]⟩ ⟨[]⟩), (5, accV 1 v8.length), (8, sv 0 p0.length ANY), (9, iv (p0.length : Int)), (10, iv v7), (12, .pointer (some ⟨0, 0 + (Int.toNat v7) * 3, none⟩))]) (H80_3 p0 v8) (TI.o { val := ag [iv o20.1, iv o20.2.1, iv o20.2.2] } (q_nAa Try.prog (H80_3 p0 v8) 92 0 (0 + (Int.toNat v7) * 3) p0 e92 3 92 (Int.toNat v7) (0, (0, 0)) h21) [1, 5, 8, 9, 10, 13] [0, 1] (st 26 [(1, .func (.func 81) ⟨[]⟩ ⟨[]⟩), (5, accV 1 v8.length), (8, sv 0 p0.length ANY), (9, iv (p0.length : Int)), (10, iv v7), (13, ag [iv o20.1, iv o20.2.1, iv o20.2.2])]) (H80_3 p0 v8) (TI.rn 2 [1, 5, 7, 8, 9, 10] [0, 1, 2] (st 26 [(1, .func (.func 81) ⟨[]⟩ ⟨[]⟩), (5, accV 1 v8.length), (7, pt 2 0), (8, sv 0 p0.length ANY), (9, iv (p0.length : Int)), (10, iv v7)]) (H80_2 p0 v8 o20) (TI.dn (NX.sq ?_)))))
   have hX := of_do hF
   clear hF
   obtain ⟨r22, h23, hF⟩ := hX
   have hX := of_guard hF
   clear hF
   obtain ⟨hg24, hF⟩ := hX
   have hT : ∀ e ∈ ([⟨81, [ag [iv o20.2.1, iv o20.2.2]], (H80_2 p0 v8 o20), iv r22, []⟩] : List Entry), PureSim Try.prog e.g e.args e.h e.v e.new := by
    intro e he
    simp only [List.mem_cons, List.not_mem_nil, or_false] at he
    rcases he with rfl
    exact PureSim.ak (C81 _ _ _ h23)
   refine TS.drawT [⟨81, [ag [iv o20.2.1, iv o20.2.2]], (H80_2 p0 v8 o20), iv r22, []⟩] hT mixed 9 [] (S80_0 v8 p0 v7 o20 r22) [ab 92 e92 p0, ab 55 e55 v8, cl 92 [iv o20.1, iv o20.2.1, iv o20.2.2], cl 55 [iv o20.1, iv r22]] ?_ ?_
   · exact QJ.rn (qs (st 26 [(1, .func (.func 81) ⟨[]⟩ ⟨[]⟩), (5, accV 1 v8.length), (7, pt 2 0), (8, sv 0 p0.length ANY), (9, iv (p0.length : Int)), (10, iv v7), (14, accV 1 v8.length), (15, pt 2 0), (16, iv o20.1), (17, .func (.func 81) ⟨[]⟩ ⟨[]⟩), (18, pt 2 1), (19, ag [iv o20.2.1, iv o20.2.2])]) (H80_2 p0 v8 o20) [] []) 6 (QJ.o { val := iv r22, new := [] } (qOf_call (g := 81) (args := [ag [iv o20.2.1, iv o20.2.2]]) (by kernel_rfl) lookC_hit) (QJ.rn (qs (S80_0 v8 p0 v7 o20 r22) [ab 92 e92 p0, ab 55 e55 v8, cl 92 [iv o20.1, iv o20.2.1, iv o20.2.2], cl 55 [iv o20.1, iv r22]] [(8, 3, 4)] []) 2 (QJ.dn ⟨by kernel_rfl, by kernel_rfl, by kernel_rfl⟩)))
   refine TI.rn 0 [1, 8, 9, 10, 14, 22] [0, 1, 3] (st 26 [(1, .func (.func 81) ⟨[]⟩ ⟨[]⟩), (8, sv 0 p0.length ANY), (9, iv (p0.length : Int)), (10, iv v7), (14, accV 1 v8.length), (22, sv 3 1 1)]) [ab 92 e92 p0, ab 55 e55 v8, .dead, cl 55 [iv o20.1, iv r22]] (TI.acc (l := v8) (b := 1) (ts := #[23, 23]) (e := 55) (bytes := 16) (z := ag [iv 0, iv 0]) (y := sv 3 1 1) (ys := [(o20.1, r22)]) (xs := List.flatMap e55 ([(o20.1, r22)])) (m := 1) (s := 2) (enc := e55) (by kernel_rfl) (by kernel_rfl) (by decide) (by kernel_rfl) (by kernel_rfl) (by kernel_rfl) (by kernel_rfl) (by kernel_rfl) (by kernel_rfl) (by kernel_rfl) (by kernel_rfl) (fun _ => rfl) rfl rfl (by omega) [1, 8, 9, 10, 23] [0, 4] (a2 := (st 26 [(1, .func (.func 81) ⟨[]⟩ ⟨[]⟩), (8, sv 0 p0.length ANY), (9, iv (p0.length : Int)), (10, iv v7), (23, sv 4 (List.length (v8 ++ [(o20.1, r22)])) UNK)])) (h2 := [ab 92 e92 p0, .dead, .dead, .dead, .cells 55 (List.flatMap e55 (v8 ++ [(o20.1, r22)]))]) (by kernel_rfl) (TI.ra 1 [1, 5, 8, 9, 10] (st 26 [(1, .func (.func 81) ⟨[]⟩ ⟨[]⟩), (5, sv 4 (List.length (v8 ++ [(o20.1, r22)])) UNK), (8, sv 0 p0.length ANY), (9, iv (p0.length : Int)), (10, iv v7)]) (TI.dn (NX.bk (NX.sq (TS.rg (TI.ra 2 [1, 5, 8, 9, 10] (st 26 [(1, .func (.func 81) ⟨[]⟩ ⟨[]⟩), (5, sv 4 (List.length (v8 ++ [(o20.1, r22)])) UNK), (8, sv 0 p0.length ANY), (9, iv (p0.length : Int)), (10, iv (w64 (v7 + 1)))]) (TI.dn ?_))))))))
   exact Rd.again (a2 := (st 26 [(1, .func (.func 81) ⟨[]⟩ ⟨[]⟩), (5, accV 1 (List.length (v8 ++ [(o20.1, r22)]))), (8, sv 0 p0.length ANY), (9, iv (p0.length : Int)), (10, iv (w64 (v7 + 1)))])) (h2 := [ab 92 e92 p0, accB 55 (List.length (v8 ++ [(o20.1, r22)])) (List.flatMap e55 (v8 ++ [(o20.1, r22)]))]) (Wk.an [4] (.ac (.cons (At.accU (by kernel_rfl) rfl (fun _ => rfl)) (.nil _))) [.func (.func 81) ⟨[]⟩ ⟨[]⟩, sv 4 (List.length (v8 ++ [(o20.1, r22)])) UNK, sv 0 p0.length ANY, iv (p0.length : Int), iv (w64 (v7 + 1))] (.cons (Rn.func' .nil .nil) (.cons (Rn.accU (Nat.le_of_ble_eq_true rfl) rfl (by simp)) (.sl (.fl (.fl .nil)))))) (ih (v8 ++ [(o20.1, r22)]) (w64 (v7 + 1)) _ hF)
 replace hF := of_neg hF hc18
 refine TS.ex 0 (NX.sqX ?_)
 have hF := Option.some.inj hF
 subst hF
 exact Rd.out (e := .exit 0) (by intro h; cases h) (And.intro rfl (Wk.an [1] (.ac (.ac (.nil _))) [accV 1 v8.length] (.cons (Rn.acc (Nat.le_of_ble_eq_true rfl) rfl) .nil)))
theorem B80 (p0 : (List (Int × (Int × Int)))) (r : (List (Int × Int))) (hF : F80 p0 = some r) : TS Try.prog 1 1 c80 (st 26 [(0, sv 0 p0.length ANY), (1, .func (.func 81) ⟨[]⟩ ⟨[]⟩)]) [ab 92 e92 p0] (NX Try.prog 1 1 [] (FinP Try.prog Try.f80 1 (V80 1 r) (N80 1 r))) := by
 unfold F80 at hF
 refine TS.sq (TS.rg (TI.ra 1 [0, 1] (st 26 [(0, sv 0 p0.length ANY), (1, .func (.func 81) ⟨[]⟩ ⟨[]⟩)]) (TI.dn (NX.sq (TS.sq (TS.rg (TI.ra 1 [0, 1, 5] (st 26 [(0, sv 0 p0.length ANY), (1, .func (.func 81) ⟨[]⟩ ⟨[]⟩), (5, .slice none 0 0)]) (TI.dn ?_))))))))
 refine NX.sq (TS.sq (TS.sq (TS.rg (TI.ra 3 [1, 5, 8, 9, 10] (st 26 [(1, .func (.func 81) ⟨[]⟩ ⟨[]⟩), (5, .slice none 0 0), (8, sv 0 p0.length ANY), (9, iv (p0.length : Int)), (10, iv 0)]) (TI.dn (NX.sq (TS.bk 0 ?_)))))))
 have hX := of_do hF
 clear hF
 obtain ⟨r25, h26, hF⟩ := hX
 refine TS.lp (TL.weak (a2 := (st 26 [(1, .func (.func 81) ⟨[]⟩ ⟨[]⟩), (5, accV 1 (List.length ([]))), (8, sv 0 p0.length ANY), (9, iv (p0.length : Int)), (10, iv 0)])) (h2 := [ab 92 e92 p0, accB 55 (List.length ([])) (List.flatMap e55 ([]))]) (Wk.an [1] (.ac (.cons At.accN (.nil _))) [.func (.func 81) ⟨[]⟩ ⟨[]⟩, .slice none 0 0, sv 0 p0.length ANY, iv (p0.length : Int), iv 0] (.cons (Rn.func' .nil .nil) (.cons (Rn.accN) (.sl (.fl (.fl .nil)))))) (TL.post (L80l0 p0 ([]) 0 r25 h26) ?_))
 rintro e a1 h1 hp
 obtain ⟨rfl, hw⟩ := hp
 refine ⟨(st 26 [(5, accV 1 r25.length)]), [ab 92 e92 p0, ab 55 e55 r25], (NX.bkX (NX.sq (TS.sq (TS.rg (TI.ra 2 [4] (st 26 [(4, accV 1 r25.length)]) (TI.dn (NX.sq (TS.rt ?_)))))))), hw⟩
 have hF := Option.some.inj hF
 subst hF
 exact ⟨.inr rfl, rfl, accV 1 r25.length, by kernel_rfl, WkV.made (L := 1) (f := [1]) (by decide) (by decide) rfl (.ac (.nil _)) (Rn.acc (Nat.le_of_ble_eq_true rfl) rfl)⟩
theorem C80 (p0 : (List (Int × (Int × Int)))) (r : (List (Int × Int))) (hF : F80 p0 = some r) : PureSim Try.prog 80 [sv 0 p0.length ANY, .func (.func 81) ⟨[]⟩ ⟨[]⟩] [ab 92 e92 p0] (V80 1 r) (N80 1 r) :=
 PureSim.of_Fin Try.func80 (c := c80) (by kernel_rfl) (by kernel_rfl) 1 rfl [0, 1] [0] (by kernel_rfl) (B80 p0 r hF)
noncomputable def c82 : Code := Try.f82.code
def F82 (p0 : Int) (p1 : Int) : Option Int :=
 some p1
def V82 (b : Nat) (r : Int) : Value := iv r
def N82 (b : Nat) (r : Int) : List Blk := []
theorem B82 (p0 : Int) (p1 : Int) (r : Int) (hF : F82 p0 p1 = some r) : TS Try.prog 0 0 c82 (st 5 [(0, ag [iv p0, iv p1])]) [] (NX Try.prog 0 0 [] (FinP Try.prog Try.f82 0 (V82 0 r) (N82 0 r))) := by
 unfold F82 at hF
 refine TS.sq (TS.rg (TI.rn 2 [1] [0] (st 5 [(1, pt 0 0)]) [cl 90 [iv p0, iv p1]] (TI.dn (NX.sq (TS.sq (TS.rg (TI.rn 3 [2] [] (st 5 [(2, iv p1)]) [.dead] (TI.dn ?_))))))))
 refine NX.sq (TS.rt ?_)
 have hF := Option.some.inj hF
 subst hF
 exact ⟨.inr rfl, rfl, iv p1, by kernel_rfl, WkV.flat0 (by kernel_rfl) (Nat.le_of_ble_eq_true rfl)⟩
theorem C82 (p0 : Int) (p1 : Int) (r : Int) (hF : F82 p0 p1 = some r) : PureSim Try.prog 82 [ag [iv p0, iv p1]] [] (V82 0 r) (N82 0 r) :=
 PureSim.of_Fin Try.func82 (c := c82) (by kernel_rfl) (by kernel_rfl) 0 rfl [0] [] (by kernel_rfl) (B82 p0 p1 r hF)
noncomputable def c80k1 : Code := Try.f80.code
def S80k1_0 (v8 : (List (Int × Int))) (p0 : (List (Int × (Int × Int)))) (v7 : Int) (o20 : (Int × (Int × Int))) (r22 : Int) : CAct := (st 26 [(1, .func (.func 82) ⟨[]⟩ ⟨[]⟩), (5, accV 1 v8.length), (7, pt 2 0), (8, sv 0 p0.length ANY), (9, iv (p0.length : Int)), (10, iv v7), (14, accV 1 v8.length), (15, pt 2 0), (16, iv o20.1), (17, .func (.func 82) ⟨[]⟩ ⟨[]⟩), (18, pt 2 1), (19, ag [iv o20.2.1, iv o20.2.2]), (20, iv r22), (21, ag [iv o20.1, iv r22]), (22, sv 3 1 1)])
def S80k1_1 (v8 : (List (Int × Int))) (p0 : (List (Int × (Int × Int)))) (v7 : Int) : CAct := (st 26 [(1, .func (.func 82) ⟨[]⟩ ⟨[]⟩), (5, accV 1 v8.length), (8, sv 0 p0.length ANY), (9, iv (p0.length : Int)), (10, iv v7)])
def H80k1_2 (p0 : (List (Int × (Int × Int)))) (v8 : (List (Int × Int))) (o20 : (Int × (Int × Int))) : List Blk := [ab 92 e92 p0, ab 55 e55 v8, cl 92 [iv o20.1, iv o20.2.1, iv o20.2.2]]
def H80k1_3 (p0 : (List (Int × (Int × Int)))) (v8 : (List (Int × Int))) : List Blk := [ab 92 e92 p0, ab 55 e55 v8]
def F80k1l0 (p0 : (List (Int × (Int × Int)))) (v8 : (List (Int × Int))) (v7 : Int) : Option (List (Int × Int)) :=
 if decide (v7 < (p0.length : Int)) then
  if (0 : Int) ≤ v7 ∧ v7 < (p0.length : Int) then
   some (List.getD p0 (Int.toNat v7) (0, (0, 0))) >>= fun o20 =>
   F82 o20.2.1 o20.2.2 >>= fun r22 =>
   if List.length v8 ≤ 1000000000 then
    F80k1l0 p0 (v8 ++ [(o20.1, r22)]) (w64 (v7 + 1))
   else none
  else none
 else
  some v8
 partial_fixpoint
def F80k1 (p0 : (List (Int × (Int × Int)))) : Option (List (Int × Int)) :=
 F80k1l0 p0 ([]) 0 >>= fun r25 =>
 some r25
def V80k1 (b : Nat) (r : (List (Int × Int))) : Value := accV (b + 0) r.length
def N80k1 (b : Nat) (r : (List (Int × Int))) : List Blk := [ab 55 e55 r]
def P80k1l0 (p0 : (List (Int × (Int × Int)))) (r : (List (Int × Int))) : Post := fun e a h => e = .exit 0 ∧ Wk Try.prog 1 1 a h (st 26 [(5, accV 1 r.length)]) [ab 92 e92 p0, ab 55 e55 r]
theorem L80k1l0 (p0 : (List (Int × (Int × Int)))) (v8 : (List (Int × Int))) (v7 : Int) (r : (List (Int × Int))) (hF : F80k1l0 p0 v8 v7 = some r) : TL Try.prog 1 1 c80k1.s2.s2.s1.s2.bd.bd (S80k1_1 v8 p0 v7) (H80k1_3 p0 v8) (P80k1l0 p0 r) := by
 refine F80k1l0.partial_correctness p0 (motive := fun v8 v7 r => TL Try.prog 1 1 c80k1.s2.s2.s1.s2.bd.bd (S80k1_1 v8 p0 v7) (H80k1_3 p0 v8) (P80k1l0 p0 r)) ?_ v8 v7 r hF
 clear hF r v8 v7
 intro again ih v8 v7 r hF
 refine TL.round (TS.sq (TS.rg (TI.ra 1 [1, 5, 8, 9, 10, 11] (st 26 [(1, .func (.func 82) ⟨[]⟩ ⟨[]⟩), (5, accV 1 v8.length), (8, sv 0 p0.length ANY), (9, iv (p0.length : Int)), (10, iv v7), (11, .bool (decide (v7 < (p0.length : Int))))]) (TI.dn (NX.sq (TS.sq ?_))))))
 refine TS.cd (.tmp 11) (decide (v7 < (p0.length : Int))) (fun hc18 => ?_) (fun hc18 => ?_)
 · replace hF := of_pos hF hc18
   refine TS.sk (NX.sq (TS.sq (TS.bk 1 (TS.sq ?_))))
   have hX := of_guard hF
   clear hF
   obtain ⟨hg19, hF⟩ := hX
   have hX := of_do hF
   clear hF
   obtain ⟨o20, h21, hF⟩ := hX
   replace h21 := Option.some.inj h21
   refine TS.rg (TI.o { val := .pointer (some ⟨0, 0 + (Int.toNat v7) * 3, none⟩) } (q_ixS 0 0 ((Int.toNat v7) * 3) (by kernel_rfl) hg19) [1, 5, 8, 9, 10, 12] [0, 1] (st 26 [(1, .func (.func 82) ⟨[]⟩ ⟨[]⟩), (5, accV 1 v8.length), (8, sv 0 p0.length ANY), (9, iv (p0.length : Int)), (10, iv v7), (12, .pointer (some ⟨0, 0 + (Int.toNat v7) * 3, none⟩))]) (H80k1_3 p0 v8) (TI.o { val := ag [iv o20.1, iv o20.2.1, iv o20.2.2] } (q_nAa Try.prog (H80k1_3 p0 v8) 92 0 (0 + (Int.toNat v7) * 3) p0 e92 3 92 (Int.toNat v7) (0, (0, 0)) h21) [1, 5, 8, 9, 10, 13] [0, 1] (st 26 [(1, .func (.func 82) ⟨[]⟩ ⟨[]⟩), (5, accV 1 v8.length), (8, sv 0 p0.length ANY), (9, iv (p0.length : Int)), (10, iv v7), (13, ag [iv o20.1, iv o20.2.1, iv o20.2.2])]) (H80k1_3 p0 v8) (TI.rn 2 [1, 5, 7, 8, 9, 10] [0, 1, 2] (st 26 [(1, .func (.func 82) ⟨[]⟩ ⟨[]⟩), (5, accV 1 v8.length), (7, pt 2 0), (8, sv 0 p0.length ANY), (9, iv (p0.length : Int)), (10, iv v7)]) (H80k1_2 p0 v8 o20) (TI.dn (NX.sq ?_)))))
   have hX := of_do hF
   clear hF
   obtain ⟨r22, h23, hF⟩ := hX
   have hX := of_guard hF
   clear hF
   obtain ⟨hg24, hF⟩ := hX
   have hT : ∀ e ∈ ([⟨82, [ag [iv o20.2.1, iv o20.2.2]], (H80k1_2 p0 v8 o20), iv r22, []⟩] : List Entry), PureSim Try.prog e.g e.args e.h e.v e.new := by
    intro e he
    simp only [List.mem_cons, List.not_mem_nil, or_false] at he
    rcases he with rfl
    exact PureSim.ak (C82 _ _ _ h23)
   refine TS.drawT [⟨82, [ag [iv o20.2.1, iv o20.2.2]], (H80k1_2 p0 v8 o20), iv r22, []⟩] hT mixed 9 [] (S80k1_0 v8 p0 v7 o20 r22) [ab 92 e92 p0, ab 55 e55 v8, cl 92 [iv o20.1, iv o20.2.1, iv o20.2.2], cl 55 [iv o20.1, iv r22]] ?_ ?_
   · exact QJ.rn (qs (st 26 [(1, .func (.func 82) ⟨[]⟩ ⟨[]⟩), (5, accV 1 v8.length), (7, pt 2 0), (8, sv 0 p0.length ANY), (9, iv (p0.length : Int)), (10, iv v7), (14, accV 1 v8.length), (15, pt 2 0), (16, iv o20.1), (17, .func (.func 82) ⟨[]⟩ ⟨[]⟩), (18, pt 2 1), (19, ag [iv o20.2.1, iv o20.2.2])]) (H80k1_2 p0 v8 o20) [] []) 6 (QJ.o { val := iv r22, new := [] } (qOf_call (g := 82) (args := [ag [iv o20.2.1, iv o20.2.2]]) (by kernel_rfl) lookC_hit) (QJ.rn (qs (S80k1_0 v8 p0 v7 o20 r22) [ab 92 e92 p0, ab 55 e55 v8, cl 92 [iv o20.1, iv o20.2.1, iv o20.2.2], cl 55 [iv o20.1, iv r22]] [(8, 3, 4)] []) 2 (QJ.dn ⟨by kernel_rfl, by kernel_rfl, by kernel_rfl⟩)))
   refine TI.rn 0 [1, 8, 9, 10, 14, 22] [0, 1, 3] (st 26 [(1, .func (.func 82) ⟨[]⟩ ⟨[]⟩), (8, sv 0 p0.length ANY), (9, iv (p0.length : Int)), (10, iv v7), (14, accV 1 v8.length), (22, sv 3 1 1)]) [ab 92 e92 p0, ab 55 e55 v8, .dead, cl 55 [iv o20.1, iv r22]] (TI.acc (l := v8) (b := 1) (ts := #[23, 23]) (e := 55) (bytes := 16) (z := ag [iv 0, iv 0]) (y := sv 3 1 1) (ys := [(o20.1, r22)]) (xs := List.flatMap e55 ([(o20.1, r22)])) (m := 1) (s := 2) (enc := e55) (by kernel_rfl) (by kernel_rfl) (by decide) (by kernel_rfl) (by kernel_rfl) (by kernel_rfl) (by kernel_rfl) (by kernel_rfl) (by kernel_rfl) (by kernel_rfl) (by kernel_rfl) (fun _ => rfl) rfl rfl (by omega) [1, 8, 9, 10, 23] [0, 4] (a2 := (st 26 [(1, .func (.func 82) ⟨[]⟩ ⟨[]⟩), (8, sv 0 p0.length ANY), (9, iv (p0.length : Int)), (10, iv v7), (23, sv 4 (List.length (v8 ++ [(o20.1, r22)])) UNK)])) (h2 := [ab 92 e92 p0, .dead, .dead, .dead, .cells 55 (List.flatMap e55 (v8 ++ [(o20.1, r22)]))]) (by kernel_rfl) (TI.ra 1 [1, 5, 8, 9, 10] (st 26 [(1, .func (.func 82) ⟨[]⟩ ⟨[]⟩), (5, sv 4 (List.length (v8 ++ [(o20.1, r22)])) UNK), (8, sv 0 p0.length ANY), (9, iv (p0.length : Int)), (10, iv v7)]) (TI.dn (NX.bk (NX.sq (TS.rg (TI.ra 2 [1, 5, 8, 9, 10] (st 26 [(1, .func (.func 82) ⟨[]⟩ ⟨[]⟩), (5, sv 4 (List.length (v8 ++ [(o20.1, r22)])) UNK), (8, sv 0 p0.length ANY), (9, iv (p0.length : Int)), (10, iv (w64 (v7 + 1)))]) (TI.dn ?_))))))))
   exact Rd.again (a2 := (st 26 [(1, .func (.func 82) ⟨[]⟩ ⟨[]⟩), (5, accV 1 (List.length (v8 ++ [(o20.1, r22)]))), (8, sv 0 p0.length ANY), (9, iv (p0.length : Int)), (10, iv (w64 (v7 + 1)))])) (h2 := [ab 92 e92 p0, accB 55 (List.length (v8 ++ [(o20.1, r22)])) (List.flatMap e55 (v8 ++ [(o20.1, r22)]))]) (Wk.an [4] (.ac (.cons (At.accU (by kernel_rfl) rfl (fun _ => rfl)) (.nil _))) [.func (.func 82) ⟨[]⟩ ⟨[]⟩, sv 4 (List.length (v8 ++ [(o20.1, r22)])) UNK, sv 0 p0.length ANY, iv (p0.length : Int), iv (w64 (v7 + 1))] (.cons (Rn.func' .nil .nil) (.cons (Rn.accU (Nat.le_of_ble_eq_true rfl) rfl (by simp)) (.sl (.fl (.fl .nil)))))) (ih (v8 ++ [(o20.1, r22)]) (w64 (v7 + 1)) _ hF)
 replace hF := of_neg hF hc18
 refine TS.ex 0 (NX.sqX ?_)
 have hF := Option.some.inj hF
 subst hF
 exact Rd.out (e := .exit 0) (by intro h; cases h) (And.intro rfl (Wk.an [1] (.ac (.ac (.nil _))) [accV 1 v8.length] (.cons (Rn.acc (Nat.le_of_ble_eq_true rfl) rfl) .nil)))
theorem B80k1 (p0 : (List (Int × (Int × Int)))) (r : (List (Int × Int))) (hF : F80k1 p0 = some r) : TS Try.prog 1 1 c80k1 (st 26 [(0, sv 0 p0.length ANY), (1, .func (.func 82) ⟨[]⟩ ⟨[]⟩)]) [ab 92 e92 p0] (NX Try.prog 1 1 [] (FinP Try.prog Try.f80 1 (V80k1 1 r) (N80k1 1 r))) := by
 unfold F80k1 at hF
 refine TS.sq (TS.rg (TI.ra 1 [0, 1] (st 26 [(0, sv 0 p0.length ANY), (1, .func (.func 82) ⟨[]⟩ ⟨[]⟩)]) (TI.dn (NX.sq (TS.sq (TS.rg (TI.ra 1 [0, 1, 5] (st 26 [(0, sv 0 p0.length ANY), (1, .func (.func 82) ⟨[]⟩ ⟨[]⟩), (5, .slice none 0 0)]) (TI.dn ?_))))))))
 refine NX.sq (TS.sq (TS.sq (TS.rg (TI.ra 3 [1, 5, 8, 9, 10] (st 26 [(1, .func (.func 82) ⟨[]⟩ ⟨[]⟩), (5, .slice none 0 0), (8, sv 0 p0.length ANY), (9, iv (p0.length : Int)), (10, iv 0)]) (TI.dn (NX.sq (TS.bk 0 ?_)))))))
 have hX := of_do hF
 clear hF
 obtain ⟨r25, h26, hF⟩ := hX
 refine TS.lp (TL.weak (a2 := (st 26 [(1, .func (.func 82) ⟨[]⟩ ⟨[]⟩), (5, accV 1 (List.length ([]))), (8, sv 0 p0.length ANY), (9, iv (p0.length : Int)), (10, iv 0)])) (h2 := [ab 92 e92 p0, accB 55 (List.length ([])) (List.flatMap e55 ([]))]) (Wk.an [1] (.ac (.cons At.accN (.nil _))) [.func (.func 82) ⟨[]⟩ ⟨[]⟩, .slice none 0 0, sv 0 p0.length ANY, iv (p0.length : Int), iv 0] (.cons (Rn.func' .nil .nil) (.cons (Rn.accN) (.sl (.fl (.fl .nil)))))) (TL.post (L80k1l0 p0 ([]) 0 r25 h26) ?_))
 rintro e a1 h1 hp
 obtain ⟨rfl, hw⟩ := hp
 refine ⟨(st 26 [(5, accV 1 r25.length)]), [ab 92 e92 p0, ab 55 e55 r25], (NX.bkX (NX.sq (TS.sq (TS.rg (TI.ra 2 [4] (st 26 [(4, accV 1 r25.length)]) (TI.dn (NX.sq (TS.rt ?_)))))))), hw⟩
 have hF := Option.some.inj hF
 subst hF
 exact ⟨.inr rfl, rfl, accV 1 r25.length, by kernel_rfl, WkV.made (L := 1) (f := [1]) (by decide) (by decide) rfl (.ac (.nil _)) (Rn.acc (Nat.le_of_ble_eq_true rfl) rfl)⟩
theorem C80k1 (p0 : (List (Int × (Int × Int)))) (r : (List (Int × Int))) (hF : F80k1 p0 = some r) : PureSim Try.prog 80 [sv 0 p0.length ANY, .func (.func 82) ⟨[]⟩ ⟨[]⟩] [ab 92 e92 p0] (V80k1 1 r) (N80k1 1 r) :=
 PureSim.of_Fin Try.func80 (c := c80k1) (by kernel_rfl) (by kernel_rfl) 1 rfl [0, 1] [0] (by kernel_rfl) (B80k1 p0 r hF)
noncomputable def c78 : Code := Try.f78.code
def S78_0 (p0 : (List (Int × (Int × Int)))) (r1 : (List (Int × Int))) (r3 : (List (Int × Int))) (v26 : Int) (m60 : Int) : CAct := (st 57 [(0, sv 0 p0.length ANY), (3, accV 1 r1.length), (4, accV 2 r3.length), (5, iv v26), (6, iv (Int.tmod (w64 (v26 + 1)) (p0.length : Int))), (7, iv m60), (13, iv (p0.length : Int)), (14, iv v26), (38, iv (Int.tmod (w64 (v26 + 1)) (p0.length : Int))), (39, iv v26)])
def H78_1 (p0 : (List (Int × (Int × Int)))) (r1 : (List (Int × Int))) (r3 : (List (Int × Int))) : List Blk := [ab 92 e92 p0, ab 55 e55 r1, ab 55 e55 r3]
def F78l0 (p0 : (List (Int × (Int × Int)))) (r1 : (List (Int × Int))) (r3 : (List (Int × Int))) (v26 : Int) : Option (Unit ⊕ Unit) :=
 if decide (v26 < (p0.length : Int)) then
  if (p0.length : Int) = 0 then none else
  if (0 : Int) ≤ Int.tmod (w64 (v26 + 1)) (p0.length : Int) ∧ Int.tmod (w64 (v26 + 1)) (p0.length : Int) < (r1.length : Int) then
   some (List.getD r1 (Int.toNat (Int.tmod (w64 (v26 + 1)) (p0.length : Int))) (0, 0)) >>= fun o52 =>
   if (0 : Int) ≤ v26 ∧ v26 < (r1.length : Int) then
    some (List.getD r1 (Int.toNat v26) (0, 0)) >>= fun o55 =>
    (
     if decide ((Int.tmod (w64 (v26 + 1)) (p0.length : Int)) ≤ v26) then
      some (w64 ((w64 (o52.1 - o55.1)) + 3600))
     else
      some (w64 (o52.1 - o55.1))
    : Option Int) >>= fun m60 =>
    (
     if (Int.tmod (w64 (v26 + 1)) (p0.length : Int)) != v26 then
      if (0 : Int) ≤ v26 ∧ v26 < (r3.length : Int) then
       some (List.getD r3 (Int.toNat v26) (0, 0)) >>= fun o64 =>
       some (decide ((w64 (m60 + o52.2)) ≤ o64.2))
      else none
     else
      some (false)
    : Option Bool) >>= fun m66 =>
    if m66 then
     some (.inl ())
    else
     F78l0 p0 r1 r3 (w64 (v26 + 1))
   else none
  else none
 else
  some (.inr ())
 partial_fixpoint
def F78 (p0 : (List (Int × (Int × Int)))) : Option Bool :=
 F80 p0 >>= fun r1 =>
 F80k1 p0 >>= fun r3 =>
 F78l0 p0 r1 r3 0 >>= fun r69 =>
 match r69 with
 | .inl o71 =>
  some true
 | .inr o72 =>
  some false
def V78 (b : Nat) (r : Bool) : Value := .bool r
def N78 (b : Nat) (r : Bool) : List Blk := []
def P78l0 (p0 : (List (Int × (Int × Int)))) (r1 : (List (Int × Int))) (r3 : (List (Int × Int))) (r : (Unit ⊕ Unit)) : Post := fun e a h => (match r with | .inl q0 => e = .ret ∧ Wk Try.prog 1 1 a h (st 57 [(2, .bool true)]) [ab 92 e92 p0] | .inr q0 => e = .exit 0 ∧ Wk Try.prog 1 1 a h (st 57 []) [ab 92 e92 p0])
theorem L78l0 (p0 : (List (Int × (Int × Int)))) (r1 : (List (Int × Int))) (r3 : (List (Int × Int))) (v26 : Int) (r : (Unit ⊕ Unit)) (hF : F78l0 p0 r1 r3 v26 = some r) : TL Try.prog 1 1 c78.s2.s2.s1.s2.bd.bd (st 57 [(0, sv 0 p0.length ANY), (3, accV 1 r1.length), (4, accV 2 r3.length), (13, iv (p0.length : Int)), (14, iv v26)]) (H78_1 p0 r1 r3) (P78l0 p0 r1 r3 r) := by
 refine F78l0.partial_correctness p0 r1 r3 (motive := fun v26 r => TL Try.prog 1 1 c78.s2.s2.s1.s2.bd.bd (st 57 [(0, sv 0 p0.length ANY), (3, accV 1 r1.length), (4, accV 2 r3.length), (13, iv (p0.length : Int)), (14, iv v26)]) (H78_1 p0 r1 r3) (P78l0 p0 r1 r3 r)) ?_ v26 r hF
 clear hF r v26
 intro again ih v26 r hF
 refine TL.round (TS.sq (TS.rg (TI.ra 1 [0, 3, 4, 13, 14, 15] (st 57 [(0, sv 0 p0.length ANY), (3, accV 1 r1.length), (4, accV 2 r3.length), (13, iv (p0.length : Int)), (14, iv v26), (15, .bool (decide (v26 < (p0.length : Int))))]) (TI.dn (NX.sq (TS.sq ?_))))))
 refine TS.cd (.tmp 15) (decide (v26 < (p0.length : Int))) (fun hc49 => ?_) (fun hc49 => ?_)
 · replace hF := of_pos hF hc49
   refine TS.sk (NX.sq (TS.sq (TS.bk 1 (TS.sq (TS.rg (TI.ra 2 [0, 3, 4, 5, 13, 14] (st 57 [(0, sv 0 p0.length ANY), (3, accV 1 r1.length), (4, accV 2 r3.length), (5, iv v26), (13, iv (p0.length : Int)), (14, iv v26)]) (TI.dn (NX.sq ?_))))))))
   refine TS.sq ?_
   have hX := of_guardn hF
   clear hF
   obtain ⟨hg50, hF⟩ := hX
   refine TS.rg (TI.ra 4 [0, 3, 4, 5, 13, 14, 18, 20] (st 57 [(0, sv 0 p0.length ANY), (3, accV 1 r1.length), (4, accV 2 r3.length), (5, iv v26), (13, iv (p0.length : Int)), (14, iv v26), (18, iv (w64 (v26 + 1))), (20, iv (p0.length : Int))]) (TI.o { val := iv (Int.tmod (w64 (v26 + 1)) (p0.length : Int)) } (q_int (P := Try.prog) (op := .rem) (ty := 3) (ox := (.tmp 18)) (oy := (.tmp 20)) (k := .i64) (k' := .i64) (y := w64 (v26 + 1)) (z := (p0.length : Int)) (by kernel_rfl) (rem_ok hg50)) [0, 3, 4, 5, 13, 14, 21] [0, 1, 2] (st 57 [(0, sv 0 p0.length ANY), (3, accV 1 r1.length), (4, accV 2 r3.length), (5, iv v26), (13, iv (p0.length : Int)), (14, iv v26), (21, iv (Int.tmod (w64 (v26 + 1)) (p0.length : Int)))]) (H78_1 p0 r1 r3) (TI.ra 1 [0, 3, 4, 5, 6, 13, 14] (st 57 [(0, sv 0 p0.length ANY), (3, accV 1 r1.length), (4, accV 2 r3.length), (5, iv v26), (6, iv (Int.tmod (w64 (v26 + 1)) (p0.length : Int))), (13, iv (p0.length : Int)), (14, iv v26)]) (TI.dn (NX.sq (TS.sq ?_))))))
   have hX := of_guard hF
   clear hF
   obtain ⟨hg51, hF⟩ := hX
   have hX := of_do hF
   clear hF
   obtain ⟨o52, h53, hF⟩ := hX
   replace h53 := Option.some.inj h53
   have hX := of_guard hF
   clear hF
   obtain ⟨hg54, hF⟩ := hX
   have hX := of_do hF
   clear hF
   obtain ⟨o55, h56, hF⟩ := hX
   replace h56 := Option.some.inj h56
   refine TS.dp [] (fun e he => by cases he) mixed 10 [0, 3, 4, 5, 6, 7, 13, 14] [0, 1, 2] (st 57 [(0, sv 0 p0.length ANY), (3, accV 1 r1.length), (4, accV 2 r3.length), (5, iv v26), (6, iv (Int.tmod (w64 (v26 + 1)) (p0.length : Int))), (7, iv (w64 (o52.1 - o55.1))), (13, iv (p0.length : Int)), (14, iv v26)]) (H78_1 p0 r1 r3) ?_ ?_
   · refine QJ.rn (qs (st 57 [(0, sv 0 p0.length ANY), (3, accV 1 r1.length), (4, accV 2 r3.length), (5, iv v26), (6, iv (Int.tmod (w64 (v26 + 1)) (p0.length : Int))), (13, iv (p0.length : Int)), (14, iv v26), (22, accV 1 r1.length), (23, iv (Int.tmod (w64 (v26 + 1)) (p0.length : Int)))]) (H78_1 p0 r1 r3) [] []) 2 (QJ.o { val := .pointer (some ⟨1, 0 + (Int.toNat (Int.tmod (w64 (v26 + 1)) (p0.length : Int))) * 2, none⟩) } (q_ixAcc (P := Try.prog) (t := 23) (s := 2) (e := 55) 1 r1.length (by kernel_rfl) hg51 (by kernel_rfl) (by kernel_rfl)) (QJ.rn (qs (st 57 [(0, sv 0 p0.length ANY), (3, accV 1 r1.length), (4, accV 2 r3.length), (5, iv v26), (6, iv (Int.tmod (w64 (v26 + 1)) (p0.length : Int))), (13, iv (p0.length : Int)), (14, iv v26), (22, accV 1 r1.length), (23, iv (Int.tmod (w64 (v26 + 1)) (p0.length : Int))), (24, .pointer (some ⟨1, 0 + (Int.toNat (Int.tmod (w64 (v26 + 1)) (p0.length : Int))) * 2, none⟩)), (25, .pointer (some ⟨1, 0 + (Int.toNat (Int.tmod (w64 (v26 + 1)) (p0.length : Int))) * 2, none⟩))]) (H78_1 p0 r1 r3) [] []) 1 (QJ.o { val := iv o52.1 } (q_n1a Try.prog (H78_1 p0 r1 r3) 3 1 (0 + (Int.toNat (Int.tmod (w64 (v26 + 1)) (p0.length : Int))) * 2) r1 e55 2 55 (Int.toNat (Int.tmod (w64 (v26 + 1)) (p0.length : Int))) 0 (0, 0) h53) (QJ.rn (qs (st 57 [(0, sv 0 p0.length ANY), (3, accV 1 r1.length), (4, accV 2 r3.length), (5, iv v26), (6, iv (Int.tmod (w64 (v26 + 1)) (p0.length : Int))), (13, iv (p0.length : Int)), (14, iv v26), (22, accV 1 r1.length), (23, iv (Int.tmod (w64 (v26 + 1)) (p0.length : Int))), (24, .pointer (some ⟨1, 0 + (Int.toNat (Int.tmod (w64 (v26 + 1)) (p0.length : Int))) * 2, none⟩)), (25, .pointer (some ⟨1, 0 + (Int.toNat (Int.tmod (w64 (v26 + 1)) (p0.length : Int))) * 2, none⟩)), (26, iv o52.1), (27, accV 1 r1.length), (28, iv v26)]) (H78_1 p0 r1 r3) [] []) 2 (QJ.o { val := .pointer (some ⟨1, 0 + (Int.toNat v26) * 2, none⟩) } (q_ixAcc (P := Try.prog) (t := 23) (s := 2) (e := 55) 1 r1.length (by kernel_rfl) hg54 (by kernel_rfl) (by kernel_rfl)) (QJ.rn (qs (st 57 [(0, sv 0 p0.length ANY), (3, accV 1 r1.length), (4, accV 2 r3.length), (5, iv v26), (6, iv (Int.tmod (w64 (v26 + 1)) (p0.length : Int))), (13, iv (p0.length : Int)), (14, iv v26), (22, accV 1 r1.length), (23, iv (Int.tmod (w64 (v26 + 1)) (p0.length : Int))), (24, .pointer (some ⟨1, 0 + (Int.toNat (Int.tmod (w64 (v26 + 1)) (p0.length : Int))) * 2, none⟩)), (25, .pointer (some ⟨1, 0 + (Int.toNat (Int.tmod (w64 (v26 + 1)) (p0.length : Int))) * 2, none⟩)), (26, iv o52.1), (27, accV 1 r1.length), (28, iv v26), (29, .pointer (some ⟨1, 0 + (Int.toNat v26) * 2, none⟩)), (30, .pointer (some ⟨1, 0 + (Int.toNat v26) * 2, none⟩))]) (H78_1 p0 r1 r3) [] []) 1 (QJ.o { val := iv o55.1 } (q_n1a Try.prog (H78_1 p0 r1 r3) 3 1 (0 + (Int.toNat v26) * 2) r1 e55 2 55 (Int.toNat v26) 0 (0, 0) h56) (QJ.dn ⟨rfl, ?_⟩))))))))
     exact SJ.la
   refine TS.sq (TS.sq (TS.rg (TI.ra 3 [0, 3, 4, 5, 6, 7, 13, 14, 35] (st 57 [(0, sv 0 p0.length ANY), (3, accV 1 r1.length), (4, accV 2 r3.length), (5, iv v26), (6, iv (Int.tmod (w64 (v26 + 1)) (p0.length : Int))), (7, iv (w64 (o52.1 - o55.1))), (13, iv (p0.length : Int)), (14, iv v26), (35, .bool (decide ((Int.tmod (w64 (v26 + 1)) (p0.length : Int)) ≤ v26)))]) (TI.dn (NX.sq ?_)))))
   have hX := of_do hF
   clear hF
   obtain ⟨m60, hm61, hF⟩ := hX
   have hK : NX Try.prog 1 1 [.sq c78.s2.s2.s1.s2.bd.bd.s2.s2.s1.bd.s2.s2.s2.s2, .bk 1, .sq c78.s2.s2.s1.s2.bd.bd.s2.s2.s2] (Rd Try.prog 1 1 c78.s2.s2.s1.s2.bd.bd (P78l0 p0 r1 r3 r)) .normal (st 57 [(0, sv 0 p0.length ANY), (3, accV 1 r1.length), (4, accV 2 r3.length), (5, iv v26), (6, iv (Int.tmod (w64 (v26 + 1)) (p0.length : Int))), (7, iv m60), (13, iv (p0.length : Int)), (14, iv v26)]) (H78_1 p0 r1 r3) := by
    refine NX.sq (TS.sq ?_)
    have hX := of_do hF
    clear hF
    obtain ⟨m66, hm67, hF⟩ := hX
    have hK : NX Try.prog 1 1 [.sq c78.s2.s2.s1.s2.bd.bd.s2.s2.s1.bd.s2.s2.s2.s2.s2, .bk 1, .sq c78.s2.s2.s1.s2.bd.bd.s2.s2.s2] (Rd Try.prog 1 1 c78.s2.s2.s1.s2.bd.bd (P78l0 p0 r1 r3 r)) .normal (st 57 [(0, sv 0 p0.length ANY), (3, accV 1 r1.length), (4, accV 2 r3.length), (13, iv (p0.length : Int)), (14, iv v26), (55, .bool m66)]) (H78_1 p0 r1 r3) := by
     refine NX.sq ?_
     cases m66 with
     | true =>
      replace hF := of_pos hF rfl
      refine TS.cdT (.tmp 55) (TS.sq (TS.rg (TI.rn 1 [2] [0] (st 57 [(2, .bool true)]) [ab 92 e92 p0, .dead, .dead] (TI.dn (NX.sq (TS.rt (NX.bkR (NX.sqR ?_))))))))
      have hF := Option.some.inj hF
      subst hF
      exact Rd.out (e := .ret) (by intro h; cases h) (And.intro rfl (Wk.an [] (.ac (.nil _)) [.bool true] (.fl .nil)))
     | false =>
      replace hF := of_neg hF rfl
      refine TS.cdF (.tmp 55) (TS.sk (NX.bk (NX.sq (TS.rg (TI.ra 2 [0, 3, 4, 13, 14] (st 57 [(0, sv 0 p0.length ANY), (3, accV 1 r1.length), (4, accV 2 r3.length), (13, iv (p0.length : Int)), (14, iv (w64 (v26 + 1)))]) (TI.dn ?_))))))
      exact Rd.again (a2 := (st 57 [(0, sv 0 p0.length ANY), (3, accV 1 r1.length), (4, accV 2 r3.length), (13, iv (p0.length : Int)), (14, iv (w64 (v26 + 1)))])) (h2 := (H78_1 p0 r1 r3)) (Wk.an [1, 2] (.ac (.ac (.ac (.nil _)))) [sv 0 p0.length ANY, accV 1 r1.length, accV 2 r3.length, iv (p0.length : Int), iv (w64 (v26 + 1))] (.sl (.cons (Rn.acc (Nat.le_of_ble_eq_true rfl) rfl) (.cons (Rn.acc (Nat.le_of_ble_eq_true rfl) rfl) (.fl (.fl .nil)))))) (ih (w64 (v26 + 1)) _ hF)
    rcases Bool.eq_false_or_eq_true ((Int.tmod (w64 (v26 + 1)) (p0.length : Int)) != v26) with hc62 | hc62
    · replace hm67 := of_pos hm67 hc62
      have hX := of_guard hm67
      clear hm67
      obtain ⟨hg63, hm67⟩ := hX
      have hX := of_do hm67
      clear hm67
      obtain ⟨o64, h65, hm67⟩ := hX
      replace h65 := Option.some.inj h65
      have hm67 := Option.some.inj hm67
      subst hm67
      refine TS.dp [] (fun e he => by cases he) mixed 16 [0, 3, 4, 13, 14, 55] [0, 1, 2] (st 57 [(0, sv 0 p0.length ANY), (3, accV 1 r1.length), (4, accV 2 r3.length), (13, iv (p0.length : Int)), (14, iv v26), (55, .bool (decide ((w64 (m60 + o52.2)) ≤ o64.2)))]) (H78_1 p0 r1 r3) ?_ ?_
      · refine QJ.rn (qs (S78_0 p0 r1 r3 v26 m60) (H78_1 p0 r1 r3) [] []) 2 (QJ.o { val := .bool true } (q_conv (e := (Int.tmod (w64 (v26 + 1)) (p0.length : Int)) != v26) (b := true) (by kernel_rfl) hc62) (QJ.rn (qs (st 57 [(0, sv 0 p0.length ANY), (3, accV 1 r1.length), (4, accV 2 r3.length), (5, iv v26), (6, iv (Int.tmod (w64 (v26 + 1)) (p0.length : Int))), (7, iv m60), (13, iv (p0.length : Int)), (14, iv v26), (38, iv (Int.tmod (w64 (v26 + 1)) (p0.length : Int))), (39, iv v26), (40, .bool true), (41, .bool true), (42, iv m60), (43, accV 1 r1.length), (44, iv (Int.tmod (w64 (v26 + 1)) (p0.length : Int)))]) (H78_1 p0 r1 r3) [] []) 4 (QJ.o { val := .pointer (some ⟨1, 0 + (Int.toNat (Int.tmod (w64 (v26 + 1)) (p0.length : Int))) * 2, none⟩) } (q_ixAcc (P := Try.prog) (t := 23) (s := 2) (e := 55) 1 r1.length (by kernel_rfl) hg51 (by kernel_rfl) (by kernel_rfl)) (QJ.rn (qs (st 57 [(0, sv 0 p0.length ANY), (3, accV 1 r1.length), (4, accV 2 r3.length), (5, iv v26), (6, iv (Int.tmod (w64 (v26 + 1)) (p0.length : Int))), (7, iv m60), (13, iv (p0.length : Int)), (14, iv v26), (38, iv (Int.tmod (w64 (v26 + 1)) (p0.length : Int))), (39, iv v26), (40, .bool true), (41, .bool true), (42, iv m60), (43, accV 1 r1.length), (44, iv (Int.tmod (w64 (v26 + 1)) (p0.length : Int))), (45, .pointer (some ⟨1, 0 + (Int.toNat (Int.tmod (w64 (v26 + 1)) (p0.length : Int))) * 2, none⟩)), (46, .pointer (some ⟨1, 0 + (Int.toNat (Int.tmod (w64 (v26 + 1)) (p0.length : Int))) * 2 + 1, none⟩))]) (H78_1 p0 r1 r3) [] []) 1 (QJ.o { val := iv o52.2 } (q_n1a Try.prog (H78_1 p0 r1 r3) 3 1 (0 + (Int.toNat (Int.tmod (w64 (v26 + 1)) (p0.length : Int))) * 2 + 1) r1 e55 2 55 (Int.toNat (Int.tmod (w64 (v26 + 1)) (p0.length : Int))) 1 (0, 0) h53) (QJ.rn (qs (st 57 [(0, sv 0 p0.length ANY), (3, accV 1 r1.length), (4, accV 2 r3.length), (5, iv v26), (6, iv (Int.tmod (w64 (v26 + 1)) (p0.length : Int))), (7, iv m60), (13, iv (p0.length : Int)), (14, iv v26), (38, iv (Int.tmod (w64 (v26 + 1)) (p0.length : Int))), (39, iv v26), (40, .bool true), (41, .bool true), (42, iv m60), (43, accV 1 r1.length), (44, iv (Int.tmod (w64 (v26 + 1)) (p0.length : Int))), (45, .pointer (some ⟨1, 0 + (Int.toNat (Int.tmod (w64 (v26 + 1)) (p0.length : Int))) * 2, none⟩)), (46, .pointer (some ⟨1, 0 + (Int.toNat (Int.tmod (w64 (v26 + 1)) (p0.length : Int))) * 2 + 1, none⟩)), (47, iv o52.2), (48, iv (w64 (m60 + o52.2))), (49, accV 2 r3.length), (50, iv v26)]) (H78_1 p0 r1 r3) [] []) 3 (QJ.o { val := .pointer (some ⟨2, 0 + (Int.toNat v26) * 2, none⟩) } (q_ixAcc (P := Try.prog) (t := 23) (s := 2) (e := 55) 2 r3.length (by kernel_rfl) hg63 (by kernel_rfl) (by kernel_rfl)) (QJ.rn (qs (st 57 [(0, sv 0 p0.length ANY), (3, accV 1 r1.length), (4, accV 2 r3.length), (5, iv v26), (6, iv (Int.tmod (w64 (v26 + 1)) (p0.length : Int))), (7, iv m60), (13, iv (p0.length : Int)), (14, iv v26), (38, iv (Int.tmod (w64 (v26 + 1)) (p0.length : Int))), (39, iv v26), (40, .bool true), (41, .bool true), (42, iv m60), (43, accV 1 r1.length), (44, iv (Int.tmod (w64 (v26 + 1)) (p0.length : Int))), (45, .pointer (some ⟨1, 0 + (Int.toNat (Int.tmod (w64 (v26 + 1)) (p0.length : Int))) * 2, none⟩)), (46, .pointer (some ⟨1, 0 + (Int.toNat (Int.tmod (w64 (v26 + 1)) (p0.length : Int))) * 2 + 1, none⟩)), (47, iv o52.2), (48, iv (w64 (m60 + o52.2))), (49, accV 2 r3.length), (50, iv v26), (51, .pointer (some ⟨2, 0 + (Int.toNat v26) * 2, none⟩)), (52, .pointer (some ⟨2, 0 + (Int.toNat v26) * 2 + 1, none⟩))]) (H78_1 p0 r1 r3) [] []) 1 ?_))))))))
        exact QJ.o { val := iv o64.2 } (q_n1a Try.prog (H78_1 p0 r1 r3) 3 2 (0 + (Int.toNat v26) * 2 + 1) r3 e55 2 55 (Int.toNat v26) 1 (0, 0) h65) (QJ.dn ⟨rfl, SJ.la⟩)
      exact hK
    replace hm67 := of_neg hm67 hc62
    have hm67 := Option.some.inj hm67
    subst hm67
    refine TS.dp [] (fun e he => by cases he) mixed 16 [0, 3, 4, 13, 14, 55] [0, 1, 2] (st 57 [(0, sv 0 p0.length ANY), (3, accV 1 r1.length), (4, accV 2 r3.length), (13, iv (p0.length : Int)), (14, iv v26), (55, .bool false)]) (H78_1 p0 r1 r3) ?_ ?_
    · exact QJ.rn (qs (S78_0 p0 r1 r3 v26 m60) (H78_1 p0 r1 r3) [] []) 2 (QJ.o { val := .bool false } (q_conv (e := (Int.tmod (w64 (v26 + 1)) (p0.length : Int)) != v26) (b := false) (by kernel_rfl) hc62) (QJ.rn (qs (st 57 [(0, sv 0 p0.length ANY), (3, accV 1 r1.length), (4, accV 2 r3.length), (5, iv v26), (6, iv (Int.tmod (w64 (v26 + 1)) (p0.length : Int))), (7, iv m60), (13, iv (p0.length : Int)), (14, iv v26), (38, iv (Int.tmod (w64 (v26 + 1)) (p0.length : Int))), (39, iv v26), (40, .bool false), (41, .bool false), (42, undef), (43, undef), (44, undef), (45, undef), (46, undef), (47, undef), (48, undef), (49, undef), (50, undef), (51, undef), (52, undef), (53, undef)]) (H78_1 p0 r1 r3) [] []) 13 (QJ.dn ⟨rfl, SJ.la⟩)))
    exact hK
   clear hF
   have hF := hm61
   clear hm61
   refine TS.start ?_
   refine TS.cd (.tmp 35) (decide ((Int.tmod (w64 (v26 + 1)) (p0.length : Int)) ≤ v26)) (fun hc68 => ?_) (fun hc68 => ?_)
   · replace hF := of_pos hF hc68
     refine TS.rg (TI.ra 3 [0, 3, 4, 5, 6, 7, 13, 14] (st 57 [(0, sv 0 p0.length ANY), (3, accV 1 r1.length), (4, accV 2 r3.length), (5, iv v26), (6, iv (Int.tmod (w64 (v26 + 1)) (p0.length : Int))), (7, iv (w64 ((w64 (o52.1 - o55.1)) + 3600))), (13, iv (p0.length : Int)), (14, iv v26)]) (TI.dn ?_))
     have hF := Option.some.inj hF
     subst hF
     exact TS.weak (by exact (Wk.an [1, 2] (.ac (.ac (.ac (.nil _)))) [sv 0 p0.length ANY, accV 1 r1.length, accV 2 r3.length, iv v26, iv (Int.tmod (w64 (v26 + 1)) (p0.length : Int)), iv (w64 ((w64 (o52.1 - o55.1)) + 3600)), iv (p0.length : Int), iv v26] (.sl (.cons (Rn.acc (Nat.le_of_ble_eq_true rfl) rfl) (.cons (Rn.acc (Nat.le_of_ble_eq_true rfl) rfl) (.fl (.fl (.fl (.fl (.fl .nil)))))))))) hK
   replace hF := of_neg hF hc68
   refine TS.sk ?_
   have hF := Option.some.inj hF
   subst hF
   exact TS.weak (by exact (Wk.an [1, 2] (.ac (.ac (.ac (.nil _)))) [sv 0 p0.length ANY, accV 1 r1.length, accV 2 r3.length, iv v26, iv (Int.tmod (w64 (v26 + 1)) (p0.length : Int)), iv (w64 (o52.1 - o55.1)), iv (p0.length : Int), iv v26] (.sl (.cons (Rn.acc (Nat.le_of_ble_eq_true rfl) rfl) (.cons (Rn.acc (Nat.le_of_ble_eq_true rfl) rfl) (.fl (.fl (.fl (.fl (.fl .nil)))))))))) hK
 replace hF := of_neg hF hc49
 refine TS.ex 0 (NX.sqX ?_)
 have hF := Option.some.inj hF
 subst hF
 exact Rd.out (e := .exit 0) (by intro h; cases h) (And.intro rfl (Wk.an [] (.ac (.nil _)) [] .nil))
theorem B78 (p0 : (List (Int × (Int × Int)))) (r : Bool) (hF : F78 p0 = some r) : TS Try.prog 1 1 c78 (st 57 [(0, sv 0 p0.length ANY)]) [ab 92 e92 p0] (NX Try.prog 1 1 [] (FinP Try.prog Try.f78 1 (V78 1 r) (N78 1 r))) := by
 unfold F78 at hF
 refine TS.sq (TS.rg (TI.ra 1 [0] (st 57 [(0, sv 0 p0.length ANY)]) (TI.dn (NX.sq (TS.sq ?_)))))
 have hX := of_do hF
 clear hF
 obtain ⟨r1, h2, hF⟩ := hX
 have hX := of_do hF
 clear hF
 obtain ⟨r3, h4, hF⟩ := hX
 refine TS.rg (TI.ra 1 [0, 8] (st 57 [(0, sv 0 p0.length ANY), (8, sv 0 p0.length ANY)]) (TI.cp 80 [sv 0 p0.length ANY, .func (.func 81) ⟨[]⟩ ⟨[]⟩] (accV 1 r1.length) [ab 55 e55 r1] (PureSim.ren (hc := [ab 92 e92 p0]) (fun i => List.getD [(0, 0)] i (0, 0)) (C80 _ _ h2) (.ac (.nil _)) (.cons (Rn.any _ _ _ _ _ _ (Nat.le_of_ble_eq_true rfl) rfl rfl (by decide)) (.cons (Rn.func' .nil .nil) .nil)) (Rn.acc (i' := 1) (Nat.le_of_ble_eq_true rfl) rfl) (newflat_cons (accB_flat (fun _ => rfl)) newflat_nil)) (TI.rn 1 [0, 9, 10] [0, 1] (st 57 [(0, sv 0 p0.length ANY), (9, accV 1 r1.length), (10, sv 0 p0.length ANY)]) [ab 92 e92 p0, ab 55 e55 r1] (TI.cp 80 [sv 0 p0.length ANY, .func (.func 82) ⟨[]⟩ ⟨[]⟩] (accV 2 r3.length) [ab 55 e55 r3] (PureSim.ren (hc := [ab 92 e92 p0]) (fun i => List.getD [(0, 0)] i (0, 0)) (C80k1 _ _ h4) (.ac (.nil _)) (.cons (Rn.any _ _ _ _ _ _ (Nat.le_of_ble_eq_true rfl) rfl rfl (by decide)) (.cons (Rn.func' .nil .nil) .nil)) (Rn.acc (i' := 2) (Nat.le_of_ble_eq_true rfl) rfl) (newflat_cons (accB_flat (fun _ => rfl)) newflat_nil)) (TI.rn 2 [0, 3, 4] [0, 1, 2] (st 57 [(0, sv 0 p0.length ANY), (3, accV 1 r1.length), (4, accV 2 r3.length)]) (H78_1 p0 r1 r3) (TI.dn (NX.sq (TS.sq ?_))))))))
 refine TS.sq (TS.rg (TI.ra 3 [0, 3, 4, 13, 14] (st 57 [(0, sv 0 p0.length ANY), (3, accV 1 r1.length), (4, accV 2 r3.length), (13, iv (p0.length : Int)), (14, iv 0)]) (TI.dn (NX.sq (TS.bk 0 ?_)))))
 have hX := of_do hF
 clear hF
 obtain ⟨r69, h70, hF⟩ := hX
 refine TS.lp (TL.weak (a2 := (st 57 [(0, sv 0 p0.length ANY), (3, accV 1 r1.length), (4, accV 2 r3.length), (13, iv (p0.length : Int)), (14, iv 0)])) (h2 := (H78_1 p0 r1 r3)) (Wk.an [1, 2] (.ac (.ac (.ac (.nil _)))) [sv 0 p0.length ANY, accV 1 r1.length, accV 2 r3.length, iv (p0.length : Int), iv 0] (.sl (.cons (Rn.acc (Nat.le_of_ble_eq_true rfl) rfl) (.cons (Rn.acc (Nat.le_of_ble_eq_true rfl) rfl) (.fl (.fl .nil)))))) (TL.post (L78l0 p0 r1 r3 0 r69 h70) ?_))
 rintro e a1 h1 hp
 rcases r69 with o71 | o72
 · skip
   obtain ⟨rfl, hw⟩ := hp
   refine ⟨(st 57 [(2, .bool true)]), [ab 92 e92 p0], (NX.bkR (NX.sqR ?_)), hw⟩
   have hF := Option.some.inj hF
   subst hF
   exact ⟨.inr rfl, rfl, .bool true, by kernel_rfl, WkV.flat0 (by kernel_rfl) (Nat.le_of_ble_eq_true rfl)⟩
 skip
 obtain ⟨rfl, hw⟩ := hp
 refine ⟨(st 57 []), [ab 92 e92 p0], (NX.bkX (NX.sq (TS.sq (TS.rg (TI.ra 1 [2] (st 57 [(2, .bool false)]) (TI.dn (NX.sq (TS.rt ?_)))))))), hw⟩
 have hF := Option.some.inj hF
 subst hF
 exact ⟨.inr rfl, rfl, .bool false, by kernel_rfl, WkV.flat0 (by kernel_rfl) (Nat.le_of_ble_eq_true rfl)⟩
theorem C78 (p0 : (List (Int × (Int × Int)))) (r : Bool) (hF : F78 p0 = some r) : PureSim Try.prog 78 [sv 0 p0.length ANY] [ab 92 e92 p0] (V78 1 r) (N78 1 r) :=
 PureSim.of_Fin Try.func78 (c := c78) (by kernel_rfl) (by kernel_rfl) 1 rfl [0] [0] (by kernel_rfl) (B78 p0 r hF)
noncomputable def c36 : Code := Try.f36.code
def F36 (p0 : (List (Int × (Int × Int)))) : Option Int :=
 F63 p0 >>= fun r1 =>
 (
  if r1 == 0 then
   F78 p0 >>= fun r4 =>
   some (r4)
  else
   some (false)
 : Option Bool) >>= fun m6 =>
 if m6 then
  some 21
 else
  some r1
def V36 (b : Nat) (r : Int) : Value := iv r
def N36 (b : Nat) (r : Int) : List Blk := []
theorem B36 (p0 : (List (Int × (Int × Int)))) (r : Int) (hF : F36 p0 = some r) : TS Try.prog 1 1 c36 (st 13 [(0, sv 0 p0.length ANY)]) [ab 92 e92 p0] (NX Try.prog 1 1 [] (FinP Try.prog Try.f36 1 (V36 1 r) (N36 1 r))) := by
 unfold F36 at hF
 refine TS.sq (TS.rg (TI.ra 1 [0] (st 13 [(0, sv 0 p0.length ANY)]) (TI.dn (NX.sq (TS.sq ?_)))))
 have hX := of_do hF
 clear hF
 obtain ⟨r1, h2, hF⟩ := hX
 refine TS.rg (TI.ra 1 [0, 4] (st 13 [(0, sv 0 p0.length ANY), (4, sv 0 p0.length ANY)]) (TI.cp 63 [sv 0 p0.length ANY] (iv r1) [] (PureSim.ren (hc := [ab 92 e92 p0]) (fun i => List.getD [(0, 0)] i (0, 0)) (C63 _ _ h2) (.ac (.nil _)) (.cons (Rn.any _ _ _ _ _ _ (Nat.le_of_ble_eq_true rfl) rfl rfl (by decide)) .nil) (.flat (by kernel_rfl)) newflat_nil) (TI.ra 1 [0, 3] (st 13 [(0, sv 0 p0.length ANY), (3, iv r1)]) (TI.dn (NX.sq (TS.sq (TS.sq ?_)))))))
 have hX := of_do hF
 clear hF
 obtain ⟨m6, hm7, hF⟩ := hX
 have hK : NX Try.prog 1 1 [.sq c36.s2.s2.s1.s2, .sq c36.s2.s2.s2] (FinP Try.prog Try.f36 1 (V36 1 r) (N36 1 r)) .normal (st 13 [(3, iv r1), (11, .bool m6)]) [ab 92 e92 p0] := by
  refine NX.sq ?_
  cases m6 with
  | true =>
   replace hF := of_pos hF rfl
   refine TS.cdT (.tmp 11) (TS.sq (TS.rg (TI.ra 1 [2] (st 13 [(2, iv 21)]) (TI.dn (NX.sq (TS.rt (NX.sqR ?_)))))))
   have hF := Option.some.inj hF
   subst hF
   exact ⟨.inr rfl, rfl, iv 21, by kernel_rfl, WkV.flat0 (by kernel_rfl) (Nat.le_of_ble_eq_true rfl)⟩
  | false =>
   replace hF := of_neg hF rfl
   refine TS.cdF (.tmp 11) (TS.sk (NX.sq (TS.sq (TS.rg (TI.ra 2 [2] (st 13 [(2, iv r1)]) (TI.dn (NX.sq (TS.rt ?_))))))))
   have hF := Option.some.inj hF
   subst hF
   exact ⟨.inr rfl, rfl, iv r1, by kernel_rfl, WkV.flat0 (by kernel_rfl) (Nat.le_of_ble_eq_true rfl)⟩
 rcases Bool.eq_false_or_eq_true (r1 == 0) with hc3 | hc3
 · replace hm7 := of_pos hm7 hc3
   have hX := of_do hm7
   clear hm7
   obtain ⟨r4, h5, hm7⟩ := hX
   have hm7 := Option.some.inj hm7
   subst hm7
   exact TS.rg (TI.ra 1 [0, 3, 6] (st 13 [(0, sv 0 p0.length ANY), (3, iv r1), (6, iv r1)]) (TI.o { val := .bool true } (q_conv (e := r1 == 0) (b := true) (by kernel_rfl) hc3) [0, 3, 7] [0] (st 13 [(0, sv 0 p0.length ANY), (3, iv r1), (7, .bool true)]) [ab 92 e92 p0] (TI.ra 2 [3, 8, 9] (st 13 [(3, iv r1), (8, .bool true), (9, sv 0 p0.length ANY)]) (TI.cp 78 [sv 0 p0.length ANY] (.bool r4) [] (PureSim.ren (hc := [ab 92 e92 p0]) (fun i => List.getD [(0, 0)] i (0, 0)) (C78 _ _ h5) (.ac (.nil _)) (.cons (Rn.any _ _ _ _ _ _ (Nat.le_of_ble_eq_true rfl) rfl rfl (by decide)) .nil) (.flat (by kernel_rfl)) newflat_nil) (TI.ra 1 [3, 11] (st 13 [(3, iv r1), (11, .bool r4)]) (TI.dn hK))))))
 replace hm7 := of_neg hm7 hc3
 have hm7 := Option.some.inj hm7
 subst hm7
 exact TS.rg (TI.ra 1 [0, 3, 6] (st 13 [(0, sv 0 p0.length ANY), (3, iv r1), (6, iv r1)]) (TI.o { val := .bool false } (q_conv (e := r1 == 0) (b := false) (by kernel_rfl) hc3) [0, 3, 7] [0] (st 13 [(0, sv 0 p0.length ANY), (3, iv r1), (7, .bool false)]) [ab 92 e92 p0] (TI.ra 4 [3, 11] (st 13 [(3, iv r1), (11, .bool false)]) (TI.dn hK))))
theorem C36 (p0 : (List (Int × (Int × Int)))) (r : Int) (hF : F36 p0 = some r) : PureSim Try.prog 36 [sv 0 p0.length ANY] [ab 92 e92 p0] (V36 1 r) (N36 1 r) :=
 PureSim.of_Fin Try.func36 (c := c36) (by kernel_rfl) (by kernel_rfl) 1 rfl [0] [0] (by kernel_rfl) (B36 p0 r hF)
noncomputable def c83 : Code := Try.f83.code
def F83 (p0 : (List (Int × Int))) (p1 : Int) : Option (Int × Int) :=
 F71 p0 p1 >>= fun r1 =>
 some (r1.1, r1.2)
def V83 (b : Nat) (r : (Int × Int)) : Value := ag [iv r.1, iv r.2]
def N83 (b : Nat) (r : (Int × Int)) : List Blk := []
theorem B83 (p0 : (List (Int × Int))) (p1 : Int) (r : (Int × Int)) (hF : F83 p0 p1 = some r) : TS Try.prog 2 2 c83 (st 7 [(0, sv 0 p0.length ANY), (1, pt 1 0)]) [ab 55 e55 p0, cl 3 [iv p1]] (NX Try.prog 2 2 [] (FinP Try.prog Try.f83 2 (V83 2 r) (N83 2 r))) := by
 unfold F83 at hF
 refine TS.sq (TS.rg (TI.rn 1 [0, 1, 3] [0, 1, 2] (st 7 [(0, sv 0 p0.length ANY), (1, pt 1 0), (3, pt 2 0)]) [ab 55 e55 p0, cl 3 [iv p1], cl 101 [iv 0, iv 0]] (TI.dn (NX.sq (TS.sq ?_)))))
 have hX := of_do hF
 clear hF
 obtain ⟨r1, h2, hF⟩ := hX
 refine TS.rg (TI.ra 2 [3, 4, 5] (st 7 [(3, pt 2 0), (4, sv 0 p0.length ANY), (5, iv p1)]) (TI.cp 71 [sv 0 p0.length ANY, iv p1] (ag [iv r1.1, iv r1.2]) [] (PureSim.ren (hc := [ab 55 e55 p0]) (fun i => List.getD [(0, 0)] i (0, 0)) (C71 _ _ _ h2) (.ac (.nil _)) (.cons (Rn.any _ _ _ _ _ _ (Nat.le_of_ble_eq_true rfl) rfl rfl (by decide)) (.fl .nil)) (.flat (by kernel_rfl)) newflat_nil) (TI.rn 1 [3] [0, 1, 2] (st 7 [(3, pt 2 0)]) [ab 55 e55 p0, cl 3 [iv p1], cl 101 [iv r1.1, iv r1.2]] (TI.dn (NX.sq (TS.rt ?_))))))
 have hF := Option.some.inj hF
 subst hF
 exact ⟨.inr rfl, rfl, ag [iv r1.1, iv r1.2], by kernel_rfl, WkV.flat0 (by kernel_rfl) (Nat.le_of_ble_eq_true rfl)⟩
theorem C83 (p0 : (List (Int × Int))) (p1 : Int) (r : (Int × Int)) (hF : F83 p0 p1 = some r) : PureSim Try.prog 83 [sv 0 p0.length ANY, pt 1 0] [ab 55 e55 p0, cl 3 [iv p1]] (V83 2 r) (N83 2 r) :=
 PureSim.of_Fin Try.func83 (c := c83) (by kernel_rfl) (by kernel_rfl) 2 rfl [0, 1] [0, 1] (by kernel_rfl) (B83 p0 p1 r hF)
noncomputable def c79 : Code := Try.f79.code
def F79 (p0 : (List (Int × Int))) (p1 : (List (Int × Int))) (p2 : Int) : Option ((Int × Int) × (Int × Int)) :=
 F83 p0 p2 >>= fun r1 =>
 F83 p1 p2 >>= fun r3 =>
 some ((r1.1, r1.2), (r3.1, r3.2))
def V79 (b : Nat) (r : ((Int × Int) × (Int × Int))) : Value := .tuple ⟨[ag [iv r.1.1, iv r.1.2], ag [iv r.2.1, iv r.2.2]]⟩
def N79 (b : Nat) (r : ((Int × Int) × (Int × Int))) : List Blk := []
theorem B79 (p0 : (List (Int × Int))) (p1 : (List (Int × Int))) (p2 : Int) (r : ((Int × Int) × (Int × Int))) (hF : F79 p0 p1 p2 = some r) : TS Try.prog 3 3 c79 (st 14 [(0, sv 0 p0.length ANY), (1, sv 1 p1.length ANY), (2, .func (.func 83) ⟨[]⟩ ⟨[pt 2 0]⟩)]) [ab 55 e55 p0, ab 55 e55 p1, cl 3 [iv p2]] (NX Try.prog 3 3 [] (FinP Try.prog Try.f79 3 (V79 3 r) (N79 3 r))) := by
 unfold F79 at hF
 refine TS.sq (TS.rg (TI.rn 2 [0, 1, 2, 6, 7] [0, 1, 2, 3, 4] (st 14 [(0, sv 0 p0.length ANY), (1, sv 1 p1.length ANY), (2, .func (.func 83) ⟨[]⟩ ⟨[pt 2 0]⟩), (6, pt 3 0), (7, pt 4 0)]) [ab 55 e55 p0, ab 55 e55 p1, cl 3 [iv p2], cl 101 [iv 0, iv 0], cl 101 [iv 0, iv 0]] (TI.dn (NX.sq (TS.sq ?_)))))
 have hX := of_do hF
 clear hF
 obtain ⟨r1, h2, hF⟩ := hX
 have hX := of_do hF
 clear hF
 obtain ⟨r3, h4, hF⟩ := hX
 refine TS.rg (TI.ra 2 [1, 2, 6, 7, 8, 9] (st 14 [(1, sv 1 p1.length ANY), (2, .func (.func 83) ⟨[]⟩ ⟨[pt 2 0]⟩), (6, pt 3 0), (7, pt 4 0), (8, .func (.func 83) ⟨[]⟩ ⟨[pt 2 0]⟩), (9, sv 0 p0.length ANY)]) (TI.cp 83 [sv 0 p0.length ANY, pt 2 0] (ag [iv r1.1, iv r1.2]) [] (PureSim.ren (hc := [ab 55 e55 p0, cl 3 [iv p2]]) (fun i => List.getD [(0, 0), (2, 0)] i (0, 0)) (C83 _ _ _ h2) (.ac (.lt (.fl .nil) (.nil _))) (.cons (Rn.any _ _ _ _ _ _ (Nat.le_of_ble_eq_true rfl) rfl rfl (by decide)) (.pp .nil)) (.flat (by kernel_rfl)) newflat_nil) (TI.ra 2 [6, 7, 10, 11, 12] (st 14 [(6, pt 3 0), (7, pt 4 0), (10, ag [iv r1.1, iv r1.2]), (11, .func (.func 83) ⟨[]⟩ ⟨[pt 2 0]⟩), (12, sv 1 p1.length ANY)]) (TI.cp 83 [sv 1 p1.length ANY, pt 2 0] (ag [iv r3.1, iv r3.2]) [] (PureSim.ren (hc := [ab 55 e55 p1, cl 3 [iv p2]]) (fun i => List.getD [(1, 0), (2, 0)] i (0, 0)) (C83 _ _ _ h4) (.ac (.lt (.fl .nil) (.nil _))) (.cons (Rn.any _ _ _ _ _ _ (Nat.le_of_ble_eq_true rfl) rfl rfl (by decide)) (.pp .nil)) (.flat (by kernel_rfl)) newflat_nil) (TI.rn 2 [6, 7] [0, 1, 2, 3, 4] (st 14 [(6, pt 3 0), (7, pt 4 0)]) [ab 55 e55 p0, ab 55 e55 p1, cl 3 [iv p2], cl 101 [iv r1.1, iv r1.2], cl 101 [iv r3.1, iv r3.2]] (TI.dn (NX.sq (TS.rt ?_))))))))
 have hF := Option.some.inj hF
 subst hF
 exact ⟨.inr rfl, rfl, .tuple ⟨[ag [iv r1.1, iv r1.2], ag [iv r3.1, iv r3.2]]⟩, by kernel_rfl, WkV.flat0 (by kernel_rfl) (Nat.le_of_ble_eq_true rfl)⟩
theorem C79 (p0 : (List (Int × Int))) (p1 : (List (Int × Int))) (p2 : Int) (r : ((Int × Int) × (Int × Int))) (hF : F79 p0 p1 p2 = some r) : PureSim Try.prog 79 [sv 0 p0.length ANY, sv 1 p1.length ANY, .func (.func 83) ⟨[]⟩ ⟨[pt 2 0]⟩] [ab 55 e55 p0, ab 55 e55 p1, cl 3 [iv p2]] (V79 3 r) (N79 3 r) :=
 PureSim.of_Fin Try.func79 (c := c79) (by kernel_rfl) (by kernel_rfl) 3 rfl [0, 1, 2] [0, 1, 2] (by kernel_rfl) (B79 p0 p1 p2 r hF)
noncomputable def c34 : Code := Try.f34.code
def S34_0 (p0 : (List (Int × (Int × Int)))) (r1 : Int) : CAct := (st 41 [(0, sv 0 p0.length ANY), (3, pt 1 0), (4, pt 2 0), (5, pt 3 0), (6, iv r1), (11, .bool (r1 != 0)), (14, ag [iv 0, iv 0]), (15, ag [iv 0, iv 0]), (16, iv r1)])
def S34_1 (p0 : (List (Int × (Int × Int)))) (r4 : Bool) : CAct := (st 41 [(0, sv 0 p0.length ANY), (3, pt 1 0), (4, pt 2 0), (5, pt 3 0), (6, iv 1), (17, .bool (!r4)), (21, ag [iv 0, iv 0]), (22, ag [iv 0, iv 0])])
def S34_2 (p0 : (List (Int × (Int × Int)))) : CAct := (st 41 [(0, sv 0 p0.length ANY), (3, pt 1 0), (4, pt 2 0), (5, pt 3 0), (6, iv 21), (23, .bool true), (26, ag [iv 0, iv 0]), (27, ag [iv 0, iv 0])])
def H34_3 (p0 : (List (Int × (Int × Int)))) (r13 : ((Int × Int) × (Int × Int))) : List Blk := [ab 92 e92 p0, .dead, cl 29 [iv 0, iv 0], cl 29 [iv 0, iv 0], .dead, .dead, cl 101 [iv r13.1.1, iv r13.1.2], cl 101 [iv r13.2.1, iv r13.2.2]]
def S34_4 (p0 : (List (Int × (Int × Int)))) (r4 : Bool) : CAct := (st 41 [(0, sv 0 p0.length ANY), (3, pt 1 0), (4, pt 2 0), (5, pt 3 0), (17, .bool (!r4)), (21, ag [iv 0, iv 0]), (22, ag [iv 0, iv 0])])
def S34_5 (p0 : (List (Int × (Int × Int)))) : CAct := (st 41 [(0, sv 0 p0.length ANY), (3, pt 1 0), (4, pt 2 0), (5, pt 3 0), (23, .bool true), (26, ag [iv 0, iv 0]), (27, ag [iv 0, iv 0])])
def H34_6 (p0 : (List (Int × (Int × Int)))) (p1 : Int) : List Blk := [ab 92 e92 p0, cl 3 [iv p1], cl 29 [iv 0, iv 0], cl 29 [iv 0, iv 0]]
def H34_7 (p0 : (List (Int × (Int × Int)))) : List Blk := [ab 92 e92 p0, .dead, cl 29 [iv 0, iv 0], cl 29 [iv 0, iv 0]]
def F34 (p0 : (List (Int × (Int × Int)))) (p1 : Int) : Option ((Int × Int) × (Int × Int) × Int) :=
 F63 p0 >>= fun r1 =>
 if r1 != 0 then
  some ((0, 0), (0, 0), r1)
 else
  F53 p1 >>= fun r4 =>
  if !r4 then
   some ((0, 0), (0, 0), 1)
  else
   F78 p0 >>= fun r7 =>
   if r7 then
    some ((0, 0), (0, 0), 21)
   else
    F80 p0 >>= fun r9 =>
    F80k1 p0 >>= fun r11 =>
    F79 r9 r11 p1 >>= fun r13 =>
    F56 r13.1.1 r13.1.2 >>= fun r15 =>
    F56 r13.2.1 r13.2.2 >>= fun r17 =>
    some ((r15.1, r15.2), (r17.1, r17.2), 0)
def V34 (b : Nat) (r : ((Int × Int) × (Int × Int) × Int)) : Value := .tuple ⟨[ag [iv r.1.1, iv r.1.2], ag [iv r.2.1.1, iv r.2.1.2], iv r.2.2]⟩
def N34 (b : Nat) (r : ((Int × Int) × (Int × Int) × Int)) : List Blk := []
theorem B34 (p0 : (List (Int × (Int × Int)))) (p1 : Int) (r : ((Int × Int) × (Int × Int) × Int)) (hF : F34 p0 p1 = some r) : TS Try.prog 1 1 c34 (st 41 [(0, sv 0 p0.length ANY), (1, iv p1)]) [ab 92 e92 p0] (NX Try.prog 1 1 [] (FinP Try.prog Try.f34 1 (V34 1 r) (N34 1 r))) := by
 unfold F34 at hF
 refine TS.sq (TS.rg (TI.rn 4 [0, 3, 4, 5] [0, 1, 2, 3] (st 41 [(0, sv 0 p0.length ANY), (3, pt 1 0), (4, pt 2 0), (5, pt 3 0)]) (H34_6 p0 p1) (TI.dn (NX.sq (TS.sq ?_)))))
 have hX := of_do hF
 clear hF
 obtain ⟨r1, h2, hF⟩ := hX
 refine TS.rg (TI.ra 1 [0, 3, 4, 5, 9] (st 41 [(0, sv 0 p0.length ANY), (3, pt 1 0), (4, pt 2 0), (5, pt 3 0), (9, sv 0 p0.length ANY)]) (TI.cp 63 [sv 0 p0.length ANY] (iv r1) [] (PureSim.ren (hc := [ab 92 e92 p0]) (fun i => List.getD [(0, 0)] i (0, 0)) (C63 _ _ h2) (.ac (.nil _)) (.cons (Rn.any _ _ _ _ _ _ (Nat.le_of_ble_eq_true rfl) rfl rfl (by decide)) .nil) (.flat (by kernel_rfl)) newflat_nil) (TI.ra 1 [0, 3, 4, 5, 6] (st 41 [(0, sv 0 p0.length ANY), (3, pt 1 0), (4, pt 2 0), (5, pt 3 0), (6, iv r1)]) (TI.dn (NX.sq (TS.sq (TS.bk 0 (TS.sq ?_))))))))
 refine TS.rg (TI.ra 3 [0, 3, 4, 5, 6, 11] (st 41 [(0, sv 0 p0.length ANY), (3, pt 1 0), (4, pt 2 0), (5, pt 3 0), (6, iv r1), (11, .bool (r1 != 0))]) (TI.dn (NX.sq ?_)))
 refine TS.cd (.tmp 11) (r1 != 0) (fun hc3 => ?_) (fun hc3 => ?_)
 · replace hF := of_pos hF hc3
   refine TS.sq ?_
   refine TS.draw' (id := 3) (b := true) (ops := c34.s2.s2.s1.bd.s2.th.s1.rops) (fin := (qs (S34_0 p0 r1) (H34_6 p0 p1) [] [(4, 3), (3, 2)])) (fin2 := (qs (S34_0 p0 r1) (H34_6 p0 p1) [] [(4, 3), (3, 2)])) (a1 := (S34_0 p0 r1)) (h1 := (H34_6 p0 p1)) (a2 := (st 41 [(4, pt 2 0), (5, pt 3 0), (6, iv r1)])) (h2 := (H34_7 p0)) [] (fun e he => by cases he) mixed (by kernel_rfl) rfl 5 (by kernel_rfl) [(4, 3), (3, 2)] ?_ rfl (.inr ⟨?_, (by kernel_rfl)⟩) ?_ [4, 5, 6] [0, 2, 3] (by kernel_rfl) ?_
   · exact QI.run (s1 := (qs (S34_0 p0 r1) (H34_6 p0 p1) [] [(4, 3), (3, 2)])) 5 (by kernel_rfl) (by kernel_rfl) (QI.done (by kernel_rfl))
   · exact QI.run (s1 := (qs (S34_0 p0 r1) (H34_6 p0 p1) [] [(4, 3), (3, 2)])) 5 (by kernel_rfl) (by kernel_rfl) (QI.done (by kernel_rfl))
   · exact SI.run (a2 := (S34_0 p0 r1)) (h2 := (H34_6 p0 p1)) 1 (by kernel_rfl) (SI.done (by kernel_rfl))
   refine TS.rt (NX.bkR (NX.sqR ?_))
   have hF := Option.some.inj hF
   subst hF
   exact ⟨.inr rfl, rfl, .tuple ⟨[ag [iv 0, iv 0], ag [iv 0, iv 0], iv r1]⟩, by kernel_rfl, WkV.flat0 (by kernel_rfl) (Nat.le_of_ble_eq_true rfl)⟩
 replace hF := of_neg hF hc3
 refine TS.sq ?_
 have hX := of_do hF
 clear hF
 obtain ⟨r4, h5, hF⟩ := hX
 refine TS.rg (TI.ra 1 [0, 3, 4, 5, 18] (st 41 [(0, sv 0 p0.length ANY), (3, pt 1 0), (4, pt 2 0), (5, pt 3 0), (18, iv p1)]) (TI.cf (C53 _ _ h5) (TI.ra 2 [0, 3, 4, 5, 17] (st 41 [(0, sv 0 p0.length ANY), (3, pt 1 0), (4, pt 2 0), (5, pt 3 0), (17, .bool (!r4))]) (TI.dn (NX.sq ?_)))))
 refine TS.cd (.tmp 17) (!r4) (fun hc6 => ?_) (fun hc6 => ?_)
 · replace hF := of_pos hF hc6
   refine TS.sq ?_
   refine TS.draw' (id := 5) (b := true) (ops := c34.s2.s2.s1.bd.s2.el.s2.th.s1.rops) (fin := (qs (S34_4 p0 r4) (H34_6 p0 p1) [] [(2, 2)])) (fin2 := (qs (S34_4 p0 r4) (H34_6 p0 p1) [] [(2, 2)])) (a1 := (S34_1 p0 r4)) (h1 := (H34_6 p0 p1)) (a2 := (st 41 [(4, pt 2 0), (5, pt 3 0), (6, iv 1)])) (h2 := (H34_7 p0)) [] (fun e he => by cases he) mixed (by kernel_rfl) rfl 3 (by kernel_rfl) [(2, 2)] ?_ rfl (.inr ⟨?_, (by kernel_rfl)⟩) ?_ [4, 5, 6] [0, 2, 3] (by kernel_rfl) ?_
   · exact QI.run (s1 := (qs (S34_4 p0 r4) (H34_6 p0 p1) [] [(2, 2)])) 3 (by kernel_rfl) (by kernel_rfl) (QI.done (by kernel_rfl))
   · exact QI.run (s1 := (qs (S34_4 p0 r4) (H34_6 p0 p1) [] [(2, 2)])) 3 (by kernel_rfl) (by kernel_rfl) (QI.done (by kernel_rfl))
   · exact SI.run (a2 := (S34_1 p0 r4)) (h2 := (H34_6 p0 p1)) 2 (by kernel_rfl) (SI.done (by kernel_rfl))
   refine TS.rt (NX.bkR (NX.sqR ?_))
   have hF := Option.some.inj hF
   subst hF
   exact ⟨.inr rfl, rfl, .tuple ⟨[ag [iv 0, iv 0], ag [iv 0, iv 0], iv 1]⟩, by kernel_rfl, WkV.flat0 (by kernel_rfl) (Nat.le_of_ble_eq_true rfl)⟩
 replace hF := of_neg hF hc6
 refine TS.sq ?_
 have hX := of_do hF
 clear hF
 obtain ⟨r7, h8, hF⟩ := hX
 refine TS.rg (TI.ra 1 [0, 3, 4, 5, 24] (st 41 [(0, sv 0 p0.length ANY), (3, pt 1 0), (4, pt 2 0), (5, pt 3 0), (24, sv 0 p0.length ANY)]) (TI.cp 78 [sv 0 p0.length ANY] (.bool r7) [] (PureSim.ren (hc := [ab 92 e92 p0]) (fun i => List.getD [(0, 0)] i (0, 0)) (C78 _ _ h8) (.ac (.nil _)) (.cons (Rn.any _ _ _ _ _ _ (Nat.le_of_ble_eq_true rfl) rfl rfl (by decide)) .nil) (.flat (by kernel_rfl)) newflat_nil) (TI.ra 1 [0, 3, 4, 5, 23] (st 41 [(0, sv 0 p0.length ANY), (3, pt 1 0), (4, pt 2 0), (5, pt 3 0), (23, .bool r7)]) (TI.dn (NX.sq ?_)))))
 cases r7 with
 | true =>
  replace hF := of_pos hF rfl
  refine TS.cdT (.tmp 23) (TS.sq ?_)
  refine TS.draw' (id := 7) (b := true) (ops := c34.s2.s2.s1.bd.s2.el.s2.el.s2.th.s1.rops) (fin := (qs (S34_5 p0) (H34_6 p0 p1) [] [(2, 2)])) (fin2 := (qs (S34_5 p0) (H34_6 p0 p1) [] [(2, 2)])) (a1 := (S34_2 p0)) (h1 := (H34_6 p0 p1)) (a2 := (st 41 [(4, pt 2 0), (5, pt 3 0), (6, iv 21)])) (h2 := (H34_7 p0)) [] (fun e he => by cases he) mixed (by kernel_rfl) rfl 3 (by kernel_rfl) [(2, 2)] ?_ rfl (.inr ⟨?_, (by kernel_rfl)⟩) ?_ [4, 5, 6] [0, 2, 3] (by kernel_rfl) ?_
  · exact QI.run (s1 := (qs (S34_5 p0) (H34_6 p0 p1) [] [(2, 2)])) 3 (by kernel_rfl) (by kernel_rfl) (QI.done (by kernel_rfl))
  · exact QI.run (s1 := (qs (S34_5 p0) (H34_6 p0 p1) [] [(2, 2)])) 3 (by kernel_rfl) (by kernel_rfl) (QI.done (by kernel_rfl))
  · exact SI.run (a2 := (S34_2 p0)) (h2 := (H34_6 p0 p1)) 2 (by kernel_rfl) (SI.done (by kernel_rfl))
  refine TS.rt (NX.bkR (NX.sqR ?_))
  have hF := Option.some.inj hF
  subst hF
  exact ⟨.inr rfl, rfl, .tuple ⟨[ag [iv 0, iv 0], ag [iv 0, iv 0], iv 21]⟩, by kernel_rfl, WkV.flat0 (by kernel_rfl) (Nat.le_of_ble_eq_true rfl)⟩
 | false =>
  replace hF := of_neg hF rfl
  refine TS.cdF (.tmp 23) (TS.sk (NX.bk (NX.sq (TS.sq ?_))))
  have hX := of_do hF
  clear hF
  obtain ⟨r9, h10, hF⟩ := hX
  have hX := of_do hF
  clear hF
  obtain ⟨r11, h12, hF⟩ := hX
  have hX := of_do hF
  clear hF
  obtain ⟨r13, h14, hF⟩ := hX
  refine TS.rg (TI.ra 1 [0, 3, 4, 5, 29] (st 41 [(0, sv 0 p0.length ANY), (3, pt 1 0), (4, pt 2 0), (5, pt 3 0), (29, sv 0 p0.length ANY)]) (TI.cp 80 [sv 0 p0.length ANY, .func (.func 81) ⟨[]⟩ ⟨[]⟩] (accV 4 r9.length) [ab 55 e55 r9] (PureSim.ren (hc := [ab 92 e92 p0]) (fun i => List.getD [(0, 0)] i (0, 0)) (C80 _ _ h10) (.ac (.nil _)) (.cons (Rn.any _ _ _ _ _ _ (Nat.le_of_ble_eq_true rfl) rfl rfl (by decide)) (.cons (Rn.func' .nil .nil) .nil)) (Rn.acc (i' := 4) (Nat.le_of_ble_eq_true rfl) rfl) (newflat_cons (accB_flat (fun _ => rfl)) newflat_nil)) (TI.rn 1 [3, 4, 5, 30, 31] [0, 1, 2, 3, 4] (st 41 [(3, pt 1 0), (4, pt 2 0), (5, pt 3 0), (30, accV 4 r9.length), (31, sv 0 p0.length ANY)]) [ab 92 e92 p0, cl 3 [iv p1], cl 29 [iv 0, iv 0], cl 29 [iv 0, iv 0], ab 55 e55 r9] (TI.cp 80 [sv 0 p0.length ANY, .func (.func 82) ⟨[]⟩ ⟨[]⟩] (accV 5 r11.length) [ab 55 e55 r11] (PureSim.ren (hc := [ab 92 e92 p0]) (fun i => List.getD [(0, 0)] i (0, 0)) (C80k1 _ _ h12) (.ac (.nil _)) (.cons (Rn.any _ _ _ _ _ _ (Nat.le_of_ble_eq_true rfl) rfl rfl (by decide)) (.cons (Rn.func' .nil .nil) .nil)) (Rn.acc (i' := 5) (Nat.le_of_ble_eq_true rfl) rfl) (newflat_cons (accB_flat (fun _ => rfl)) newflat_nil)) (TI.rn 1 [4, 5, 30, 32, 33] [0, 1, 2, 3, 4, 5] (st 41 [(4, pt 2 0), (5, pt 3 0), (30, accV 4 r9.length), (32, accV 5 r11.length), (33, .func (.func 83) ⟨[]⟩ ⟨[pt 1 0]⟩)]) [ab 92 e92 p0, cl 3 [iv p1], cl 29 [iv 0, iv 0], cl 29 [iv 0, iv 0], ab 55 e55 r9, ab 55 e55 r11] (TI.cp 79 [accV 4 r9.length, accV 5 r11.length, .func (.func 83) ⟨[]⟩ ⟨[pt 1 0]⟩] (.tuple ⟨[ag [iv r13.1.1, iv r13.1.2], ag [iv r13.2.1, iv r13.2.2]]⟩) [] (PureSim.ren (hc := [ab 55 e55 r9, ab 55 e55 r11, cl 3 [iv p1]]) (fun i => List.getD [(4, 0), (5, 0), (1, 0)] i (0, 0)) (C79 _ _ _ _ h14) (.ac (.ac (.lt (.fl .nil) (.nil _)))) (.cons (Rn.accA (i' := 4) (Nat.le_of_ble_eq_true rfl) rfl) (.cons (Rn.accA (i' := 5) (Nat.le_of_ble_eq_true rfl) rfl) (.cons (Rn.func' .nil (.pp .nil)) .nil))) (.flat (by kernel_rfl)) newflat_nil) (TI.rn 7 [4, 5, 7, 8] [0, 2, 3, 6, 7] (st 41 [(4, pt 2 0), (5, pt 3 0), (7, pt 6 0), (8, pt 7 0)]) (H34_3 p0 r13) (TI.dn ?_))))))))
  refine NX.sq (TS.sq ?_)
  have hX := of_do hF
  clear hF
  obtain ⟨r15, h16, hF⟩ := hX
  have hX := of_do hF
  clear hF
  obtain ⟨r17, h18, hF⟩ := hX
  have hT : ∀ e ∈ ([⟨56, [ag [iv r13.1.1, iv r13.1.2]], (H34_3 p0 r13), ag [iv r15.1, iv r15.2], []⟩, ⟨56, [ag [iv r13.2.1, iv r13.2.2]], (H34_3 p0 r13), ag [iv r17.1, iv r17.2], []⟩] : List Entry), PureSim Try.prog e.g e.args e.h e.v e.new := by
   intro e he
   simp only [List.mem_cons, List.not_mem_nil, or_false] at he
   rcases he with rfl | rfl
   · exact PureSim.ak (C56 _ _ _ h16)
   exact PureSim.ak (C56 _ _ _ h18)
  refine TS.dp [⟨56, [ag [iv r13.1.1, iv r13.1.2]], (H34_3 p0 r13), ag [iv r15.1, iv r15.2], []⟩, ⟨56, [ag [iv r13.2.1, iv r13.2.2]], (H34_3 p0 r13), ag [iv r17.1, iv r17.2], []⟩] hT mixed 3 [4, 5, 6] [0, 2, 3] (st 41 [(4, pt 2 0), (5, pt 3 0), (6, iv 0)]) [ab 92 e92 p0, .dead, cl 29 [iv r15.1, iv r15.2], cl 29 [iv r17.1, iv r17.2], .dead, .dead, .dead, .dead] ?_ ?_
  · refine QJ.rn (qs (st 41 [(4, pt 2 0), (5, pt 3 0), (7, pt 6 0), (8, pt 7 0), (37, ag [iv r13.1.1, iv r13.1.2])]) (H34_3 p0 r13) [] []) 1 (QJ.o { val := ag [iv r15.1, iv r15.2], new := [] } (qOf_call (g := 56) (args := [ag [iv r13.1.1, iv r13.1.2]]) (by kernel_rfl) lookC_hit) (QJ.rn (qs (st 41 [(4, pt 2 0), (5, pt 3 0), (7, pt 6 0), (8, pt 7 0), (37, ag [iv r13.1.1, iv r13.1.2]), (38, ag [iv r15.1, iv r15.2]), (39, ag [iv r13.2.1, iv r13.2.2])]) (H34_3 p0 r13) [] []) 1 (QJ.dn ⟨rfl, ?_⟩)))
    exact SJ.o { val := ag [iv r17.1, iv r17.2], new := [] } (qOf_call (g := 56) (args := [ag [iv r13.2.1, iv r13.2.2]]) (by kernel_rfl) (lookC_skip (by intro _ ha hh; first | (exact absurd (congrArg List.length hh) (Nat.ne_of_beq_eq_false rfl)) | (have hr := Option.some.inj (h16.symm.trans (Eq.trans (congr (congrArg F56 (show r13.1.1 = r13.2.1 from congrArg (leafI 0) ha)) (show r13.1.2 = r13.2.2 from congrArg (leafI 1) ha)) h18)); first | (subst hr; rfl) | (cases hr; done) | (cases hr; rfl))) lookC_hit)) SJ.la
  refine TS.rt ?_
  have hF := Option.some.inj hF
  subst hF
  exact ⟨.inr rfl, rfl, .tuple ⟨[ag [iv r15.1, iv r15.2], ag [iv r17.1, iv r17.2], iv 0]⟩, by kernel_rfl, WkV.flat0 (by kernel_rfl) (Nat.le_of_ble_eq_true rfl)⟩
theorem C34 (p0 : (List (Int × (Int × Int)))) (p1 : Int) (r : ((Int × Int) × (Int × Int) × Int)) (hF : F34 p0 p1 = some r) : PureSim Try.prog 34 [sv 0 p0.length ANY, iv p1] [ab 92 e92 p0] (V34 1 r) (N34 1 r) :=
 PureSim.of_Fin Try.func34 (c := c34) (by kernel_rfl) (by kernel_rfl) 1 rfl [0, 1] [0] (by kernel_rfl) (B34 p0 p1 r hF)
end
end Go.Proofs.Ythpfffijnkmdgaa
