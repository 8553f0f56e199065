/- What functions of the program compute, and that they do. -/
import Derived.Test.YtiaippkjgmccoaaKS
set_option linter.unusedVariables false
set_option linter.unusedSimpArgs false
set_option maxRecDepth 100000
set_option maxHeartbeats 4000000
namespace Go.Proofs.Ytiaippkjgmccoaa
open Go Go.Cl
noncomputable section
def u4 (x : Bool) : Value := .bool x
theorem u4_flat (x : Bool) : flat1 (u4 x) = true := by kernel_rfl
noncomputable def c46 : Code := Try.f46.code
def H46_0 (p1 : (List ((Int × Bool) × (Int × Bool)))) (p0 : Int) (p4 : Int) (p5 : Bool) : List Blk := [ab 86 e86 p1, cl 24 [iv p0, sv 0 p1.length ANY], .dead, cl 50 [iv p4, .bool p5], .map 50 (List.map (mEnc u50 u4) ([] : (List ((Int × Bool) × Bool))))]
def H46_1 (p1 : (List ((Int × Bool) × (Int × Bool)))) (p0 : Int) (p4 : Int) (p5 : Bool) (v110 : (List ((Int × Bool) × Bool))) : List Blk := [ab 86 e86 p1, cl 24 [iv p0, sv 0 p1.length ANY], cl 50 [iv p4, .bool p5], mb 50 u50 u4 v110]
def S46_2 (v109 : Int) (v300 : Int) : CAct := (st 61 [(3, pt 1 0), (5, pt 2 0), (8, iv v109), (9, .map (some 3)), (10, pt 4 0), (11, iv v300), (31, pt 5 0), (44, sv 7 2 2), (45, iv 2), (46, iv 0)])
def S46_3 (v109 : Int) (v300 : Int) : CAct := (st 61 [(3, pt 1 0), (5, pt 2 0), (8, iv v109), (9, .map (some 3)), (10, pt 4 0), (11, iv v300), (31, pt 5 0), (44, sv 7 2 2), (45, iv 2), (46, iv 1)])
def S46_4 (v109 : Int) (v300 : Int) : CAct := (st 61 [(3, pt 1 0), (5, pt 2 0), (8, iv v109), (9, .map (some 3)), (10, pt 4 0), (11, iv (w64 (v300 + 1))), (31, pt 5 0)])
def S46_5 (v109 : Int) : CAct := (st 61 [(3, pt 1 0), (5, pt 2 0), (8, iv v109), (9, .map (some 3)), (31, pt 4 0), (33, .bool true)])
def S46_6 (v109 : Int) : CAct := (st 61 [(3, pt 1 0), (5, pt 2 0), (8, iv v109), (9, .map (some 3)), (31, pt 4 0)])
def F46l2 (p0 : Int) (p1 : (List ((Int × Bool) × (Int × Bool)))) (p4 : Int) (p5 : Bool) (v109 : Int) (v224 : ((Int × Bool) × Bool)) (v300 : Int) (v301 : (List ((Int × Bool) × Bool))) : Option (List ((Int × Bool) × Bool)) :=
 if decide (v300 < p0) then
  F79 p0 p1 v224.1.1 v224.1.2 v300 false >>= fun r312 =>
  (
   if r312 then
    some (mput v301 (v300, false) true)
   else
    some v301
  : Option (List ((Int × Bool) × Bool))) >>= fun m316 =>
  F79 p0 p1 v224.1.1 v224.1.2 v300 true >>= fun r318 =>
  (
   if r318 then
    some (mput m316 (v300, true) true)
   else
    some m316
  : Option (List ((Int × Bool) × Bool))) >>= fun m322 =>
  F46l2 p0 p1 p4 p5 v109 v224 (w64 (v300 + 1)) m322
 else
  some v301
 partial_fixpoint
def F46r2 (p0 : Int) (p1 : (List ((Int × Bool) × (Int × Bool)))) (p4 : Int) (p5 : Bool) (v109 : Int) (v110 : (List ((Int × Bool) × Bool))) (z326 : (List ((Int × Bool) × Bool))) (v224 : (Int × Bool) × Bool) : Option ((List ((Int × Bool) × Bool)) ⊕ (List ((Int × Bool) × Bool))) :=
 F46l2 p0 p1 p4 p5 v109 v224 0 (mput z326 (v224.1.1, v224.1.2) true) >>= fun r324 =>
 some (.inl r324)
def F46l1 (p0 : Int) (p1 : (List ((Int × Bool) × (Int × Bool)))) (p4 : Int) (p5 : Bool) (v109 : Int) (v110 : (List ((Int × Bool) × Bool))) : (List ((Int × Bool) × Bool)) → List ((Int × Bool) × Bool) → Option (List ((Int × Bool) × Bool))
 | z326, [] =>
  some z326
 | z326, q :: es => (F46r2 p0 p1 p4 p5 v109 v110 z326 q).bind fun w => match w with | .inl z2 => F46l1 p0 p1 p4 p5 v109 v110 z2 es | .inr r2 => some r2
def F46l0 (p0 : Int) (p1 : (List ((Int × Bool) × (Int × Bool)))) (p4 : Int) (p5 : Bool) : Nat → Int → (List ((Int × Bool) × Bool)) → Option (Int ⊕ Unit)
 | 0, _, _ => none
 | fuel + 1, v109, v110 =>
  if decide (v109 ≤ (w64 (2 * p0))) then
   some (Option.getD (mget v110 (p4, p5)) false) >>= fun o222 =>
   if o222 then
    some (.inl v109)
   else
    permAll (fun es => F46l1 p0 p1 p4 p5 v109 v110 ([] : (List ((Int × Bool) × Bool))) es >>= fun r327 =>
     F46l0 p0 p1 p4 p5 fuel (w64 (v109 + 1)) r327
     ) v110
  else
   some (.inr ())
def F46 (p0 : Int) (p1 : (List ((Int × Bool) × (Int × Bool)))) (p2 : Int) (p3 : Bool) (p4 : Int) (p5 : Bool) : Option Int :=
 F46l0 p0 p1 p4 p5 64 1 (mput ([] : (List ((Int × Bool) × Bool))) (p2, p3) true) >>= fun r329 =>
 match r329 with
 | .inl o331 =>
  some o331
 | .inr o332 =>
  some 0
def V46 (b : Nat) (r : Int) : Value := iv r
def N46 (b : Nat) (r : Int) : List Blk := []
def P46l2 (p0 : Int) (p1 : (List ((Int × Bool) × (Int × Bool)))) (p4 : Int) (p5 : Bool) (v109 : Int) (v224 : ((Int × Bool) × Bool)) (clock3_1 : Nat) (seen3_1 : Array Nat) (en3_1 : MapEntry) (arr3_1 : Array MapEntry) (r : (List ((Int × Bool) × Bool))) : Post := fun e a h => e = .exit 4 ∧ Wk Try.prog 1 1 a h (S46_6 v109) [ab 86 e86 p1, cl 24 [iv p0, sv 0 p1.length ANY], cl 50 [iv p4, .bool p5], mb 50 u50 u4 r, .iter 5 clock3_1 (Array.push seen3_1 en3_1.born) clock3_1, .mapS 50 arr3_1 clock3_1]
theorem L46l2 (p0 : Int) (p1 : (List ((Int × Bool) × (Int × Bool)))) (p4 : Int) (p5 : Bool) (v109 : Int) (v224 : ((Int × Bool) × Bool)) (clock3_1 : Nat) (seen3_1 : Array Nat) (en3_1 : MapEntry) (arr3_1 : Array MapEntry) (v300 : Int) (v301 : (List ((Int × Bool) × Bool))) (r : (List ((Int × Bool) × Bool))) (hF : F46l2 p0 p1 p4 p5 v109 v224 v300 v301 = some r) : TL Try.prog 1 1 c46.s2.s2.s1.s2.bd.bd.s2.s1.bd.s2.s2.s1.s2.bd.bd.s2.s2.bd.s2.s2.s2.bd.bd (st 61 [(3, pt 1 0), (5, pt 2 0), (8, iv v109), (9, .map (some 3)), (10, pt 4 0), (11, iv v300), (31, pt 5 0)]) [ab 86 e86 p1, cl 24 [iv p0, sv 0 p1.length ANY], cl 50 [iv p4, .bool p5], mb 50 u50 u4 v301, cl 50 [iv v224.1.1, .bool v224.1.2], .iter 6 clock3_1 (Array.push seen3_1 en3_1.born) clock3_1, .mapS 50 arr3_1 clock3_1] (P46l2 p0 p1 p4 p5 v109 v224 clock3_1 seen3_1 en3_1 arr3_1 r) := by
 refine F46l2.partial_correctness p0 p1 p4 p5 v109 v224 (motive := fun v300 v301 r => TL Try.prog 1 1 c46.s2.s2.s1.s2.bd.bd.s2.s1.bd.s2.s2.s1.s2.bd.bd.s2.s2.bd.s2.s2.s2.bd.bd (st 61 [(3, pt 1 0), (5, pt 2 0), (8, iv v109), (9, .map (some 3)), (10, pt 4 0), (11, iv v300), (31, pt 5 0)]) [ab 86 e86 p1, cl 24 [iv p0, sv 0 p1.length ANY], cl 50 [iv p4, .bool p5], mb 50 u50 u4 v301, cl 50 [iv v224.1.1, .bool v224.1.2], .iter 6 clock3_1 (Array.push seen3_1 en3_1.born) clock3_1, .mapS 50 arr3_1 clock3_1] (P46l2 p0 p1 p4 p5 v109 v224 clock3_1 seen3_1 en3_1 arr3_1 r)) ?_ v300 v301 r hF
 clear hF r v300 v301
 intro again ih v300 v301 r hF
 refine TL.round (TS.sq (TS.sq (TS.rg (TI.ra 4 [3, 5, 8, 9, 10, 11, 31, 41] (st 61 [(3, pt 1 0), (5, pt 2 0), (8, iv v109), (9, .map (some 3)), (10, pt 4 0), (11, iv v300), (31, pt 5 0), (41, .bool (decide (v300 < p0)))]) (TI.dn (NX.sq ?_))))))
 refine TS.cd (.tmp 41) (decide (v300 < p0)) (fun hc311 => ?_) (fun hc311 => ?_)
 · replace hF := of_pos hF hc311
   refine TS.sk (NX.sq (TS.sq (TS.bk 5 (TS.sq (TS.rg (TI.rn 3 [3, 5, 8, 9, 10, 11, 31, 44, 45, 46] [0, 1, 2, 3, 4, 5, 6, 7] (S46_2 v109 v300) [ab 86 e86 p1, cl 24 [iv p0, sv 0 p1.length ANY], cl 50 [iv p4, .bool p5], mb 50 u50 u4 v301, cl 50 [iv v224.1.1, .bool v224.1.2], .iter 6 clock3_1 (Array.push seen3_1 en3_1.born) clock3_1, .mapS 50 arr3_1 clock3_1, cl 4 [.bool false, .bool true]] (TI.dn (NX.sq ?_))))))))
   refine TS.bk 6 (TS.lp (TL.round (TS.sq (TS.rg (TI.ra 1 [3, 5, 8, 9, 10, 11, 31, 44, 45, 46, 47] (st 61 [(3, pt 1 0), (5, pt 2 0), (8, iv v109), (9, .map (some 3)), (10, pt 4 0), (11, iv v300), (31, pt 5 0), (44, sv 7 2 2), (45, iv 2), (46, iv 0), (47, .bool true)]) (TI.dn (NX.sq (TS.sq ?_))))))))
   refine TS.cdT (.tmp 47) (TS.sk (NX.sq (TS.sq (TS.bk 7 (TS.sq (TS.rg (TI.ra 3 [3, 5, 8, 9, 10, 11, 13, 31, 44, 45, 46] (st 61 [(3, pt 1 0), (5, pt 2 0), (8, iv v109), (9, .map (some 3)), (10, pt 4 0), (11, iv v300), (13, .bool false), (31, pt 5 0), (44, sv 7 2 2), (45, iv 2), (46, iv 0)]) (TI.dn ?_))))))))
   refine NX.sq (TS.sq (TS.rg (TI.rn 5 [3, 5, 8, 9, 10, 11, 14, 31, 44, 45, 46] [0, 1, 2, 3, 4, 5, 6, 7, 8] (st 61 [(3, pt 1 0), (5, pt 2 0), (8, iv v109), (9, .map (some 3)), (10, pt 4 0), (11, iv v300), (14, pt 8 0), (31, pt 5 0), (44, sv 7 2 2), (45, iv 2), (46, iv 0)]) [ab 86 e86 p1, cl 24 [iv p0, sv 0 p1.length ANY], cl 50 [iv p4, .bool p5], mb 50 u50 u4 v301, cl 50 [iv v224.1.1, .bool v224.1.2], .iter 6 clock3_1 (Array.push seen3_1 en3_1.born) clock3_1, .mapS 50 arr3_1 clock3_1, cl 4 [.bool false, .bool true], cl 50 [iv v300, .bool false]] (TI.dn (NX.sq (TS.sq ?_))))))
   have hX := of_do hF
   clear hF
   obtain ⟨r312, h313, hF⟩ := hX
   refine TS.rg (TI.ra 3 [3, 5, 8, 9, 10, 11, 14, 31, 44, 45, 46, 53, 54, 55] (st 61 [(3, pt 1 0), (5, pt 2 0), (8, iv v109), (9, .map (some 3)), (10, pt 4 0), (11, iv v300), (14, pt 8 0), (31, pt 5 0), (44, sv 7 2 2), (45, iv 2), (46, iv 0), (53, ag [iv p0, sv 0 p1.length ANY]), (54, ag [iv v224.1.1, .bool v224.1.2]), (55, ag [iv v300, .bool false])]) (TI.callM (g := 79) (args := [ag [iv p0, sv 0 p1.length ANY], ag [iv v224.1.1, .bool v224.1.2], ag [iv v300, .bool false]]) (v := .bool r312) (new := []) (by kernel_rfl) (PureSim.ren (hc := [ab 86 e86 p1]) (fun i => List.getD [(0, 0)] i (0, 0)) (C79 _ _ _ _ _ _ _ h313) (.ac (.nil _)) (.cons (Rn.agg' (.fl (.cons (Rn.any _ _ _ _ _ _ (Nat.le_of_ble_eq_true rfl) rfl rfl (by decide)) .nil))) (.fl (.fl .nil))) (.flat (by kernel_rfl)) newflat_nil) [3, 5, 8, 9, 10, 11, 14, 31, 44, 45, 46, 56] [0, 1, 2, 3, 4, 5, 6, 7, 8] (a2 := (st 61 [(3, pt 1 0), (5, pt 2 0), (8, iv v109), (9, .map (some 3)), (10, pt 4 0), (11, iv v300), (14, pt 8 0), (31, pt 5 0), (44, sv 7 2 2), (45, iv 2), (46, iv 0), (56, .bool r312)])) (h2 := [ab 86 e86 p1, cl 24 [iv p0, sv 0 p1.length ANY], cl 50 [iv p4, .bool p5], mb 50 u50 u4 v301, cl 50 [iv v224.1.1, .bool v224.1.2], .iter 6 clock3_1 (Array.push seen3_1 en3_1.born) clock3_1, .mapS 50 arr3_1 clock3_1, cl 4 [.bool false, .bool true], cl 50 [iv v300, .bool false]]) (by kernel_rfl) (TI.dn (NX.sq ?_))))
   have hX := of_do hF
   clear hF
   obtain ⟨m316, hm317, hF⟩ := hX
   have hK : NX Try.prog 1 1 [.bk 7, .sq c46.s2.s2.s1.s2.bd.bd.s2.s1.bd.s2.s2.s1.s2.bd.bd.s2.s2.bd.s2.s2.s2.bd.bd.s2.s1.bd.s2.bd.bd.s2.s2.s2] (Rd Try.prog 1 1 c46.s2.s2.s1.s2.bd.bd.s2.s1.bd.s2.s2.s1.s2.bd.bd.s2.s2.bd.s2.s2.s2.bd.bd.s2.s1.bd.s2.bd.bd (NX Try.prog 1 1 [.bk 6, .bk 5, .sq c46.s2.s2.s1.s2.bd.bd.s2.s1.bd.s2.s2.s1.s2.bd.bd.s2.s2.bd.s2.s2.s2.bd.bd.s2.s2] (Rd Try.prog 1 1 c46.s2.s2.s1.s2.bd.bd.s2.s1.bd.s2.s2.s1.s2.bd.bd.s2.s2.bd.s2.s2.s2.bd.bd (P46l2 p0 p1 p4 p5 v109 v224 clock3_1 seen3_1 en3_1 arr3_1 r)))) .normal (S46_2 v109 v300) [ab 86 e86 p1, cl 24 [iv p0, sv 0 p1.length ANY], cl 50 [iv p4, .bool p5], mb 50 u50 u4 m316, cl 50 [iv v224.1.1, .bool v224.1.2], .iter 6 clock3_1 (Array.push seen3_1 en3_1.born) clock3_1, .mapS 50 arr3_1 clock3_1, cl 4 [.bool false, .bool true]] := by
    refine NX.bk (NX.sq (TS.rg (TI.ra 2 [3, 5, 8, 9, 10, 11, 31, 44, 45, 46] (S46_3 v109 v300) (TI.dn ?_))))
    refine Rd.again Wk.refl (TL.round (TS.sq (TS.rg (TI.ra 1 [3, 5, 8, 9, 10, 11, 31, 44, 45, 46, 47] (st 61 [(3, pt 1 0), (5, pt 2 0), (8, iv v109), (9, .map (some 3)), (10, pt 4 0), (11, iv v300), (31, pt 5 0), (44, sv 7 2 2), (45, iv 2), (46, iv 1), (47, .bool true)]) (TI.dn (NX.sq (TS.sq (TS.cdT (.tmp 47) (TS.sk ?_)))))))))
    refine NX.sq (TS.sq (TS.bk 7 (TS.sq (TS.rg (TI.ra 3 [3, 5, 8, 9, 10, 11, 13, 31, 44, 45, 46] (st 61 [(3, pt 1 0), (5, pt 2 0), (8, iv v109), (9, .map (some 3)), (10, pt 4 0), (11, iv v300), (13, .bool true), (31, pt 5 0), (44, sv 7 2 2), (45, iv 2), (46, iv 1)]) (TI.dn (NX.sq (TS.sq ?_))))))))
    refine TS.rg (TI.rn 5 [3, 5, 8, 9, 10, 11, 14, 31, 44, 45, 46] [0, 1, 2, 3, 4, 5, 6, 7, 8] (st 61 [(3, pt 1 0), (5, pt 2 0), (8, iv v109), (9, .map (some 3)), (10, pt 4 0), (11, iv v300), (14, pt 8 0), (31, pt 5 0), (44, sv 7 2 2), (45, iv 2), (46, iv 1)]) [ab 86 e86 p1, cl 24 [iv p0, sv 0 p1.length ANY], cl 50 [iv p4, .bool p5], mb 50 u50 u4 m316, cl 50 [iv v224.1.1, .bool v224.1.2], .iter 6 clock3_1 (Array.push seen3_1 en3_1.born) clock3_1, .mapS 50 arr3_1 clock3_1, cl 4 [.bool false, .bool true], cl 50 [iv v300, .bool true]] (TI.dn (NX.sq (TS.sq ?_))))
    have hX := of_do hF
    clear hF
    obtain ⟨r318, h319, hF⟩ := hX
    refine TS.rg (TI.ra 3 [3, 5, 8, 9, 10, 11, 14, 31, 44, 45, 46, 53, 54, 55] (st 61 [(3, pt 1 0), (5, pt 2 0), (8, iv v109), (9, .map (some 3)), (10, pt 4 0), (11, iv v300), (14, pt 8 0), (31, pt 5 0), (44, sv 7 2 2), (45, iv 2), (46, iv 1), (53, ag [iv p0, sv 0 p1.length ANY]), (54, ag [iv v224.1.1, .bool v224.1.2]), (55, ag [iv v300, .bool true])]) (TI.callM (g := 79) (args := [ag [iv p0, sv 0 p1.length ANY], ag [iv v224.1.1, .bool v224.1.2], ag [iv v300, .bool true]]) (v := .bool r318) (new := []) (by kernel_rfl) (PureSim.ren (hc := [ab 86 e86 p1]) (fun i => List.getD [(0, 0)] i (0, 0)) (C79 _ _ _ _ _ _ _ h319) (.ac (.nil _)) (.cons (Rn.agg' (.fl (.cons (Rn.any _ _ _ _ _ _ (Nat.le_of_ble_eq_true rfl) rfl rfl (by decide)) .nil))) (.fl (.fl .nil))) (.flat (by kernel_rfl)) newflat_nil) [3, 5, 8, 9, 10, 11, 14, 31, 44, 45, 46, 56] [0, 1, 2, 3, 4, 5, 6, 7, 8] (a2 := (st 61 [(3, pt 1 0), (5, pt 2 0), (8, iv v109), (9, .map (some 3)), (10, pt 4 0), (11, iv v300), (14, pt 8 0), (31, pt 5 0), (44, sv 7 2 2), (45, iv 2), (46, iv 1), (56, .bool r318)])) (h2 := [ab 86 e86 p1, cl 24 [iv p0, sv 0 p1.length ANY], cl 50 [iv p4, .bool p5], mb 50 u50 u4 m316, cl 50 [iv v224.1.1, .bool v224.1.2], .iter 6 clock3_1 (Array.push seen3_1 en3_1.born) clock3_1, .mapS 50 arr3_1 clock3_1, cl 4 [.bool false, .bool true], cl 50 [iv v300, .bool true]]) (by kernel_rfl) (TI.dn (NX.sq ?_))))
    have hX := of_do hF
    clear hF
    obtain ⟨m322, hm323, hF⟩ := hX
    have hK : NX Try.prog 1 1 [.bk 7, .sq c46.s2.s2.s1.s2.bd.bd.s2.s1.bd.s2.s2.s1.s2.bd.bd.s2.s2.bd.s2.s2.s2.bd.bd.s2.s1.bd.s2.bd.bd.s2.s2.s2] (Rd Try.prog 1 1 c46.s2.s2.s1.s2.bd.bd.s2.s1.bd.s2.s2.s1.s2.bd.bd.s2.s2.bd.s2.s2.s2.bd.bd.s2.s1.bd.s2.bd.bd (NX Try.prog 1 1 [.bk 6, .bk 5, .sq c46.s2.s2.s1.s2.bd.bd.s2.s1.bd.s2.s2.s1.s2.bd.bd.s2.s2.bd.s2.s2.s2.bd.bd.s2.s2] (Rd Try.prog 1 1 c46.s2.s2.s1.s2.bd.bd.s2.s1.bd.s2.s2.s1.s2.bd.bd.s2.s2.bd.s2.s2.s2.bd.bd (P46l2 p0 p1 p4 p5 v109 v224 clock3_1 seen3_1 en3_1 arr3_1 r)))) .normal (S46_3 v109 v300) [ab 86 e86 p1, cl 24 [iv p0, sv 0 p1.length ANY], cl 50 [iv p4, .bool p5], mb 50 u50 u4 m322, cl 50 [iv v224.1.1, .bool v224.1.2], .iter 6 clock3_1 (Array.push seen3_1 en3_1.born) clock3_1, .mapS 50 arr3_1 clock3_1, cl 4 [.bool false, .bool true]] := by
     refine NX.bk (NX.sq (TS.rg (TI.ra 2 [3, 5, 8, 9, 10, 11, 31, 44, 45, 46] (st 61 [(3, pt 1 0), (5, pt 2 0), (8, iv v109), (9, .map (some 3)), (10, pt 4 0), (11, iv v300), (31, pt 5 0), (44, sv 7 2 2), (45, iv 2), (46, iv 2)]) (TI.dn ?_))))
     refine Rd.again Wk.refl (TL.round (TS.sq (TS.rg (TI.ra 1 [3, 5, 8, 9, 10, 11, 31, 44, 45, 46, 47] (st 61 [(3, pt 1 0), (5, pt 2 0), (8, iv v109), (9, .map (some 3)), (10, pt 4 0), (11, iv v300), (31, pt 5 0), (44, sv 7 2 2), (45, iv 2), (46, iv 2), (47, .bool false)]) (TI.dn (NX.sq (TS.sq (TS.cdF (.tmp 47) (TS.ex 6 ?_)))))))))
     refine NX.sqX ?_
     refine Rd.out (by simp) (NX.bkX (NX.bk (NX.sq (TS.rg (TI.rn 3 [3, 5, 8, 9, 10, 11, 31] [0, 1, 2, 3, 4, 5, 6] (S46_4 v109 v300) [ab 86 e86 p1, cl 24 [iv p0, sv 0 p1.length ANY], cl 50 [iv p4, .bool p5], mb 50 u50 u4 m322, cl 50 [iv v224.1.1, .bool v224.1.2], .iter 6 clock3_1 (Array.push seen3_1 en3_1.born) clock3_1, .mapS 50 arr3_1 clock3_1, .dead] (TI.dn ?_))))))
     exact Rd.again (a2 := (S46_4 v109 v300)) (h2 := [ab 86 e86 p1, cl 24 [iv p0, sv 0 p1.length ANY], cl 50 [iv p4, .bool p5], mb 50 u50 u4 m322, cl 50 [iv v224.1.1, .bool v224.1.2], .iter 6 clock3_1 (Array.push seen3_1 en3_1.born) clock3_1, .mapS 50 arr3_1 clock3_1]) (Wk.an [1, 2, 3, 4, 5, 6] (.ac (.lt (.fl (.sl .nil)) (.lt (.fl (.fl .nil)) (.cons (At.blk (by kernel_rfl) (RnB.map _ _)) (.lt (.fl (.fl .nil)) (.cons (At.blk (by kernel_rfl) (RnB.iter _ _ _ _ (Nat.le_of_ble_eq_true rfl))) (.cons (At.blk (by kernel_rfl) (RnB.mapS _ _ _)) (.nil _)))))))) [pt 1 0, pt 2 0, iv v109, .map (some 3), pt 4 0, iv (w64 (v300 + 1)), pt 5 0] (.pp (.pp (.fl (.cons (Rn.map _ (Nat.le_of_ble_eq_true rfl)) (.pp (.fl (.pp .nil)))))))) (ih (w64 (v300 + 1)) m322 _ hF)
    clear hF
    have hF := hm323
    clear hm323
    refine TS.start ?_
    cases r318 with
    | true =>
     replace hF := of_pos hF rfl
     refine TS.cdT (.tmp 56) (TS.rg (TI.rn 2 [3, 5, 8, 9, 10, 11, 31, 44, 45, 46, 57, 58] [0, 1, 2, 3, 4, 5, 6, 7] (st 61 [(3, pt 1 0), (5, pt 2 0), (8, iv v109), (9, .map (some 3)), (10, pt 4 0), (11, iv v300), (31, pt 5 0), (44, sv 7 2 2), (45, iv 2), (46, iv 1), (57, .map (some 3)), (58, ag [iv v300, .bool true])]) [ab 86 e86 p1, cl 24 [iv p0, sv 0 p1.length ANY], cl 50 [iv p4, .bool p5], mb 50 u50 u4 m316, cl 50 [iv v224.1.1, .bool v224.1.2], .iter 6 clock3_1 (Array.push seen3_1 en3_1.born) clock3_1, .mapS 50 arr3_1 clock3_1, cl 4 [.bool false, .bool true], .dead] (TI.o { val := undef, upd := some (3, .map 50 (List.map (mEnc u50 u4) (mput m316 (v300, true) true))) } (q_put (P := Try.prog) (hp := [ab 86 e86 p1, cl 24 [iv p0, sv 0 p1.length ANY], cl 50 [iv p4, .bool p5], mb 50 u50 u4 m316, cl 50 [iv v224.1.1, .bool v224.1.2], .iter 6 clock3_1 (Array.push seen3_1 en3_1.born) clock3_1, .mapS 50 arr3_1 clock3_1, cl 4 [.bool false, .bool true], .dead]) (r := 3) (l := m316) (k := (v300, true)) (kt := 50) (et := 4) (kv := u50) (vv := u4) (key := ag [iv v300, .bool true]) (base := 1) (t := 123) (val := .bool true) (y := true) (by kernel_rfl) rfl rfl (by decide) (by kernel_rfl) (by kernel_rfl) (by kernel_rfl) u50_fit u50_eq u4_flat) [3, 5, 8, 9, 10, 11, 31, 44, 45, 46] [0, 1, 2, 3, 4, 5, 6, 7] (S46_3 v109 v300) [ab 86 e86 p1, cl 24 [iv p0, sv 0 p1.length ANY], cl 50 [iv p4, .bool p5], .map 50 (List.map (mEnc u50 u4) (mput m316 (v300, true) true)), cl 50 [iv v224.1.1, .bool v224.1.2], .iter 6 clock3_1 (Array.push seen3_1 en3_1.born) clock3_1, .mapS 50 arr3_1 clock3_1, cl 4 [.bool false, .bool true], .dead] (TI.dn ?_))))
     have hF := Option.some.inj hF
     subst hF
     exact TS.weak (by exact (Wk.an [1, 2, 3, 4, 5, 6, 7] (.ac (.lt (.fl (.sl .nil)) (.lt (.fl (.fl .nil)) (.cons (At.blk (by kernel_rfl) (RnB.map _ _)) (.lt (.fl (.fl .nil)) (.cons (At.blk (by kernel_rfl) (RnB.iter _ _ _ _ (Nat.le_of_ble_eq_true rfl))) (.cons (At.blk (by kernel_rfl) (RnB.mapS _ _ _)) (.lt (.fl (.fl .nil)) (.nil _))))))))) [pt 1 0, pt 2 0, iv v109, .map (some 3), pt 4 0, iv v300, pt 5 0, sv 7 2 2, iv 2, iv 1] (.pp (.pp (.fl (.cons (Rn.map _ (Nat.le_of_ble_eq_true rfl)) (.pp (.fl (.pp (.sl (.fl (.fl .nil)))))))))))) hK
    | false =>
     replace hF := of_neg hF rfl
     refine TS.cdF (.tmp 56) (TS.sk ?_)
     have hF := Option.some.inj hF
     subst hF
     exact TS.weak (by exact (Wk.an [1, 2, 3, 4, 5, 6, 7] (.ac (.lt (.fl (.sl .nil)) (.lt (.fl (.fl .nil)) (.cons (At.blk (by kernel_rfl) (RnB.map _ _)) (.lt (.fl (.fl .nil)) (.cons (At.blk (by kernel_rfl) (RnB.iter _ _ _ _ (Nat.le_of_ble_eq_true rfl))) (.cons (At.blk (by kernel_rfl) (RnB.mapS _ _ _)) (.lt (.fl (.fl .nil)) (.nil _))))))))) [pt 1 0, pt 2 0, iv v109, .map (some 3), pt 4 0, iv v300, pt 5 0, sv 7 2 2, iv 2, iv 1] (.pp (.pp (.fl (.cons (Rn.map _ (Nat.le_of_ble_eq_true rfl)) (.pp (.fl (.pp (.sl (.fl (.fl .nil)))))))))))) hK
   clear hF
   have hF := hm317
   clear hm317
   refine TS.start ?_
   cases r312 with
   | true =>
    replace hF := of_pos hF rfl
    refine TS.cdT (.tmp 56) (TS.rg (TI.rn 2 [3, 5, 8, 9, 10, 11, 31, 44, 45, 46, 57, 58] [0, 1, 2, 3, 4, 5, 6, 7] (st 61 [(3, pt 1 0), (5, pt 2 0), (8, iv v109), (9, .map (some 3)), (10, pt 4 0), (11, iv v300), (31, pt 5 0), (44, sv 7 2 2), (45, iv 2), (46, iv 0), (57, .map (some 3)), (58, ag [iv v300, .bool false])]) [ab 86 e86 p1, cl 24 [iv p0, sv 0 p1.length ANY], cl 50 [iv p4, .bool p5], mb 50 u50 u4 v301, cl 50 [iv v224.1.1, .bool v224.1.2], .iter 6 clock3_1 (Array.push seen3_1 en3_1.born) clock3_1, .mapS 50 arr3_1 clock3_1, cl 4 [.bool false, .bool true], .dead] (TI.o { val := undef, upd := some (3, .map 50 (List.map (mEnc u50 u4) (mput v301 (v300, false) true))) } (q_put (P := Try.prog) (hp := [ab 86 e86 p1, cl 24 [iv p0, sv 0 p1.length ANY], cl 50 [iv p4, .bool p5], mb 50 u50 u4 v301, cl 50 [iv v224.1.1, .bool v224.1.2], .iter 6 clock3_1 (Array.push seen3_1 en3_1.born) clock3_1, .mapS 50 arr3_1 clock3_1, cl 4 [.bool false, .bool true], .dead]) (r := 3) (l := v301) (k := (v300, false)) (kt := 50) (et := 4) (kv := u50) (vv := u4) (key := ag [iv v300, .bool false]) (base := 1) (t := 123) (val := .bool true) (y := true) (by kernel_rfl) rfl rfl (by decide) (by kernel_rfl) (by kernel_rfl) (by kernel_rfl) u50_fit u50_eq u4_flat) [3, 5, 8, 9, 10, 11, 31, 44, 45, 46] [0, 1, 2, 3, 4, 5, 6, 7] (S46_2 v109 v300) [ab 86 e86 p1, cl 24 [iv p0, sv 0 p1.length ANY], cl 50 [iv p4, .bool p5], .map 50 (List.map (mEnc u50 u4) (mput v301 (v300, false) true)), cl 50 [iv v224.1.1, .bool v224.1.2], .iter 6 clock3_1 (Array.push seen3_1 en3_1.born) clock3_1, .mapS 50 arr3_1 clock3_1, cl 4 [.bool false, .bool true], .dead] (TI.dn ?_))))
    have hF := Option.some.inj hF
    subst hF
    exact TS.weak (by exact (Wk.an [1, 2, 3, 4, 5, 6, 7] (.ac (.lt (.fl (.sl .nil)) (.lt (.fl (.fl .nil)) (.cons (At.blk (by kernel_rfl) (RnB.map _ _)) (.lt (.fl (.fl .nil)) (.cons (At.blk (by kernel_rfl) (RnB.iter _ _ _ _ (Nat.le_of_ble_eq_true rfl))) (.cons (At.blk (by kernel_rfl) (RnB.mapS _ _ _)) (.lt (.fl (.fl .nil)) (.nil _))))))))) [pt 1 0, pt 2 0, iv v109, .map (some 3), pt 4 0, iv v300, pt 5 0, sv 7 2 2, iv 2, iv 0] (.pp (.pp (.fl (.cons (Rn.map _ (Nat.le_of_ble_eq_true rfl)) (.pp (.fl (.pp (.sl (.fl (.fl .nil)))))))))))) hK
   | false =>
    replace hF := of_neg hF rfl
    refine TS.cdF (.tmp 56) (TS.sk ?_)
    have hF := Option.some.inj hF
    subst hF
    exact TS.weak (by exact (Wk.an [1, 2, 3, 4, 5, 6, 7] (.ac (.lt (.fl (.sl .nil)) (.lt (.fl (.fl .nil)) (.cons (At.blk (by kernel_rfl) (RnB.map _ _)) (.lt (.fl (.fl .nil)) (.cons (At.blk (by kernel_rfl) (RnB.iter _ _ _ _ (Nat.le_of_ble_eq_true rfl))) (.cons (At.blk (by kernel_rfl) (RnB.mapS _ _ _)) (.lt (.fl (.fl .nil)) (.nil _))))))))) [pt 1 0, pt 2 0, iv v109, .map (some 3), pt 4 0, iv v300, pt 5 0, sv 7 2 2, iv 2, iv 0] (.pp (.pp (.fl (.cons (Rn.map _ (Nat.le_of_ble_eq_true rfl)) (.pp (.fl (.pp (.sl (.fl (.fl .nil)))))))))))) hK
 replace hF := of_neg hF hc311
 refine TS.ex 4 (NX.sqX ?_)
 have hF := Option.some.inj hF
 subst hF
 exact Rd.out (e := .exit 4) (by intro h; cases h) (And.intro rfl (Wk.an [1, 2, 3, 5, 6] (.ac (.lt (.fl (.sl .nil)) (.lt (.fl (.fl .nil)) (.cons (At.blk (by kernel_rfl) (RnB.map _ _)) (.cons (At.blk (by kernel_rfl) (RnB.iter _ _ _ _ (Nat.le_of_ble_eq_true rfl))) (.cons (At.blk (by kernel_rfl) (RnB.mapS _ _ _)) (.nil _))))))) [pt 1 0, pt 2 0, iv v109, .map (some 3), pt 5 0] (.pp (.pp (.fl (.cons (Rn.map _ (Nat.le_of_ble_eq_true rfl)) (.pp .nil)))))))
theorem F46l1_cons (p0 : Int) (p1 : (List ((Int × Bool) × (Int × Bool)))) (p4 : Int) (p5 : Bool) (v109 : Int) (v110 : (List ((Int × Bool) × Bool))) (z : (List ((Int × Bool) × Bool))) (q : (Int × Bool) × Bool) (es : List ((Int × Bool) × Bool)) : F46l1 p0 p1 p4 p5 v109 v110 (z) (q :: es) = (F46r2 p0 p1 p4 p5 v109 v110 z q).bind (mapNext (F46l1 p0 p1 p4 p5 v109 v110) es) := by rw [F46l1]; congr 1; funext w; cases w <;> rfl
def P46l1 (p0 : Int) (p1 : (List ((Int × Bool) × (Int × Bool)))) (p4 : Int) (p5 : Bool) (v109 : Int) (v110 : (List ((Int × Bool) × Bool))) (r : (List ((Int × Bool) × Bool))) : Post := fun e a h => e = .exit 2 ∧ Wk Try.prog 1 1 a h (st 61 [(3, pt 1 0), (5, pt 2 0), (8, iv v109), (9, .map (some 3))]) [ab 86 e86 p1, cl 24 [iv p0, sv 0 p1.length ANY], cl 50 [iv p4, .bool p5], mb 50 u50 u4 r]
theorem L46l1 (p0 : Int) (p1 : (List ((Int × Bool) × (Int × Bool)))) (p4 : Int) (p5 : Bool) (v109 : Int) (v110 : (List ((Int × Bool) × Bool))) {ρ : Type} (GG : (List ((Int × Bool) × Bool)) → Option ρ) (RR : ρ) (arr3_1 : Array MapEntry) (clock3_1 : Nat) (hst3_1 : Stamped arr3_1 clock3_1) (hkv3_1 : arr3_1.toList.map (fun e => (e.key, e.val)) = List.map (mEnc u50 u4) v110) : ∀ (m : Nat) (seen3_1 : Array Nat) (z326 : (List ((Int × Bool) × Bool))) (es : List ((Int × Bool) × Bool)), (leftOf arr3_1 seen3_1).size < m → Ents u50 u4 arr3_1 seen3_1 es → (∀ es2, List.Perm es2 es → (F46l1 p0 p1 p4 p5 v109 v110 z326 es2).bind GG = some RR) → TL Try.prog 1 1 c46.s2.s2.s1.s2.bd.bd.s2.s1.bd.s2.s2.s1.s2.bd.bd (S46_6 v109) [ab 86 e86 p1, cl 24 [iv p0, sv 0 p1.length ANY], cl 50 [iv p4, .bool p5], mb 50 u50 u4 z326, .iter 5 clock3_1 seen3_1 clock3_1, .mapS 50 arr3_1 clock3_1] (fun e a h => ∃ r, GG r = some RR ∧ P46l1 p0 p1 p4 p5 v109 v110 r e a h) := by
 intro m
 induction m with
 | zero => intro seen3_1 z326 es hm; omega
 | succ m ih =>
  intro seen3_1 z326 es hm hes hAll
  refine TL.round (TS.sq (TS.rg ?_))
  refine TI.next (it := (.tmp 31)) (i := 4) (m := 5) (since := clock3_1) (last := clock3_1) (seen := seen3_1) (arr := arr3_1) (clock := clock3_1) (kt := 50) (by kernel_rfl) (by kernel_rfl) (by decide) (by kernel_rfl) (by kernel_rfl) hst3_1.1 (Nat.le_refl _) (fun h0 => ?_) (fun en3_1 he3_1 => ?_)
  · obtain rfl := ents_none hes h0
    have hF := hAll [] (List.Perm.refl _)
    obtain ⟨r, hF, hG⟩ := Option.bind_eq_some_iff.1 hF
    refine TI.rn 0 [3, 5, 8, 9, 31, 32] [0, 1, 2, 3, 4, 5] (st 61 [(3, pt 1 0), (5, pt 2 0), (8, iv v109), (9, .map (some 3)), (31, pt 4 0), (32, .tuple ⟨[.bool false]⟩)]) [ab 86 e86 p1, cl 24 [iv p0, sv 0 p1.length ANY], cl 50 [iv p4, .bool p5], mb 50 u50 u4 z326, .iter 5 clock3_1 seen3_1 clock3_1, .mapS 50 arr3_1 clock3_1] (TI.ra 1 [3, 5, 8, 9, 31, 33] (st 61 [(3, pt 1 0), (5, pt 2 0), (8, iv v109), (9, .map (some 3)), (31, pt 4 0), (33, .bool false)]) (TI.dn (NX.sq (TS.sq (TS.cdF (.tmp 33) (TS.ex 2 (NX.sqX ?_)))))))
    have hF := Option.some.inj hF
    subst hF
    exact Rd.out (e := .exit 2) (by intro h; cases h) ⟨_, hG, And.intro rfl (Wk.an [1, 2, 3] (.ac (.lt (.fl (.sl .nil)) (.lt (.fl (.fl .nil)) (.cons (At.blk (by kernel_rfl) (RnB.map _ _)) (.nil _))))) [pt 1 0, pt 2 0, iv v109, .map (some 3)] (.pp (.pp (.fl (.cons (Rn.map _ (Nat.le_of_ble_eq_true rfl)) .nil)))))⟩
  obtain ⟨v224, es2, hk3_1, hv3_1, hp, hes2⟩ := ents_take hes hst3_1 he3_1
  have hA := perm_next (f := fun es => (F46l1 p0 p1 p4 p5 v109 v110 z326 es).bind GG) hAll hp
  simp only [F46l1_cons] at hA
  obtain ⟨_, hF, _⟩ := Option.bind_eq_some_iff.1 (hA es2 (List.Perm.refl _))
  obtain ⟨w, hF, _⟩ := Option.bind_eq_some_iff.1 hF
  replace hA : ∀ es3, List.Perm es3 es2 → (mapNext (F46l1 p0 p1 p4 p5 v109 v110) es3 w).bind GG = some RR := fun es3 he3 => by have h3 := hA es3 he3; rw [hF] at h3; exact h3
  rw [hk3_1, hv3_1]
  refine TI.rn 0 [3, 5, 8, 9, 31, 32] [0, 1, 2, 3, 4, 5] (st 61 [(3, pt 1 0), (5, pt 2 0), (8, iv v109), (9, .map (some 3)), (31, pt 4 0), (32, .tuple ⟨[.bool true, ag [iv v224.1.1, .bool v224.1.2], .bool v224.2]⟩)]) [ab 86 e86 p1, cl 24 [iv p0, sv 0 p1.length ANY], cl 50 [iv p4, .bool p5], mb 50 u50 u4 z326, .iter 5 clock3_1 (Array.push seen3_1 en3_1.born) clock3_1, .mapS 50 arr3_1 clock3_1] (TI.ra 1 [3, 5, 8, 9, 31, 33] (S46_5 v109) (TI.dn (NX.sq (TS.sq (TS.cdT (.tmp 33) (TS.sk (NX.sq (TS.bk 3 ?_))))))))
  refine TS.sq (TS.rg ?_)
  refine TI.entry (it := (.tmp 31)) (i := 4) (m := 5) (since := clock3_1) (seen := seen3_1) (arr := arr3_1) (clock := clock3_1) (kt := 50) (e := en3_1) (by kernel_rfl) (by kernel_rfl) (by kernel_rfl) (by kernel_rfl) (left_mem he3_1) hst3_1.2 (a1 := putAt c46.s2.s2.s1.s2.bd.bd.s2.s1.bd.s2.s2.s1.s2.bd.bd.s2.s2.bd.s1.rops 0 (S46_5 v109) (.tuple #[u50 v224.1, u4 v224.2])) (by rw [hk3_1, hv3_1]) (TI.rn 0 [3, 5, 8, 9, 31, 34] [0, 1, 2, 3, 4, 5] (st 61 [(3, pt 1 0), (5, pt 2 0), (8, iv v109), (9, .map (some 3)), (31, pt 4 0), (34, .tuple ⟨[ag [iv v224.1.1, .bool v224.1.2], .bool v224.2]⟩)]) [ab 86 e86 p1, cl 24 [iv p0, sv 0 p1.length ANY], cl 50 [iv p4, .bool p5], mb 50 u50 u4 z326, .iter 5 clock3_1 (Array.push seen3_1 en3_1.born) clock3_1, .mapS 50 arr3_1 clock3_1] (TI.rn 3 [3, 5, 8, 9, 10, 31] [0, 1, 2, 3, 4, 5, 6] (st 61 [(3, pt 1 0), (5, pt 2 0), (8, iv v109), (9, .map (some 3)), (10, pt 6 0), (31, pt 4 0)]) [ab 86 e86 p1, cl 24 [iv p0, sv 0 p1.length ANY], cl 50 [iv p4, .bool p5], mb 50 u50 u4 z326, .iter 5 clock3_1 (Array.push seen3_1 en3_1.born) clock3_1, .mapS 50 arr3_1 clock3_1, cl 50 [iv v224.1.1, .bool v224.1.2]] (TI.dn (NX.sq (TS.sq (TS.rg (TI.ra 2 [3, 5, 8, 9, 10, 31, 36, 37] (st 61 [(3, pt 1 0), (5, pt 2 0), (8, iv v109), (9, .map (some 3)), (10, pt 6 0), (31, pt 4 0), (36, .map (some 3)), (37, ag [iv v224.1.1, .bool v224.1.2])]) (TI.o { val := undef, upd := some (3, .map 50 (List.map (mEnc u50 u4) (mput z326 (v224.1.1, v224.1.2) true))) } (q_put (P := Try.prog) (hp := [ab 86 e86 p1, cl 24 [iv p0, sv 0 p1.length ANY], cl 50 [iv p4, .bool p5], mb 50 u50 u4 z326, .iter 5 clock3_1 (Array.push seen3_1 en3_1.born) clock3_1, .mapS 50 arr3_1 clock3_1, cl 50 [iv v224.1.1, .bool v224.1.2]]) (r := 3) (l := z326) (k := (v224.1.1, v224.1.2)) (kt := 50) (et := 4) (kv := u50) (vv := u4) (key := ag [iv v224.1.1, .bool v224.1.2]) (base := 1) (t := 123) (val := .bool true) (y := true) (by kernel_rfl) rfl rfl (by decide) (by kernel_rfl) (by kernel_rfl) (by kernel_rfl) u50_fit u50_eq u4_flat) [3, 5, 8, 9, 10, 31] [0, 1, 2, 3, 4, 5, 6] (st 61 [(3, pt 1 0), (5, pt 2 0), (8, iv v109), (9, .map (some 3)), (10, pt 6 0), (31, pt 4 0)]) [ab 86 e86 p1, cl 24 [iv p0, sv 0 p1.length ANY], cl 50 [iv p4, .bool p5], .map 50 (List.map (mEnc u50 u4) (mput z326 (v224.1.1, v224.1.2) true)), .iter 5 clock3_1 (Array.push seen3_1 en3_1.born) clock3_1, .mapS 50 arr3_1 clock3_1, cl 50 [iv v224.1.1, .bool v224.1.2]] ?_))))))))
  refine TI.dn (NX.sq (TS.sq (TS.rg (TI.ra 1 [3, 5, 8, 9, 10, 11, 31] (st 61 [(3, pt 1 0), (5, pt 2 0), (8, iv v109), (9, .map (some 3)), (10, pt 6 0), (11, iv 0), (31, pt 4 0)]) (TI.dn (NX.sq (TS.bk 4 ?_)))))))
  have hX := of_do hF
  clear hF
  obtain ⟨r324, h325, hF⟩ := hX
  refine TS.lp (TL.weak (a2 := (st 61 [(3, pt 1 0), (5, pt 2 0), (8, iv v109), (9, .map (some 3)), (10, pt 4 0), (11, iv 0), (31, pt 5 0)])) (h2 := [ab 86 e86 p1, cl 24 [iv p0, sv 0 p1.length ANY], cl 50 [iv p4, .bool p5], .map 50 (List.map (mEnc u50 u4) (mput z326 (v224.1.1, v224.1.2) true)), cl 50 [iv v224.1.1, .bool v224.1.2], .iter 6 clock3_1 (Array.push seen3_1 en3_1.born) clock3_1, .mapS 50 arr3_1 clock3_1]) (Wk.an [1, 2, 3, 6, 4, 5] (.ac (.lt (.fl (.sl .nil)) (.lt (.fl (.fl .nil)) (.cons (At.blk (by kernel_rfl) (RnB.map _ _)) (.lt (.fl (.fl .nil)) (.cons (At.blk (by kernel_rfl) (RnB.iter _ _ _ _ (Nat.le_of_ble_eq_true rfl))) (.cons (At.blk (by kernel_rfl) (RnB.mapS _ _ _)) (.nil _)))))))) [pt 1 0, pt 2 0, iv v109, .map (some 3), pt 6 0, iv 0, pt 4 0] (.pp (.pp (.fl (.cons (Rn.map _ (Nat.le_of_ble_eq_true rfl)) (.pp (.fl (.pp .nil)))))))) (TL.post (L46l2 p0 p1 p4 p5 v109 v224 clock3_1 seen3_1 en3_1 arr3_1 0 (mput z326 (v224.1.1, v224.1.2) true) r324 h325) ?_))
  rintro e a1 h1 hp
  obtain ⟨rfl, hw⟩ := hp
  refine ⟨(S46_6 v109), [ab 86 e86 p1, cl 24 [iv p0, sv 0 p1.length ANY], cl 50 [iv p4, .bool p5], mb 50 u50 u4 r324, .iter 5 clock3_1 (Array.push seen3_1 en3_1.born) clock3_1, .mapS 50 arr3_1 clock3_1], (NX.bkX (NX.bk ?_)), hw⟩
  have hF := Option.some.inj hF
  subst hF
  exact Rd.again (a2 := (S46_6 v109)) (h2 := [ab 86 e86 p1, cl 24 [iv p0, sv 0 p1.length ANY], cl 50 [iv p4, .bool p5], mb 50 u50 u4 r324, .iter 5 clock3_1 (Array.push seen3_1 en3_1.born) clock3_1, .mapS 50 arr3_1 clock3_1]) (Wk.an [1, 2, 3, 4, 5] (.ac (.lt (.fl (.sl .nil)) (.lt (.fl (.fl .nil)) (.cons (At.blk (by kernel_rfl) (RnB.map _ _)) (.cons (At.blk (by kernel_rfl) (RnB.iter _ _ _ _ (Nat.le_of_ble_eq_true rfl))) (.cons (At.blk (by kernel_rfl) (RnB.mapS _ _ _)) (.nil _))))))) [pt 1 0, pt 2 0, iv v109, .map (some 3), pt 4 0] (.pp (.pp (.fl (.cons (Rn.map _ (Nat.le_of_ble_eq_true rfl)) (.pp .nil)))))) (ih (Array.push seen3_1 en3_1.born) r324 es2 (by have := left_less he3_1; omega) hes2 (fun es3 he3 => hA es3 he3))
def P46l0 (p0 : Int) (p1 : (List ((Int × Bool) × (Int × Bool)))) (p4 : Int) (p5 : Bool) (r : (Int ⊕ Unit)) : Post := fun e a h => (match r with | .inl q0 => e = .ret ∧ Wk Try.prog 1 1 a h (st 61 [(6, iv q0)]) [ab 86 e86 p1] | .inr q0 => e = .exit 0 ∧ Wk Try.prog 1 1 a h (st 61 []) [ab 86 e86 p1])
theorem L46l0 (p0 : Int) (p1 : (List ((Int × Bool) × (Int × Bool)))) (p4 : Int) (p5 : Bool) : ∀ (fuel : Nat) (v109 : Int) (v110 : (List ((Int × Bool) × Bool))) (r : (Int ⊕ Unit)), F46l0 p0 p1 p4 p5 fuel v109 v110 = some r → TL Try.prog 1 1 c46.s2.s2.s1.s2.bd.bd (st 61 [(3, pt 1 0), (5, pt 2 0), (7, .map (some 3)), (8, iv v109)]) (H46_1 p1 p0 p4 p5 v110) (P46l0 p0 p1 p4 p5 r) := by
 intro fuel
 induction fuel with
 | zero => intro v109 v110 r hF; have h0 : none = some r := hF; cases h0
 | succ fuel ih =>
  intro v109 v110 r hF
  unfold F46l0 at hF
  refine TL.round (TS.sq (TS.sq (TS.rg (TI.ra 5 [3, 5, 7, 8, 22] (st 61 [(3, pt 1 0), (5, pt 2 0), (7, .map (some 3)), (8, iv v109), (22, .bool (decide (v109 ≤ (w64 (2 * p0)))))]) (TI.dn (NX.sq ?_))))))
  refine TS.cd (.tmp 22) (decide (v109 ≤ (w64 (2 * p0)))) (fun hc221 => ?_) (fun hc221 => ?_)
  · replace hF := of_pos hF hc221
    refine TS.sk (NX.sq (TS.sq (TS.bk 1 (TS.sq (TS.sq ?_)))))
    have hX := of_do hF
    clear hF
    obtain ⟨o222, h223, hF⟩ := hX
    replace h223 := Option.some.inj h223
    refine TS.rg (TI.ra 2 [3, 5, 7, 8, 25, 26] (st 61 [(3, pt 1 0), (5, pt 2 0), (7, .map (some 3)), (8, iv v109), (25, .map (some 3)), (26, ag [iv p4, .bool p5])]) (TI.o { val := .bool o222 } (q_gN Try.prog (H46_1 p1 p0 p4 p5 v110) 123 3 v110 (p4, p5) 50 4 u50 u4 (ag [iv p4, .bool p5]) false u50_fit u50_eq h223) [3, 5, 7, 8, 27] [0, 1, 2, 3] (st 61 [(3, pt 1 0), (5, pt 2 0), (7, .map (some 3)), (8, iv v109), (27, .bool o222)]) (H46_1 p1 p0 p4 p5 v110) (TI.dn (NX.sq ?_))))
    cases o222 with
    | true =>
     replace hF := of_pos hF rfl
     refine TS.cdT (.tmp 27) (TS.sq (TS.rg (TI.rn 2 [6] [0] (st 61 [(6, iv v109)]) [ab 86 e86 p1, .dead, .dead, .dead] (TI.dn (NX.sq (TS.rt (NX.sqR (NX.bkR ?_))))))))
     refine NX.sqR ?_
     have hF := Option.some.inj hF
     subst hF
     exact Rd.out (e := .ret) (by intro h; cases h) (And.intro rfl (Wk.an [] (.ac (.nil _)) [iv v109] (.fl .nil)))
    | false =>
     replace hF := of_neg hF rfl
     refine TS.cdF (.tmp 27) (TS.sk (NX.sq (TS.sq (TS.rg (TI.rn 2 [3, 5, 7, 8, 9] [0, 1, 2, 3, 4] (st 61 [(3, pt 1 0), (5, pt 2 0), (7, .map (some 3)), (8, iv v109), (9, .map (some 4))]) [ab 86 e86 p1, cl 24 [iv p0, sv 0 p1.length ANY], cl 50 [iv p4, .bool p5], mb 50 u50 u4 v110, .map 50 (List.map (mEnc u50 u4) ([] : (List ((Int × Bool) × Bool))))] (TI.dn (NX.sq (TS.sq ?_))))))))
     refine TS.sq (TS.rg (TI.ra 1 [3, 5, 8, 9, 30] (st 61 [(3, pt 1 0), (5, pt 2 0), (8, iv v109), (9, .map (some 4)), (30, .map (some 3))]) (TO.stamp (k := 3) (kt := 50) (es := List.map (mEnc u50 u4) v110) (by kernel_rfl) fun arr3_1 clock3_1 hkv3_1 hfit3_1 hst3_1 => (TI.range (t := 123) (x := (.tmp 30)) (k := 50) (e := 4) (m := 3) (kt := 50) (arr := arr3_1) (clock := clock3_1) (by kernel_rfl) (by kernel_rfl) (by kernel_rfl) (by kernel_rfl) (h1 := [ab 86 e86 p1, cl 24 [iv p0, sv 0 p1.length ANY], cl 50 [iv p4, .bool p5], .mapS 50 arr3_1 clock3_1, .map 50 (List.map (mEnc u50 u4) ([] : (List ((Int × Bool) × Bool)))), .iter 3 clock3_1 #[] clock3_1]) rfl (by kernel_rfl) (TI.rn 0 [3, 5, 8, 9, 31] [0, 1, 2, 3, 4, 5] (st 61 [(3, pt 1 0), (5, pt 2 0), (8, iv v109), (9, .map (some 4)), (31, pt 5 0)]) [ab 86 e86 p1, cl 24 [iv p0, sv 0 p1.length ANY], cl 50 [iv p4, .bool p5], .mapS 50 arr3_1 clock3_1, .map 50 (List.map (mEnc u50 u4) ([] : (List ((Int × Bool) × Bool)))), .iter 3 clock3_1 #[] clock3_1] (TI.dn (NX.sq (TS.bk 2 ?_))))))))
     have hX := permAll_some hF
     clear hF
     refine TS.lp (TL.weak (a2 := (S46_6 v109)) (h2 := [ab 86 e86 p1, cl 24 [iv p0, sv 0 p1.length ANY], cl 50 [iv p4, .bool p5], .map 50 (List.map (mEnc u50 u4) ([] : (List ((Int × Bool) × Bool)))), .iter 5 clock3_1 #[] clock3_1, .mapS 50 arr3_1 clock3_1]) (Wk.an [1, 2, 4, 5, 3] (.ac (.lt (.fl (.sl .nil)) (.lt (.fl (.fl .nil)) (.cons (At.blk (by kernel_rfl) (RnB.map _ _)) (.cons (At.blk (by kernel_rfl) (RnB.iter _ _ _ _ (Nat.le_of_ble_eq_true rfl))) (.cons (At.blk (by kernel_rfl) (RnB.mapS _ _ _)) (.nil _))))))) [pt 1 0, pt 2 0, iv v109, .map (some 4), pt 5 0] (.pp (.pp (.fl (.cons (Rn.map _ (Nat.le_of_ble_eq_true rfl)) (.pp .nil)))))) (TL.post (L46l1 p0 p1 p4 p5 v109 v110 _ _ arr3_1 clock3_1 hst3_1 hkv3_1 _ #[] ([] : (List ((Int × Bool) × Bool))) v110 (Nat.lt_succ_self _) (ents_all hkv3_1) (fun es he => hX es he)) ?_))
     rintro e a1 h1 ⟨r327, hF, hp⟩
     obtain ⟨rfl, hw⟩ := hp
     refine ⟨(st 61 [(3, pt 1 0), (5, pt 2 0), (8, iv v109), (9, .map (some 3))]), [ab 86 e86 p1, cl 24 [iv p0, sv 0 p1.length ANY], cl 50 [iv p4, .bool p5], mb 50 u50 u4 r327], (NX.bkX (NX.sq (TS.rg (TI.ra 2 [3, 5, 7, 8] (st 61 [(3, pt 1 0), (5, pt 2 0), (7, .map (some 3)), (8, iv v109)]) (TI.dn (NX.bk (NX.sq (TS.rg ?_)))))))), hw⟩
     refine TI.ra 3 [3, 5, 7, 8] (st 61 [(3, pt 1 0), (5, pt 2 0), (7, .map (some 3)), (8, iv (w64 (v109 + 1)))]) (TI.dn ?_)
     exact Rd.again (a2 := (st 61 [(3, pt 1 0), (5, pt 2 0), (7, .map (some 3)), (8, iv (w64 (v109 + 1)))])) (h2 := [ab 86 e86 p1, cl 24 [iv p0, sv 0 p1.length ANY], cl 50 [iv p4, .bool p5], mb 50 u50 u4 r327]) (Wk.an [1, 2, 3] (.ac (.lt (.fl (.sl .nil)) (.lt (.fl (.fl .nil)) (.cons (At.blk (by kernel_rfl) (RnB.map _ _)) (.nil _))))) [pt 1 0, pt 2 0, .map (some 3), iv (w64 (v109 + 1))] (.pp (.pp (.cons (Rn.map _ (Nat.le_of_ble_eq_true rfl)) (.fl .nil))))) (ih (w64 (v109 + 1)) r327 _ hF)
  replace hF := of_neg hF hc221
  refine TS.ex 0 (NX.sqX ?_)
  have hF := Option.some.inj hF
  subst hF
  exact Rd.out (e := .exit 0) (by intro h; cases h) (And.intro rfl (Wk.an [] (.ac (.nil _)) [] .nil))
theorem B46 (p0 : Int) (p1 : (List ((Int × Bool) × (Int × Bool)))) (p2 : Int) (p3 : Bool) (p4 : Int) (p5 : Bool) (r : Int) (hF : F46 p0 p1 p2 p3 p4 p5 = some r) : TS Try.prog 1 1 c46 (st 61 [(0, ag [iv p0, sv 0 p1.length ANY]), (1, ag [iv p2, .bool p3]), (2, ag [iv p4, .bool p5])]) [ab 86 e86 p1] (NX Try.prog 1 1 [] (FinP Try.prog Try.f46 1 (V46 1 r) (N46 1 r))) := by
 unfold F46 at hF
 refine TS.sq (TS.rg (TI.rn 4 [3, 4, 5] [0, 1, 2, 3] (st 61 [(3, pt 1 0), (4, pt 2 0), (5, pt 3 0)]) [ab 86 e86 p1, cl 24 [iv p0, sv 0 p1.length ANY], cl 50 [iv p2, .bool p3], cl 50 [iv p4, .bool p5]] (TI.dn (NX.sq (TS.sq (TS.rg (TI.rn 2 [3, 5, 15, 16] [0, 1, 3, 4] (st 61 [(3, pt 1 0), (5, pt 3 0), (15, .map (some 4)), (16, ag [iv p2, .bool p3])]) (H46_0 p1 p0 p4 p5) (TI.o { val := undef, upd := some (4, .map 50 (List.map (mEnc u50 u4) (mput ([] : (List ((Int × Bool) × Bool))) (p2, p3) true))) } (q_put (P := Try.prog) (hp := (H46_0 p1 p0 p4 p5)) (r := 4) (l := ([] : (List ((Int × Bool) × Bool)))) (k := (p2, p3)) (kt := 50) (et := 4) (kv := u50) (vv := u4) (key := ag [iv p2, .bool p3]) (base := 1) (t := 123) (val := .bool true) (y := true) (by kernel_rfl) rfl rfl (by decide) (by kernel_rfl) (by kernel_rfl) (by kernel_rfl) u50_fit u50_eq u4_flat) [3, 5, 15] [0, 1, 3, 4] (st 61 [(3, pt 1 0), (5, pt 3 0), (15, .map (some 4))]) [ab 86 e86 p1, cl 24 [iv p0, sv 0 p1.length ANY], .dead, cl 50 [iv p4, .bool p5], .map 50 (List.map (mEnc u50 u4) (mput ([] : (List ((Int × Bool) × Bool))) (p2, p3) true))] ?_))))))))
 refine TI.ra 2 [3, 5, 7] (st 61 [(3, pt 1 0), (5, pt 3 0), (7, .map (some 4))]) (TI.dn (NX.sq (TS.sq (TS.sq (TS.rg (TI.ra 1 [3, 5, 7, 8] (st 61 [(3, pt 1 0), (5, pt 3 0), (7, .map (some 4)), (8, iv 1)]) (TI.dn (NX.sq ?_))))))))
 refine TS.bk 0 ?_
 have hX := of_do hF
 clear hF
 obtain ⟨r329, h330, hF⟩ := hX
 refine TS.lp (TL.weak (a2 := (st 61 [(3, pt 1 0), (5, pt 2 0), (7, .map (some 3)), (8, iv 1)])) (h2 := [ab 86 e86 p1, cl 24 [iv p0, sv 0 p1.length ANY], cl 50 [iv p4, .bool p5], .map 50 (List.map (mEnc u50 u4) (mput ([] : (List ((Int × Bool) × Bool))) (p2, p3) true))]) (Wk.an [1, 3, 4] (.ac (.lt (.fl (.sl .nil)) (.lt (.fl (.fl .nil)) (.cons (At.blk (by kernel_rfl) (RnB.map _ _)) (.nil _))))) [pt 1 0, pt 3 0, .map (some 4), iv 1] (.pp (.pp (.cons (Rn.map _ (Nat.le_of_ble_eq_true rfl)) (.fl .nil))))) (TL.post (L46l0 p0 p1 p4 p5 64 1 (mput ([] : (List ((Int × Bool) × Bool))) (p2, p3) true) r329 h330) ?_))
 rintro e a1 h1 hp
 rcases r329 with o331 | o332
 · skip
   obtain ⟨rfl, hw⟩ := hp
   refine ⟨(st 61 [(6, iv o331)]), [ab 86 e86 p1], (NX.bkR (NX.sqR ?_)), hw⟩
   have hF := Option.some.inj hF
   subst hF
   exact ⟨.inr rfl, rfl, iv o331, by kernel_rfl, WkV.flat0 (by kernel_rfl) (Nat.le_of_ble_eq_true rfl)⟩
 skip
 obtain ⟨rfl, hw⟩ := hp
 refine ⟨(st 61 []), [ab 86 e86 p1], (NX.bkX (NX.sq (TS.sq (TS.rg (TI.ra 1 [6] (st 61 [(6, iv 0)]) (TI.dn (NX.sq (TS.rt ?_)))))))), hw⟩
 have hF := Option.some.inj hF
 subst hF
 exact ⟨.inr rfl, rfl, iv 0, by kernel_rfl, WkV.flat0 (by kernel_rfl) (Nat.le_of_ble_eq_true rfl)⟩
theorem C46 (p0 : Int) (p1 : (List ((Int × Bool) × (Int × Bool)))) (p2 : Int) (p3 : Bool) (p4 : Int) (p5 : Bool) (r : Int) (hF : F46 p0 p1 p2 p3 p4 p5 = some r) : PureSim Try.prog 46 [ag [iv p0, sv 0 p1.length ANY], ag [iv p2, .bool p3], ag [iv p4, .bool p5]] [ab 86 e86 p1] (V46 1 r) (N46 1 r) :=
 PureSim.of_Fin Try.func46 (c := c46) (by kernel_rfl) (by kernel_rfl) 1 rfl [0, 1, 2] [0] (by kernel_rfl) (B46 p0 p1 p2 p3 p4 p5 r hF)
end
end Go.Proofs.Ytiaippkjgmccoaa
