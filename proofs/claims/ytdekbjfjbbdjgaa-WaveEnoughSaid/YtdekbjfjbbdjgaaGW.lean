/- What functions of the program compute, and that they do. -/
import Derived.Test.YtdekbjfjbbdjgaaGWa
set_option linter.unusedVariables false
set_option linter.unusedSimpArgs false
set_option maxRecDepth 100000
set_option maxHeartbeats 4000000
namespace Go.Proofs.Ytdekbjfjbbdjgaa
open Go Go.Cl
noncomputable section
def F48l0 (p0 p1 : Int) (p2 : List I2) (v4 : Int) (v5 : List Int) : Option (List Int) :=
 if decide (v4 < (w64 (p0 + p1))) then
  if (0 : Int) ≤ v4 ∧ v4 < (v5.length : Int) then
   F48l0 p0 p1 p2 (w64 (v4 + 1)) (List.set v5 (Int.toNat v4) (-1))
  else none
 else
  some v5
 partial_fixpoint
def F48l3 (p0 p1 : Int) (p2 : List I2) (v451 v1041 v1228 : Int) (v1229 v1230 : List Int) : Option ((List Int) × (List Int)) :=
 if decide (v1228 < (p2.length : Int)) then
  if (0 : Int) ≤ v1228 ∧ v1228 < (p2.length : Int) then
   some (List.getD p2 (Int.toNat v1228) (0, 0)) >>= fun o1274 =>
   if p0 = 0 then none else
   if p1 = 0 then none else
   if (0 : Int) ≤ Int.tmod o1274.1 p0 ∧ Int.tmod o1274.1 p0 < (v1229.length : Int) then
    some (List.getD v1229 (Int.toNat (Int.tmod o1274.1 p0)) 0) >>= fun o1279 =>
    (
     if o1279 == v451 then
      if (0 : Int) ≤ w64 (p0 + (Int.tmod o1274.1 p1)) ∧ w64 (p0 + (Int.tmod o1274.1 p1)) < (v1229.length : Int) then
       some (List.getD v1229 (Int.toNat (w64 (p0 + (Int.tmod o1274.1 p1)))) 0) >>= fun o1283 =>
       some (decide (o1283 < 0))
      else none
     else
      some (false)
    : Option Bool) >>= fun m1285 =>
    (
     if m1285 then
      if (0 : Int) ≤ Int.tmod o1274.1 p0 ∧ Int.tmod o1274.1 p0 < (v1230.length : Int) then
       some (List.getD v1230 (Int.toNat (Int.tmod o1274.1 p0)) 0) >>= fun o1323 =>
       if (0 : Int) ≤ w64 (p0 + (Int.tmod o1274.1 p1)) ∧ w64 (p0 + (Int.tmod o1274.1 p1)) < (v1229.length : Int) then
        if (0 : Int) ≤ w64 (p0 + (Int.tmod o1274.1 p1)) ∧ w64 (p0 + (Int.tmod o1274.1 p1)) < (v1230.length : Int) then
         some (List.set v1229 (Int.toNat (w64 (p0 + (Int.tmod o1274.1 p1)))) v451, List.set v1230 (Int.toNat (w64 (p0 + (Int.tmod o1274.1 p1)))) (w64 (o1274.2 - o1323)))
        else none
       else none
      else none
     else
      some (v1229, v1230)
    : Option ((List Int) × (List Int))) >>= fun m1295 =>
    if (0 : Int) ≤ w64 (p0 + (Int.tmod o1274.1 p1)) ∧ w64 (p0 + (Int.tmod o1274.1 p1)) < (m1295.1.length : Int) then
     some (List.getD m1295.1 (Int.toNat (w64 (p0 + (Int.tmod o1274.1 p1)))) 0) >>= fun o1298 =>
     (
      if o1298 == v451 then
       if (0 : Int) ≤ Int.tmod o1274.1 p0 ∧ Int.tmod o1274.1 p0 < (m1295.1.length : Int) then
        some (List.getD m1295.1 (Int.toNat (Int.tmod o1274.1 p0)) 0) >>= fun o1302 =>
        some (decide (o1302 < 0))
       else none
      else
       some (false)
     : Option Bool) >>= fun m1304 =>
     (
      if m1304 then
       if (0 : Int) ≤ w64 (p0 + (Int.tmod o1274.1 p1)) ∧ w64 (p0 + (Int.tmod o1274.1 p1)) < (m1295.2.length : Int) then
        some (List.getD m1295.2 (Int.toNat (w64 (p0 + (Int.tmod o1274.1 p1)))) 0) >>= fun o1317 =>
        if (0 : Int) ≤ Int.tmod o1274.1 p0 ∧ Int.tmod o1274.1 p0 < (m1295.1.length : Int) then
         if (0 : Int) ≤ Int.tmod o1274.1 p0 ∧ Int.tmod o1274.1 p0 < (m1295.2.length : Int) then
          some (List.set m1295.1 (Int.toNat (Int.tmod o1274.1 p0)) v451, List.set m1295.2 (Int.toNat (Int.tmod o1274.1 p0)) (w64 (o1274.2 - o1317)))
         else none
        else none
       else none
      else
       some (m1295.1, m1295.2)
     : Option ((List Int) × (List Int))) >>= fun m1314 =>
     F48l3 p0 p1 p2 v451 v1041 (w64 (v1228 + 1)) m1314.1 m1314.2
    else none
   else none
  else none
 else
  some (v1229, v1230)
 partial_fixpoint
def F48l2 (p0 p1 : Int) (p2 : List I2) (v451 v1041 : Int) (v1042 v1043 : List Int) : Option ((List Int) × (List Int)) :=
 if decide (v1041 < (w64 (p0 + p1))) then
  F48l3 p0 p1 p2 v451 v1041 0 v1042 v1043 >>= fun r1328 =>
  F48l2 p0 p1 p2 v451 (w64 (v1041 + 1)) r1328.1 r1328.2
 else
  some (v1042, v1043)
 partial_fixpoint
def F48l1 (p0 p1 : Int) (p2 : List I2) (v451 : Int) (v452 v453 : List Int) : Option ((List Int) × (List Int)) :=
 if decide (v451 < (w64 (p0 + p1))) then
  if (0 : Int) ≤ v451 ∧ v451 < (v452.length : Int) then
   some (List.getD v452 (Int.toNat v451) 0) >>= fun o896 =>
   if decide (o896 ≥ 0) then
    F48l1 p0 p1 p2 (w64 (v451 + 1)) v452 v453
   else
    F48l2 p0 p1 p2 v451 0 (List.set v452 (Int.toNat v451) v451) v453 >>= fun r1330 =>
    F48l1 p0 p1 p2 (w64 (v451 + 1)) r1330.1 r1330.2
  else none
 else
  some (v452, v453)
 partial_fixpoint
def F48 (p0 p1 : Int) (p2 : List I2) : Option ((List Int) × (List Int)) :=
 if (0 : Int) ≤ w64 (p0 + p1) ∧ w64 (p0 + p1) ≤ 1000000000 then
  F48l0 p0 p1 p2 0 (List.replicate (Int.toNat (w64 (p0 + p1))) (0 : Int)) >>= fun r11 =>
  F48l1 p0 p1 p2 0 r11 (List.replicate (Int.toNat (w64 (p0 + p1))) (0 : Int)) >>= fun r1332 =>
  some (r1332.1, r1332.2)
 else none
def F50l0 (p0 p1 : Int) (p2 : List I2) (r1 : (List Int) × (List Int)) (v16 : Int) : Option (Unit ⊕ Unit) :=
 if decide (v16 < (p2.length : Int)) then
  if (0 : Int) ≤ v16 ∧ v16 < (p2.length : Int) then
   some (List.getD p2 (Int.toNat v16) (0, 0)) >>= fun o32 =>
   if p0 = 0 then none else
   if (0 : Int) ≤ Int.tmod o32.1 p0 ∧ Int.tmod o32.1 p0 < (r1.2.length : Int) then
    some (List.getD r1.2 (Int.toNat (Int.tmod o32.1 p0)) 0) >>= fun o36 =>
    if p1 = 0 then none else
    if (0 : Int) ≤ w64 (p0 + (Int.tmod o32.1 p1)) ∧ w64 (p0 + (Int.tmod o32.1 p1)) < (r1.2.length : Int) then
     some (List.getD r1.2 (Int.toNat (w64 (p0 + (Int.tmod o32.1 p1)))) 0) >>= fun o40 =>
     if (w64 (o36 + o40)) != o32.2 then
      some (.inl ())
     else
      F50l0 p0 p1 p2 r1 (w64 (v16 + 1))
    else none
   else none
  else none
 else
  some (.inr ())
 partial_fixpoint
def F50 (p0 p1 : Int) (p2 : List I2) : Option Bool :=
 F48 p0 p1 p2 >>= fun r1 =>
 F50l0 p0 p1 p2 r1 0 >>= fun r43 =>
 match r43 with
 | .inl o45 =>
  some false
 | .inr o46 =>
  some true
def F22 (p0 p1 : Int) (p2 : List I2) : Option Int :=
 F24 p0 p1 p2 >>= fun r1 =>
 (
  if r1 == 0 then
   F50 p0 p1 p2 >>= fun r4 =>
   if r4 then
    some (false)
   else
    some (true)
  else
   some (false)
 : Option Bool) >>= fun m6 =>
 (
  if m6 then
   some 13
  else
   some r1
 : Option Int) >>= fun m9 =>
 some m9
noncomputable def c18 : Code := Try.f18.code
def F18r0 (p2 : List I2) (r4 : List (I2 × PL)) (z17 : Int) (v6 : I2 × PL) : Option (Int ⊕ Int) :=
 (
  if ((v6.2.1.1 == v6.1.1) && ((v6.2.1.2 == v6.1.2) && true)) then
   some (w64 (z17 + 1))
  else
   some z17
 : Option Int) >>= fun m14 =>
 some (.inl m14)
def F18l0 (p2 : List I2) (r4 : List (I2 × PL)) : Int → List (I2 × PL) → Option Int
 | z17, [] =>
  some z17
 | z17, q :: es => (F18r0 p2 r4 z17 q).bind fun w => match w with | .inl z2 => F18l0 p2 r4 z2 es | .inr r2 => some r2
def F18 (p0 p1 : Int) (p2 : List I2) : Option I2 :=
 F23 p0 p1 p2 >>= fun r1 =>
 if r1 != 0 then
  some (0, r1)
 else
  F49 p0 p1 p2 >>= fun r4 =>
  permAll (fun es => F18l0 p2 r4 0 es) r4 >>= fun r18 =>
  some (r18, 0)
def V18 (b : Nat) (r : I2) : Value := .tuple ⟨[iv r.1, iv r.2]⟩
def N18 (b : Nat) (r : I2) : List Blk := []
theorem F18l0_cons (p2 : List I2) (r4 : List (I2 × PL)) (z : Int) (q : I2 × PL) (es : List (I2 × PL)) : F18l0 p2 r4 (z) (q :: es) = (F18r0 p2 r4 z q).bind (mapNext (F18l0 p2 r4) es) := by rw [F18l0]; congr 1; funext w; cases w <;> rfl
def P18l0 (p2 : List I2) (r4 : List (I2 × PL)) (r : Int) : Post := fun e a h => e = .exit 0 ∧ Wk Try.prog 1 1 a h (st 28 [(5, iv r)]) [ab 57 e57 p2]
theorem L18l0 (p2 : List I2) (r4 : List (I2 × PL)) (arr2_2 : Array MapEntry) (clock2_2 : Nat) (hst2_2 : Stamped arr2_2 clock2_2) (hkv2_2 : arr2_2.toList.map (fun e => (e.key, e.val)) = List.map (mEnc u83 u85) r4) : ∀ (m : Nat) (seen2_2 : Array Nat) (z17 : Int) (es : List (I2 × PL)) (r : Int), (leftOf arr2_2 seen2_2).size < m → Ents u83 u85 arr2_2 seen2_2 es → (∀ es2, List.Perm es2 es → F18l0 p2 r4 z17 es2 = some r) → TL Try.prog 1 1 c18.s2.s2.s2.s1.s2.bd.bd (st 28 [(5, iv z17), (15, pt 1 0)]) [ab 57 e57 p2, .iter 2 clock2_2 seen2_2 clock2_2, .mapS 83 arr2_2 clock2_2] (P18l0 p2 r4 r) := by
 intro m
 induction m with
 | zero => intro seen2_2 z17 es r hm; omega
 | succ m ih =>
  intro seen2_2 z17 es r hm hes hAll
  refine TL.round (TS.sq (TS.rg ?_))
  refine TI.next (it := (.tmp 15)) (i := 1) (m := 2) (since := clock2_2) (last := clock2_2) (seen := seen2_2) (arr := arr2_2) (clock := clock2_2) (kt := 83) (by kernel_rfl) (by kernel_rfl) (by decide) (by kernel_rfl) (by kernel_rfl) hst2_2.1 (Nat.le_refl _) (fun h0 => ?_) (fun en2_2 he2_2 => ?_)
  · obtain rfl := ents_none hes h0
    have hF := hAll [] (List.Perm.refl _)
    refine TI.rn 0 [5, 15, 16] [0, 1, 2] (st 28 [(5, iv z17), (15, pt 1 0), (16, .tuple ⟨[.bool false]⟩)]) [ab 57 e57 p2, .iter 2 clock2_2 seen2_2 clock2_2, .mapS 83 arr2_2 clock2_2] (TI.ra 1 [5, 15, 17] (st 28 [(5, iv z17), (15, pt 1 0), (17, .bool false)]) (TI.dn (NX.sq (TS.sq (TS.cdF (.tmp 17) (TS.ex 0 (NX.sqX ?_)))))))
    have hF := sj hF
    subst hF
    exact Rd.out (e := .exit 0) (by intro h; cases h) (And.intro rfl (Wk.an [] (.ac (.nil _)) [iv z17] (.fl .nil)))
  obtain ⟨v6, es2, hk2_2, hv2_2, hp, hes2⟩ := ents_take hes hst2_2 he2_2
  have hA := perm_next hAll hp
  simp only [F18l0_cons] at hA
  obtain ⟨w, hF, _⟩ := Option.bind_eq_some_iff.1 (hA es2 (List.Perm.refl _))
  replace hA : ∀ es3, List.Perm es3 es2 → mapNext (F18l0 p2 r4) es3 w = some r := fun es3 he3 => by have h3 := hA es3 he3; rw [hF] at h3; exact h3
  rw [hk2_2, hv2_2]
  refine TI.rn 0 [5, 15, 16] [0, 1, 2] (st 28 [(5, iv z17), (15, pt 1 0), (16, .tuple ⟨[.bool true, ag [iv v6.1.1, iv v6.1.2], ag [iv v6.2.1.1, iv v6.2.1.2, iv v6.2.2.1, iv v6.2.2.2.1, iv v6.2.2.2.2.1, iv v6.2.2.2.2.2]]⟩)]) [ab 57 e57 p2, .iter 2 clock2_2 (Array.push seen2_2 en2_2.born) clock2_2, .mapS 83 arr2_2 clock2_2] (TI.ra 1 [5, 15, 17] (st 28 [(5, iv z17), (15, pt 1 0), (17, .bool true)]) (TI.dn (NX.sq (TS.sq (TS.cdT (.tmp 17) (TS.sk (NX.sq (TS.bk 1 ?_))))))))
  refine TS.sq (TS.rg ?_)
  refine TI.entry (it := (.tmp 15)) (i := 1) (m := 2) (since := clock2_2) (seen := seen2_2) (arr := arr2_2) (clock := clock2_2) (kt := 83) (e := en2_2) (by kernel_rfl) (by kernel_rfl) (by kernel_rfl) (by kernel_rfl) (left_mem he2_2) hst2_2.2 (a1 := putAt c18.s2.s2.s2.s1.s2.bd.bd.s2.s2.bd.s1.rops 0 (st 28 [(5, iv z17), (15, pt 1 0), (17, .bool true)]) (.tuple #[u83 v6.1, u85 v6.2])) (by rw [hk2_2, hv2_2]) (TI.rn 0 [5, 15, 18] [0, 1, 2] (st 28 [(5, iv z17), (15, pt 1 0), (18, .tuple ⟨[ag [iv v6.1.1, iv v6.1.2], ag [iv v6.2.1.1, iv v6.2.1.2, iv v6.2.2.1, iv v6.2.2.2.1, iv v6.2.2.2.2.1, iv v6.2.2.2.2.2]]⟩)]) [ab 57 e57 p2, .iter 2 clock2_2 (Array.push seen2_2 en2_2.born) clock2_2, .mapS 83 arr2_2 clock2_2] (TI.rn 6 [5, 6, 7, 15] [0, 1, 2, 3, 4] (st 28 [(5, iv z17), (6, pt 3 0), (7, pt 4 0), (15, pt 1 0)]) [ab 57 e57 p2, .iter 2 clock2_2 (Array.push seen2_2 en2_2.born) clock2_2, .mapS 83 arr2_2 clock2_2, cl 83 [iv v6.1.1, iv v6.1.2], cl 85 [iv v6.2.1.1, iv v6.2.1.2, iv v6.2.2.1, iv v6.2.2.2.1, iv v6.2.2.2.2.1, iv v6.2.2.2.2.2]] (TI.dn (NX.sq (TS.sq (TS.rg (TI.rn 4 [5, 15, 24] [0, 1, 2] (st 28 [(5, iv z17), (15, pt 1 0), (24, .bool ((v6.2.1.1 == v6.1.1) && ((v6.2.1.2 == v6.1.2) && true)))]) [ab 57 e57 p2, .iter 2 clock2_2 (Array.push seen2_2 en2_2.born) clock2_2, .mapS 83 arr2_2 clock2_2, .dead, .dead] (TI.dn ?_))))))))
  refine NX.sq ?_
  obtain ⟨m14, hm15, hF⟩ := of_do hF
  have hK : NX Try.prog 1 1 [.bk 1] (Rd Try.prog 1 1 c18.s2.s2.s2.s1.s2.bd.bd (P18l0 p2 r4 r)) .normal (st 28 [(5, iv m14), (15, pt 1 0)]) [ab 57 e57 p2, .iter 2 clock2_2 (Array.push seen2_2 en2_2.born) clock2_2, .mapS 83 arr2_2 clock2_2] := by
   refine NX.bk ?_
   have hF := sj hF
   subst hF
   exact Rd.again (a2 := (st 28 [(5, iv m14), (15, pt 1 0)])) (h2 := [ab 57 e57 p2, .iter 2 clock2_2 (Array.push seen2_2 en2_2.born) clock2_2, .mapS 83 arr2_2 clock2_2]) (Wk.an [1, 2] (.ac (.cons (At.blk (by kernel_rfl) (RnB.iter _ _ _ _ (nl rfl))) (.cons (At.blk (by kernel_rfl) (RnB.mapS _ _ _)) (.nil _)))) [iv m14, pt 1 0] (.fl (.pp .nil))) (ih (Array.push seen2_2 en2_2.born) m14 es2 r (by have := left_less he2_2; omega) hes2 (fun es3 he3 => hA es3 he3))
  clear hF
  have hF := hm15
  clear hm15
  refine TS.start ?_
  refine TS.cd (.tmp 24) ((v6.2.1.1 == v6.1.1) && ((v6.2.1.2 == v6.1.2) && true)) (fun hc16 => ?_) (fun hc16 => ?_)
  · replace hF := of_pos hF hc16
    refine TS.rg (TI.ra 3 [5, 15] (st 28 [(5, iv (w64 (z17 + 1))), (15, pt 1 0)]) (TI.dn ?_))
    have hF := sj hF
    subst hF
    exact TL.weak (by exact (Wk.an [1, 2] (.ac (.cons (At.blk (by kernel_rfl) (RnB.iter _ _ _ _ (nl rfl))) (.cons (At.blk (by kernel_rfl) (RnB.mapS _ _ _)) (.nil _)))) [iv (w64 (z17 + 1)), pt 1 0] (.fl (.pp .nil)))) hK
  replace hF := of_neg hF hc16
  refine TS.sk ?_
  have hF := sj hF
  subst hF
  exact TL.weak (by exact (Wk.an [1, 2] (.ac (.cons (At.blk (by kernel_rfl) (RnB.iter _ _ _ _ (nl rfl))) (.cons (At.blk (by kernel_rfl) (RnB.mapS _ _ _)) (.nil _)))) [iv z17, pt 1 0] (.fl (.pp .nil)))) hK
theorem B18 (p0 p1 : Int) (p2 : List I2) (r : I2) (hF : F18 p0 p1 p2 = some r) : TS Try.prog 1 1 c18 (st 28 [(0, ag [iv p0, iv p1, sv 0 p2.length ANY])]) [ab 57 e57 p2] (NX Try.prog 1 1 [] (FinP Try.prog Try.f18 1 (V18 1 r) (N18 1 r))) := by
 unfold F18 at hF
 refine TS.sq (TS.rg (TI.rn 3 [1] [0, 1] (st 28 [(1, pt 1 0)]) [ab 57 e57 p2, cl 24 [iv p0, iv p1, sv 0 p2.length ANY]] (TI.dn (NX.sq (TS.sq (TS.sq ?_))))))
 obtain ⟨r1, h2, hF⟩ := of_do hF
 refine TS.rg (TI.ra 1 [1, 8] (st 28 [(1, pt 1 0), (8, ag [iv p0, iv p1, sv 0 p2.length ANY])]) (TI.cp 23 [ag [iv p0, iv p1, sv 0 p2.length ANY]] (iv r1) [] (PureSim.ren (hc := [ab 57 e57 p2]) (fun i => List.getD [(0, 0)] i (0, 0)) (C23 _ _ _ _ h2) (.ac (.nil _)) (.cons (Rn.agg' (.fl (.fl (.cons (Rn.any _ _ _ _ _ _ (nl rfl) rfl rfl (by decide)) .nil)))) .nil) (.flat (by kernel_rfl)) newflat_nil) (TI.ra 1 [1, 4] (st 28 [(1, pt 1 0), (4, iv r1)]) (TI.dn (NX.sq (TS.sq (TS.rg (TI.ra 2 [1, 4, 11] (st 28 [(1, pt 1 0), (4, iv r1), (11, .bool (r1 != 0))]) ?_))))))))
 refine TI.dn (NX.sq ?_)
 refine TS.cd (.tmp 11) (r1 != 0) (fun hc3 => ?_) (fun hc3 => ?_)
 · replace hF := of_pos hF hc3
   refine TS.sq (TS.rg (TI.rn 3 [2, 3] [0] (st 28 [(2, iv 0), (3, iv r1)]) [ab 57 e57 p2, .dead] (TI.dn (NX.sq (TS.rt (NX.sqR ?_))))))
   have hF := sj hF
   subst hF
   exact ⟨.inr rfl, rfl, .tuple ⟨[iv 0, iv r1]⟩, by kernel_rfl, WkV.flat0 (by kernel_rfl) (nl rfl)⟩
 replace hF := of_neg hF hc3
 refine TS.sk (NX.sq (TS.sq (TS.rg (TI.ra 1 [1, 5] (st 28 [(1, pt 1 0), (5, iv 0)]) (TI.dn (NX.sq (TS.sq (TS.sq ?_))))))))
 obtain ⟨r4, h5, hF⟩ := of_do hF
 refine TS.rg (TI.rn 1 [5, 13] [0] (st 28 [(5, iv 0), (13, ag [iv p0, iv p1, sv 0 p2.length ANY])]) [ab 57 e57 p2, .dead] (TI.callM (g := 49) (args := [ag [iv p0, iv p1, sv 0 p2.length ANY]]) (v := .map (some 2)) (new := [mb 83 u83 u85 r4]) (by kernel_rfl) (PureSim.ren (hc := [ab 57 e57 p2]) (fun i => List.getD [(0, 0)] i (0, 0)) (C49 _ _ _ _ h5) (.ac (.nil _)) (.cons (Rn.agg' (.fl (.fl (.cons (Rn.any _ _ _ _ _ _ (nl rfl) rfl rfl (by decide)) .nil)))) .nil) (Rn.map _ (nl rfl)) (newflat_cons (.inr rfl) newflat_nil)) [5, 14] [0, 2] (a2 := (st 28 [(5, iv 0), (14, .map (some 2))])) (h2 := [ab 57 e57 p2, .dead, mb 83 u83 u85 r4]) (by kernel_rfl) (TO.stamp (k := 2) (kt := 83) (es := List.map (mEnc u83 u85) r4) (by kernel_rfl) fun arr2_2 clock2_2 hkv2_2 hfit2_2 hst2_2 => (TI.range (t := 76) (x := (.tmp 14)) (k := 83) (e := 85) (m := 2) (kt := 83) (arr := arr2_2) (clock := clock2_2) (by kernel_rfl) (by kernel_rfl) (by kernel_rfl) (by kernel_rfl) (h1 := [ab 57 e57 p2, .dead, .mapS 83 arr2_2 clock2_2, .iter 2 clock2_2 #[] clock2_2]) rfl (by kernel_rfl) (TI.rn 0 [5, 15] [0, 2, 3] (st 28 [(5, iv 0), (15, pt 3 0)]) [ab 57 e57 p2, .dead, .mapS 83 arr2_2 clock2_2, .iter 2 clock2_2 #[] clock2_2] (TI.dn (NX.sq (TS.bk 0 ?_))))))))
 obtain ⟨r18, h19, hF⟩ := of_do hF
 refine TS.lp (TL.weak (a2 := (st 28 [(5, iv 0), (15, pt 1 0)])) (h2 := [ab 57 e57 p2, .iter 2 clock2_2 #[] clock2_2, .mapS 83 arr2_2 clock2_2]) (Wk.an [3, 2] (.ac (.cons (At.blk (by kernel_rfl) (RnB.iter _ _ _ _ (nl rfl))) (.cons (At.blk (by kernel_rfl) (RnB.mapS _ _ _)) (.nil _)))) [iv 0, pt 3 0] (.fl (.pp .nil))) (TL.post (L18l0 p2 r4 arr2_2 clock2_2 hst2_2 hkv2_2 _ #[] 0 r4 r18 (Nat.lt_succ_self _) (ents_all hkv2_2) (permAll_some h19)) ?_))
 rintro e a1 h1 hp
 obtain ⟨rfl, hw⟩ := hp
 refine ⟨(st 28 [(5, iv r18)]), [ab 57 e57 p2], (NX.bkX (NX.sq (TS.sq (TS.rg (TI.ra 3 [2, 3] (st 28 [(2, iv r18), (3, iv 0)]) (TI.dn (NX.sq (TS.rt ?_)))))))), hw⟩
 have hF := sj hF
 subst hF
 exact ⟨.inr rfl, rfl, .tuple ⟨[iv r18, iv 0]⟩, by kernel_rfl, WkV.flat0 (by kernel_rfl) (nl rfl)⟩
theorem C18 (p0 p1 : Int) (p2 : List I2) (r : I2) (hF : F18 p0 p1 p2 = some r) : PureSim Try.prog 18 [ag [iv p0, iv p1, sv 0 p2.length ANY]] [ab 57 e57 p2] (V18 1 r) (N18 1 r) :=
 PureSim.of_Fin Try.func18 (c := c18) (by kernel_rfl) (by kernel_rfl) 1 rfl [0] [0] (by kernel_rfl) (B18 p0 p1 p2 r hF)
end
end Go.Proofs.Ytdekbjfjbbdjgaa
