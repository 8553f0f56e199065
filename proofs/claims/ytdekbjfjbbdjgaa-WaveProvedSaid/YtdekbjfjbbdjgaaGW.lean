/- What functions of the program compute, and that they do. -/
import Derived.Test.YtdekbjfjbbdjgaaGWa
set_option linter.unusedVariables false
set_option linter.unusedSimpArgs false
set_option maxRecDepth 100000
set_option maxHeartbeats 4000000
namespace Go.Proofs.Ytdekbjfjbbdjgaa
open Go Go.Cl
noncomputable section
def F48l0 (p0 : Int) (p1 : Int) (p2 : (List (Int × Int))) (v4 : Int) (v5 : (List Int)) : Option (List Int) :=
    if decide (v4 < (w64 (p0 + p1))) then
      if (0 : Int) ≤ v4 ∧ v4 < (v5.length : Int) then
        F48l0 p0 p1 p2 (w64 (v4 + 1)) (List.set v5 (Int.toNat v4) (-1))
      else none
    else
      some v5
  partial_fixpoint
def F48l3 (p0 : Int) (p1 : Int) (p2 : (List (Int × Int))) (v451 : Int) (v1041 : Int) (v1228 : Int) (v1229 : (List Int)) (v1230 : (List Int)) : Option ((List Int) × (List Int)) :=
    if decide (v1228 < (p2.length : Int)) then
      if (0 : Int) ≤ v1228 ∧ v1228 < (p2.length : Int) then
        some (List.getD p2 (Int.toNat v1228) (0, 0)) >>= fun o1274 =>
        if p0 = 0 then none else
        if p1 = 0 then none else
        if (0 : Int) ≤ Int.tmod o1274.1 p0 ∧ Int.tmod o1274.1 p0 < (v1229.length : Int) then
          some (List.getD v1229 (Int.toNat (Int.tmod o1274.1 p0)) 0) >>= fun o1279 =>
          (
            if o1279 == v451 then
              if (0 : Int) ≤ w64 (p0 + (Int.tmod o1274.1 p1)) ∧ w64 (p0 + (Int.tmod o1274.1 p1)) < (v1229.length : Int) then
                some (List.getD v1229 (Int.toNat (w64 (p0 + (Int.tmod o1274.1 p1)))) 0) >>= fun o1283 =>
                some (decide (o1283 < 0))
              else none
            else
              some (false)
          : Option Bool) >>= fun m1285 =>
          (
            if m1285 then
              if (0 : Int) ≤ Int.tmod o1274.1 p0 ∧ Int.tmod o1274.1 p0 < (v1230.length : Int) then
                some (List.getD v1230 (Int.toNat (Int.tmod o1274.1 p0)) 0) >>= fun o1323 =>
                if (0 : Int) ≤ w64 (p0 + (Int.tmod o1274.1 p1)) ∧ w64 (p0 + (Int.tmod o1274.1 p1)) < (v1229.length : Int) then
                  if (0 : Int) ≤ w64 (p0 + (Int.tmod o1274.1 p1)) ∧ w64 (p0 + (Int.tmod o1274.1 p1)) < (v1230.length : Int) then
                    some (List.set v1229 (Int.toNat (w64 (p0 + (Int.tmod o1274.1 p1)))) v451, List.set v1230 (Int.toNat (w64 (p0 + (Int.tmod o1274.1 p1)))) (w64 (o1274.2 - o1323)))
                  else none
                else none
              else none
            else
              some (v1229, v1230)
          : Option ((List Int) × (List Int))) >>= fun m1295 =>
          if (0 : Int) ≤ w64 (p0 + (Int.tmod o1274.1 p1)) ∧ w64 (p0 + (Int.tmod o1274.1 p1)) < (m1295.1.length : Int) then
            some (List.getD m1295.1 (Int.toNat (w64 (p0 + (Int.tmod o1274.1 p1)))) 0) >>= fun o1298 =>
            (
              if o1298 == v451 then
                if (0 : Int) ≤ Int.tmod o1274.1 p0 ∧ Int.tmod o1274.1 p0 < (m1295.1.length : Int) then
                  some (List.getD m1295.1 (Int.toNat (Int.tmod o1274.1 p0)) 0) >>= fun o1302 =>
                  some (decide (o1302 < 0))
                else none
              else
                some (false)
            : Option Bool) >>= fun m1304 =>
            (
              if m1304 then
                if (0 : Int) ≤ w64 (p0 + (Int.tmod o1274.1 p1)) ∧ w64 (p0 + (Int.tmod o1274.1 p1)) < (m1295.2.length : Int) then
                  some (List.getD m1295.2 (Int.toNat (w64 (p0 + (Int.tmod o1274.1 p1)))) 0) >>= fun o1317 =>
                  if (0 : Int) ≤ Int.tmod o1274.1 p0 ∧ Int.tmod o1274.1 p0 < (m1295.1.length : Int) then
                    if (0 : Int) ≤ Int.tmod o1274.1 p0 ∧ Int.tmod o1274.1 p0 < (m1295.2.length : Int) then
                      some (List.set m1295.1 (Int.toNat (Int.tmod o1274.1 p0)) v451, List.set m1295.2 (Int.toNat (Int.tmod o1274.1 p0)) (w64 (o1274.2 - o1317)))
                    else none
                  else none
                else none
              else
                some (m1295.1, m1295.2)
            : Option ((List Int) × (List Int))) >>= fun m1314 =>
            F48l3 p0 p1 p2 v451 v1041 (w64 (v1228 + 1)) m1314.1 m1314.2
          else none
        else none
      else none
    else
      some (v1229, v1230)
  partial_fixpoint
def F48l2 (p0 : Int) (p1 : Int) (p2 : (List (Int × Int))) (v451 : Int) (v1041 : Int) (v1042 : (List Int)) (v1043 : (List Int)) : Option ((List Int) × (List Int)) :=
    if decide (v1041 < (w64 (p0 + p1))) then
      F48l3 p0 p1 p2 v451 v1041 0 v1042 v1043 >>= fun r1328 =>
      F48l2 p0 p1 p2 v451 (w64 (v1041 + 1)) r1328.1 r1328.2
    else
      some (v1042, v1043)
  partial_fixpoint
def F48l1 (p0 : Int) (p1 : Int) (p2 : (List (Int × Int))) (v451 : Int) (v452 : (List Int)) (v453 : (List Int)) : Option ((List Int) × (List Int)) :=
    if decide (v451 < (w64 (p0 + p1))) then
      if (0 : Int) ≤ v451 ∧ v451 < (v452.length : Int) then
        some (List.getD v452 (Int.toNat v451) 0) >>= fun o896 =>
        if decide (o896 ≥ 0) then
          F48l1 p0 p1 p2 (w64 (v451 + 1)) v452 v453
        else
          F48l2 p0 p1 p2 v451 0 (List.set v452 (Int.toNat v451) v451) v453 >>= fun r1330 =>
          F48l1 p0 p1 p2 (w64 (v451 + 1)) r1330.1 r1330.2
      else none
    else
      some (v452, v453)
  partial_fixpoint
def F48 (p0 : Int) (p1 : Int) (p2 : (List (Int × Int))) : Option ((List Int) × (List Int)) :=
  if (0 : Int) ≤ w64 (p0 + p1) ∧ w64 (p0 + p1) ≤ 1000000000 then
    F48l0 p0 p1 p2 0 (List.replicate (Int.toNat (w64 (p0 + p1))) (0 : Int)) >>= fun r11 =>
    F48l1 p0 p1 p2 0 r11 (List.replicate (Int.toNat (w64 (p0 + p1))) (0 : Int)) >>= fun r1332 =>
    some (r1332.1, r1332.2)
  else none
def F50l0 (p0 : Int) (p1 : Int) (p2 : (List (Int × Int))) (r1 : ((List Int) × (List Int))) (v16 : Int) : Option (Unit ⊕ Unit) :=
    if decide (v16 < (p2.length : Int)) then
      if (0 : Int) ≤ v16 ∧ v16 < (p2.length : Int) then
        some (List.getD p2 (Int.toNat v16) (0, 0)) >>= fun o32 =>
        if p0 = 0 then none else
        if (0 : Int) ≤ Int.tmod o32.1 p0 ∧ Int.tmod o32.1 p0 < (r1.2.length : Int) then
          some (List.getD r1.2 (Int.toNat (Int.tmod o32.1 p0)) 0) >>= fun o36 =>
          if p1 = 0 then none else
          if (0 : Int) ≤ w64 (p0 + (Int.tmod o32.1 p1)) ∧ w64 (p0 + (Int.tmod o32.1 p1)) < (r1.2.length : Int) then
            some (List.getD r1.2 (Int.toNat (w64 (p0 + (Int.tmod o32.1 p1)))) 0) >>= fun o40 =>
            if (w64 (o36 + o40)) != o32.2 then
              some (.inl ())
            else
              F50l0 p0 p1 p2 r1 (w64 (v16 + 1))
          else none
        else none
      else none
    else
      some (.inr ())
  partial_fixpoint
def F50 (p0 : Int) (p1 : Int) (p2 : (List (Int × Int))) : Option Bool :=
  F48 p0 p1 p2 >>= fun r1 =>
  F50l0 p0 p1 p2 r1 0 >>= fun r43 =>
  match r43 with
  | .inl o45 =>
    some false
  | .inr o46 =>
    some true
def F22 (p0 : Int) (p1 : Int) (p2 : (List (Int × Int))) : Option Int :=
  F24 p0 p1 p2 >>= fun r1 =>
  (
    if r1 == 0 then
      F50 p0 p1 p2 >>= fun r4 =>
      if r4 then
        some (false)
      else
        some (true)
    else
      some (false)
  : Option Bool) >>= fun m6 =>
  (
    if m6 then
      some 13
    else
      some r1
  : Option Int) >>= fun m9 =>
  some m9
noncomputable def c21 : Code := Try.f21.code
def H21_0 (p2 : (List (Int × Int))) (r4 : (List ((Int × Int) × ((Int × Int) × Int × Int × (Int × Int))))) : List Blk := [ab 57 e57 p2, .dead, .dead, mb 83 u83 u85 r4]
def H21_1 (p2 : (List (Int × Int))) : List Blk := [ab 57 e57 p2, .dead, .dead, .dead]
def H21_2 (p2 : (List (Int × Int))) : List Blk := [ab 57 e57 p2, .dead, .dead]
noncomputable def c21f46 : Code := Try.f46.code
def F21 (p0 : Int) (p1 : Int) (p2 : (List (Int × Int))) : Option Int :=
  F23 p0 p1 p2 >>= fun r1 =>
  if r1 != 0 then
    some r1
  else
    F49 p0 p1 p2 >>= fun r4 =>
    F54 p0 p1 p2 r4 >>= fun r6 =>
    if decide (r6 ≥ 0) then
      some 13
    else
      some 0
def V21 (b : Nat) (r : Int) : Value := iv r
def N21 (b : Nat) (r : Int) : List Blk := []
theorem B21 (p0 : Int) (p1 : Int) (p2 : (List (Int × Int))) (r : Int) (hF : F21 p0 p1 p2 = some r) : TS Try.prog 1 1 c21 (st 11 [(0, ag [iv p0, iv p1, sv 0 p2.length ANY])]) [ab 57 e57 p2] (NX Try.prog 1 1 [] (FinP Try.prog Try.f21 1 (V21 1 r) (N21 1 r))) := by
  unfold F21 at hF
  refine TS.sq (TS.rg (TI.rn 2 [1] [0, 1] (st 11 [(1, pt 1 0)]) [ab 57 e57 p2, cl 24 [iv p0, iv p1, sv 0 p2.length ANY]] (TI.dn (NX.sq (TS.sq (TS.rg (TI.rn 1 [6] [0] (st 11 [(6, ag [iv p0, iv p1, sv 0 p2.length ANY])]) [ab 57 e57 p2, .dead] (TI.inline (g := 46) (args := [ag [iv p0, iv p1, sv 0 p2.length ANY]]) (fn := Try.f46) (c := c21f46) (n := 2) (by kernel_rfl) (by kernel_rfl) (by kernel_rfl) (by kernel_rfl) (by kernel_rfl) [0] (a2 := (st 18 [(0, ag [iv p0, iv p1, sv 0 p2.length ANY])])) (by kernel_rfl) ?_))))))))
  refine TS.sq (TS.rg (TI.rn 3 [1] [0, 2] (st 18 [(1, pt 2 0)]) [ab 57 e57 p2, .dead, cl 24 [iv p0, iv p1, sv 0 p2.length ANY]] (TI.dn (NX.sq (TS.sq (TS.sq ?_))))))
  have hX := of_do hF
  clear hF
  obtain ⟨r1, h2, hF⟩ := hX
  refine TS.rg (TI.ra 1 [1, 6] (st 18 [(1, pt 2 0), (6, ag [iv p0, iv p1, sv 0 p2.length ANY])]) (TI.cp 23 [ag [iv p0, iv p1, sv 0 p2.length ANY]] (iv r1) [] (PureSim.ren (hc := [ab 57 e57 p2]) (fun i => List.getD [(0, 0)] i (0, 0)) (C23 _ _ _ _ h2) (.ac (.nil _)) (.cons (Rn.agg' (.fl (.fl (.cons (Rn.any _ _ _ _ _ _ (Nat.le_of_ble_eq_true rfl) rfl rfl (by decide)) .nil)))) .nil) (.flat (by kernel_rfl)) newflat_nil) (TI.ra 1 [1, 4] (st 18 [(1, pt 2 0), (4, iv r1)]) (TI.dn (NX.sq (TS.sq (TS.rg (TI.ra 2 [1, 4, 9] (st 18 [(1, pt 2 0), (4, iv r1), (9, .bool (r1 != 0))]) ?_))))))))
  refine TI.dn (NX.sq ?_)
  refine TS.cd (.tmp 9) (r1 != 0) (fun hc3 => ?_) (fun hc3 => ?_)
  · replace hF := of_pos hF hc3
    refine TS.sq (TS.rg (TI.rn 3 [2, 3] [0] (st 18 [(2, .map none), (3, iv r1)]) (H21_2 p2) (TI.dn (NX.sq (TS.rt (NX.sqR ?_))))))
    refine ⟨.inr rfl, rfl, .tuple ⟨[.map none, iv r1]⟩, .tuple ⟨[.map none, iv r1]⟩, (H21_2 p2), by kernel_rfl, WkV.refl, (TI.rn 0 [7] [0] (st 11 [(7, .tuple ⟨[.map none, iv r1]⟩)]) (H21_2 p2) (TI.ra 5 [4] (st 11 [(4, iv r1)]) (TI.dn (NX.sq (TS.sq (TS.rg (TI.ra 2 [2] (st 11 [(2, iv r1)]) (TI.dn ?_))))))))⟩
    refine NX.sq (TS.rt ?_)
    have hF := Option.some.inj hF
    subst hF
    exact ⟨.inr rfl, rfl, iv r1, by kernel_rfl, WkV.flat0 (by kernel_rfl) (Nat.le_of_ble_eq_true rfl)⟩
  · replace hF := of_neg hF hc3
    refine TS.sk (NX.sq (TS.sq ?_))
    have hX := of_do hF
    clear hF
    obtain ⟨r4, h5, hF⟩ := hX
    refine TS.rg (TI.ra 1 [1, 11] (st 18 [(1, pt 2 0), (11, ag [iv p0, iv p1, sv 0 p2.length ANY])]) (TI.cp 49 [ag [iv p0, iv p1, sv 0 p2.length ANY]] (.map (some 3)) [mb 83 u83 u85 r4] (PureSim.ren (hc := [ab 57 e57 p2]) (fun i => List.getD [(0, 0)] i (0, 0)) (C49 _ _ _ _ h5) (.ac (.nil _)) (.cons (Rn.agg' (.fl (.fl (.cons (Rn.any _ _ _ _ _ _ (Nat.le_of_ble_eq_true rfl) rfl rfl (by decide)) .nil)))) .nil) (Rn.map _ (Nat.le_of_ble_eq_true rfl)) (newflat_cons (.inr rfl) newflat_nil)) (TI.rn 1 [1, 5] [0, 2, 3] (st 18 [(1, pt 2 0), (5, .map (some 3))]) [ab 57 e57 p2, .dead, cl 24 [iv p0, iv p1, sv 0 p2.length ANY], mb 83 u83 u85 r4] (TI.dn (NX.sq (TS.sq (TS.sq ?_)))))))
    have hX := of_do hF
    clear hF
    obtain ⟨r6, h7, hF⟩ := hX
    refine TS.rg (TI.rn 2 [5, 13, 14] [0, 3] (st 18 [(5, .map (some 3)), (13, ag [iv p0, iv p1, sv 0 p2.length ANY]), (14, .map (some 3))]) (H21_0 p2 r4) (TI.cp 54 [ag [iv p0, iv p1, sv 0 p2.length ANY], .map (some 3)] (iv r6) [] (PureSim.ren (hc := [ab 57 e57 p2, mb 83 u83 u85 r4]) (fun i => List.getD [(0, 0), (3, 0)] i (0, 0)) (C54 _ _ _ _ _ h7) (.ac (.cons (At.blk (by kernel_rfl) (RnB.map _ _)) (.nil _))) (.cons (Rn.agg' (.fl (.fl (.cons (Rn.any _ _ _ _ _ _ (Nat.le_of_ble_eq_true rfl) rfl rfl (by decide)) .nil)))) (.cons (Rn.map _ (Nat.le_of_ble_eq_true rfl)) .nil)) (.flat (by kernel_rfl)) newflat_nil) (TI.ra 1 [5, 16] (st 18 [(5, .map (some 3)), (16, .bool (decide (r6 ≥ 0)))]) (TI.dn (NX.sq ?_)))))
    refine TS.cd (.tmp 16) (decide (r6 ≥ 0)) (fun hc8 => ?_) (fun hc8 => ?_)
    · replace hF := of_pos hF hc8
      refine TS.sq (TS.rg (TI.rn 2 [2, 3] [0] (st 18 [(2, .map none), (3, iv 13)]) (H21_1 p2) (TI.dn (NX.sq (TS.rt (NX.sqR ?_))))))
      refine ⟨.inr rfl, rfl, .tuple ⟨[.map none, iv 13]⟩, .tuple ⟨[.map none, iv 13]⟩, (H21_1 p2), by kernel_rfl, WkV.refl, (TI.rn 0 [7] [0] (st 11 [(7, .tuple ⟨[.map none, iv 13]⟩)]) (H21_1 p2) (TI.ra 5 [4] (st 11 [(4, iv 13)]) (TI.dn (NX.sq (TS.sq (TS.rg (TI.ra 2 [2] (st 11 [(2, iv 13)]) (TI.dn ?_))))))))⟩
      refine NX.sq (TS.rt ?_)
      have hF := Option.some.inj hF
      subst hF
      exact ⟨.inr rfl, rfl, iv 13, by kernel_rfl, WkV.flat0 (by kernel_rfl) (Nat.le_of_ble_eq_true rfl)⟩
    · replace hF := of_neg hF hc8
      refine TS.sk (NX.sq (TS.sq (TS.rg (TI.ra 3 [2, 3] (st 18 [(2, .map (some 3)), (3, iv 0)]) (TI.dn (NX.sq (TS.rt ?_)))))))
      refine ⟨.inr rfl, rfl, .tuple ⟨[.map (some 3), iv 0]⟩, .tuple ⟨[.map (some 3), iv 0]⟩, (H21_0 p2 r4), by kernel_rfl, WkV.refl, (TI.rn 0 [7] [0, 3] (st 11 [(7, .tuple ⟨[.map (some 3), iv 0]⟩)]) (H21_0 p2 r4) (TI.rn 5 [4] [0] (st 11 [(4, iv 0)]) (H21_1 p2) (TI.dn (NX.sq (TS.sq (TS.rg (TI.ra 2 [2] (st 11 [(2, iv 0)]) (TI.dn ?_))))))))⟩
      refine NX.sq (TS.rt ?_)
      have hF := Option.some.inj hF
      subst hF
      exact ⟨.inr rfl, rfl, iv 0, by kernel_rfl, WkV.flat0 (by kernel_rfl) (Nat.le_of_ble_eq_true rfl)⟩
theorem C21 (p0 : Int) (p1 : Int) (p2 : (List (Int × Int))) (r : Int) (hF : F21 p0 p1 p2 = some r) : PureSim Try.prog 21 [ag [iv p0, iv p1, sv 0 p2.length ANY]] [ab 57 e57 p2] (V21 1 r) (N21 1 r) :=
  PureSim.of_Fin Try.func21 (c := c21) (by kernel_rfl) (by kernel_rfl) 1 rfl [0] [0] (by kernel_rfl) (B21 p0 p1 p2 r hF)
end
end Go.Proofs.Ytdekbjfjbbdjgaa
