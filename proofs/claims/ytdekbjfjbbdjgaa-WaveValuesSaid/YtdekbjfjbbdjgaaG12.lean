/- What functions of the program compute, and that they do. -/
import Derived.Test.YtdekbjfjbbdjgaaGW
set_option linter.unusedVariables false
set_option linter.unusedSimpArgs false
set_option maxRecDepth 100000
set_option maxHeartbeats 4000000
namespace Go.Proofs.Ytdekbjfjbbdjgaa
open Go Go.Cl

-- agonic/wave.Value
noncomputable def c37 : Code := Try.f37.code
def H37_0 (p2 : (List (Int × Int))) (p0 : Int) (p1 : Int) (r4 : (List ((Int × Int) × ((Int × Int) × Int × Int × (Int × Int))))) : List Blk := [accB 57 (List.length p2) (List.flatMap e57 p2), cl 24 [iv p0, iv p1, .slice (some ⟨0, 0, none⟩) (List.length p2) ANY], .dead, .map 83 (List.map (mEnc u83 u85) r4)]
def H37_1 (p2 : (List (Int × Int))) (p0 : Int) (p1 : Int) : List Blk := [accB 57 (List.length p2) (List.flatMap e57 p2), cl 24 [iv p0, iv p1, .slice (some ⟨0, 0, none⟩) (List.length p2) ANY], .dead, .dead]
def H37_2 (p2 : (List (Int × Int))) (p0 : Int) (p1 : Int) : List Blk := [accB 57 (List.length p2) (List.flatMap e57 p2), cl 24 [iv p0, iv p1, .slice (some ⟨0, 0, none⟩) (List.length p2) ANY], .dead]
def H37_3 (p2 : (List (Int × Int))) : List Blk := [accB 57 (List.length p2) (List.flatMap e57 p2), .dead, .dead, .dead]
noncomputable def c37f46 : Code := Try.f46.code
def F37 (p0 : Int) (p1 : Int) (p2 : (List (Int × Int))) (p3 : Int) : Option (Int × Int) :=
  F23 p0 p1 p2 >>= fun r1 =>
  if r1 != 0 then
    some (0, r1)
  else
    F49 p0 p1 p2 >>= fun r4 =>
    F54 p0 p1 p2 r4 >>= fun r6 =>
    if decide (r6 ≥ 0) then
      some (0, 13)
    else
      F51 0 p3 100000 >>= fun r9 =>
      (
        if r9 then
          some (false)
        else
          some (true)
      : Option Bool) >>= fun m11 =>
      if m11 then
        some (0, 1)
      else
        F59 p0 p1 p2 r4 p3 >>= fun r12 =>
        if r12.2 then
          some (r12.1, 0)
        else
          some (0, 14)
def V37 (b : Nat) (r : (Int × Int)) : Value := .tuple ⟨[iv r.1, iv r.2]⟩
def N37 (b : Nat) (r : (Int × Int)) : List Blk := []
theorem B37 (p0 : Int) (p1 : Int) (p2 : (List (Int × Int))) (p3 : Int) (r : (Int × Int)) (hF : F37 p0 p1 p2 p3 = some r) : TS Try.prog 1 1 c37 (st 32 [(0, ag [iv p0, iv p1, .slice (some ⟨0, 0, none⟩) (List.length p2) ANY]), (1, iv p3)]) [accB 57 (List.length p2) (List.flatMap e57 p2)] (NX Try.prog 1 1 [] (FinP Try.prog Try.f37 1 (V37 1 r) (N37 1 r))) := by
  unfold F37 at hF
  refine TS.sq (TS.rg (TI.rn 3 [1, 2] [0, 1] (st 32 [(1, iv p3), (2, pt 1 0)]) [accB 57 (List.length p2) (List.flatMap e57 p2), cl 24 [iv p0, iv p1, .slice (some ⟨0, 0, none⟩) (List.length p2) ANY]] (TI.dn (NX.sq (TS.sq (TS.rg (TI.ra 1 [1, 2, 11] (st 32 [(1, iv p3), (2, pt 1 0), (11, ag [iv p0, iv p1, .slice (some ⟨0, 0, none⟩) (List.length p2) ANY])]) (TI.inline (g := 46) (args := [ag [iv p0, iv p1, .slice (some ⟨0, 0, none⟩) (List.length p2) ANY]]) (fn := Try.f46) (c := c37f46) (n := 2) (by kernel_rfl) (by kernel_rfl) (by kernel_rfl) (by kernel_rfl) (by kernel_rfl) [0] (a2 := (st 18 [(0, ag [iv p0, iv p1, .slice (some ⟨0, 0, none⟩) (List.length p2) ANY])])) (by kernel_rfl) ?_))))))))
  refine TS.sq (TS.rg (TI.rn 3 [1] [0, 1, 2] (st 18 [(1, pt 2 0)]) [accB 57 (List.length p2) (List.flatMap e57 p2), cl 24 [iv p0, iv p1, .slice (some ⟨0, 0, none⟩) (List.length p2) ANY], cl 24 [iv p0, iv p1, .slice (some ⟨0, 0, none⟩) (List.length p2) ANY]] (TI.dn (NX.sq (TS.sq (TS.sq ?_))))))
  have hX := of_do hF
  clear hF
  obtain ⟨r1, h2, hF⟩ := hX
  refine TS.rg (TI.ra 1 [1, 6] (st 18 [(1, pt 2 0), (6, ag [iv p0, iv p1, .slice (some ⟨0, 0, none⟩) (List.length p2) ANY])]) (TI.cp 23 [ag [iv p0, iv p1, .slice (some ⟨0, 0, none⟩) (List.length p2) ANY]] (iv r1) [] (PureSim.ren (hc := [accB 57 (List.length p2) (List.flatMap e57 p2)]) (fun i => List.getD [(0, 0)] i (0, 0)) (C23 _ _ _ _ h2) (.cons (At.acc (by kernel_rfl) rfl (fun _ => rfl)) (.nil _)) (.cons (Rn.agg' (.cons (.flat (by kernel_rfl)) (.cons (.flat (by kernel_rfl)) (.cons (Rn.any _ _ _ _ _ _ (Nat.le_of_ble_eq_true rfl) rfl rfl (by decide)) .nil)))) .nil) (.flat (by kernel_rfl)) newflat_nil) (TI.ra 1 [1, 4] (st 18 [(1, pt 2 0), (4, iv r1)]) (TI.dn (NX.sq (TS.sq (TS.rg (TI.ra 2 [1, 4, 9] (st 18 [(1, pt 2 0), (4, iv r1), (9, .bool (r1 != 0))]) ?_))))))))
  refine TI.dn (NX.sq ?_)
  refine TS.cd (.tmp 9) (r1 != 0) (fun hc3 => ?_) (fun hc3 => ?_)
  · replace hF := of_pos hF hc3
    refine TS.sq (TS.rg (TI.rn 3 [2, 3] [0, 1] (st 18 [(2, .map none), (3, iv r1)]) (H37_2 p2 p0 p1) (TI.dn (NX.sq (TS.rt (NX.sqR ?_))))))
    refine ⟨.inr rfl, rfl, .tuple ⟨[.map none, iv r1]⟩, .tuple ⟨[.map none, iv r1]⟩, (H37_2 p2 p0 p1), by kernel_rfl, WkV.refl, (TI.rn 0 [1, 2, 12] [0, 1] (st 32 [(1, iv p3), (2, pt 1 0), (12, .tuple ⟨[.map none, iv r1]⟩)]) (H37_2 p2 p0 p1) (TI.ra 5 [1, 2, 6, 7] (st 32 [(1, iv p3), (2, pt 1 0), (6, .map none), (7, iv r1)]) (TI.dn (NX.sq (TS.sq (TS.bk 0 (TS.sq (TS.rg ?_))))))))⟩
    refine TI.ra 1 [1, 2, 6, 7, 16] (st 32 [(1, iv p3), (2, pt 1 0), (6, .map none), (7, iv r1), (16, iv r1)]) (TI.o { val := .bool true } (q_conv (e := r1 != 0) (b := true) (by kernel_rfl) hc3) [1, 2, 6, 7, 17] [0, 1] (st 32 [(1, iv p3), (2, pt 1 0), (6, .map none), (7, iv r1), (17, .bool true)]) (H37_2 p2 p0 p1) (TI.ra 1 [1, 2, 6, 7, 15] (st 32 [(1, iv p3), (2, pt 1 0), (6, .map none), (7, iv r1), (15, .bool true)]) (TI.dn (NX.sq (TS.cdT (.tmp 15) (TS.sq (TS.rg (TI.rn 3 [4, 5] [0] (st 32 [(4, iv 0), (5, iv r1)]) [accB 57 (List.length p2) (List.flatMap e57 p2), .dead, .dead] ?_))))))))
    refine TI.dn (NX.sq (TS.rt (NX.bkR (NX.sqR ?_))))
    have hF := Option.some.inj hF
    subst hF
    exact ⟨.inr rfl, rfl, .tuple ⟨[iv 0, iv r1]⟩, by kernel_rfl, WkV.flat0 (by kernel_rfl) (Nat.le_of_ble_eq_true rfl)⟩
  · replace hF := of_neg hF hc3
    refine TS.sk (NX.sq (TS.sq ?_))
    have hX := of_do hF
    clear hF
    obtain ⟨r4, h5, hF⟩ := hX
    refine TS.rg (TI.ra 1 [1, 11] (st 18 [(1, pt 2 0), (11, ag [iv p0, iv p1, .slice (some ⟨0, 0, none⟩) (List.length p2) ANY])]) (TI.cp 49 [ag [iv p0, iv p1, .slice (some ⟨0, 0, none⟩) (List.length p2) ANY]] (.map (some 3)) [.map 83 (List.map (mEnc u83 u85) r4)] (PureSim.ren (hc := [accB 57 (List.length p2) (List.flatMap e57 p2)]) (fun i => List.getD [(0, 0)] i (0, 0)) (C49 _ _ _ _ h5) (.cons (At.acc (by kernel_rfl) rfl (fun _ => rfl)) (.nil _)) (.cons (Rn.agg' (.cons (.flat (by kernel_rfl)) (.cons (.flat (by kernel_rfl)) (.cons (Rn.any _ _ _ _ _ _ (Nat.le_of_ble_eq_true rfl) rfl rfl (by decide)) .nil)))) .nil) (Rn.map _ (Nat.le_of_ble_eq_true rfl)) (newflat_cons (.inr rfl) newflat_nil)) (TI.rn 1 [1, 5] [0, 1, 2, 3] (st 18 [(1, pt 2 0), (5, .map (some 3))]) [accB 57 (List.length p2) (List.flatMap e57 p2), cl 24 [iv p0, iv p1, .slice (some ⟨0, 0, none⟩) (List.length p2) ANY], cl 24 [iv p0, iv p1, .slice (some ⟨0, 0, none⟩) (List.length p2) ANY], .map 83 (List.map (mEnc u83 u85) r4)] (TI.dn (NX.sq (TS.sq (TS.sq ?_)))))))
    have hX := of_do hF
    clear hF
    obtain ⟨r6, h7, hF⟩ := hX
    refine TS.rg (TI.rn 2 [5, 13, 14] [0, 1, 3] (st 18 [(5, .map (some 3)), (13, ag [iv p0, iv p1, .slice (some ⟨0, 0, none⟩) (List.length p2) ANY]), (14, .map (some 3))]) (H37_0 p2 p0 p1 r4) (TI.cp 54 [ag [iv p0, iv p1, .slice (some ⟨0, 0, none⟩) (List.length p2) ANY], .map (some 3)] (iv r6) [] (PureSim.ren (hc := [accB 57 (List.length p2) (List.flatMap e57 p2), .map 83 (List.map (mEnc u83 u85) r4)]) (fun i => List.getD [(0, 0), (3, 0)] i (0, 0)) (C54 _ _ _ _ _ h7) (.cons (At.acc (by kernel_rfl) rfl (fun _ => rfl)) (.cons (At.blk (by kernel_rfl) (RnB.map _ _)) (.nil _))) (.cons (Rn.agg' (.cons (.flat (by kernel_rfl)) (.cons (.flat (by kernel_rfl)) (.cons (Rn.any _ _ _ _ _ _ (Nat.le_of_ble_eq_true rfl) rfl rfl (by decide)) .nil)))) (.cons (Rn.map _ (Nat.le_of_ble_eq_true rfl)) .nil)) (.flat (by kernel_rfl)) newflat_nil) (TI.ra 1 [5, 16] (st 18 [(5, .map (some 3)), (16, .bool (decide (r6 ≥ 0)))]) (TI.dn (NX.sq ?_)))))
    refine TS.cd (.tmp 16) (decide (r6 ≥ 0)) (fun hc8 => ?_) (fun hc8 => ?_)
    · replace hF := of_pos hF hc8
      refine TS.sq (TS.rg (TI.rn 2 [2, 3] [0, 1] (st 18 [(2, .map none), (3, iv 13)]) (H37_1 p2 p0 p1) (TI.dn (NX.sq (TS.rt (NX.sqR ?_))))))
      refine ⟨.inr rfl, rfl, .tuple ⟨[.map none, iv 13]⟩, .tuple ⟨[.map none, iv 13]⟩, (H37_1 p2 p0 p1), by kernel_rfl, WkV.refl, (TI.rn 0 [1, 2, 12] [0, 1] (st 32 [(1, iv p3), (2, pt 1 0), (12, .tuple ⟨[.map none, iv 13]⟩)]) (H37_1 p2 p0 p1) (TI.ra 5 [1, 2, 6, 7] (st 32 [(1, iv p3), (2, pt 1 0), (6, .map none), (7, iv 13)]) (TI.dn (NX.sq (TS.sq (TS.bk 0 (TS.sq (TS.rg ?_))))))))⟩
      refine TI.ra 3 [1, 2, 6, 7, 15] (st 32 [(1, iv p3), (2, pt 1 0), (6, .map none), (7, iv 13), (15, .bool true)]) (TI.dn (NX.sq (TS.cdT (.tmp 15) (TS.sq (TS.rg (TI.rn 3 [4, 5] [0] (st 32 [(4, iv 0), (5, iv 13)]) (H37_3 p2) (TI.dn (NX.sq ?_))))))))
      refine TS.rt (NX.bkR (NX.sqR ?_))
      have hF := Option.some.inj hF
      subst hF
      exact ⟨.inr rfl, rfl, .tuple ⟨[iv 0, iv 13]⟩, by kernel_rfl, WkV.flat0 (by kernel_rfl) (Nat.le_of_ble_eq_true rfl)⟩
    · replace hF := of_neg hF hc8
      refine TS.sk (NX.sq (TS.sq (TS.rg (TI.ra 3 [2, 3] (st 18 [(2, .map (some 3)), (3, iv 0)]) (TI.dn (NX.sq (TS.rt ?_)))))))
      refine ⟨.inr rfl, rfl, .tuple ⟨[.map (some 3), iv 0]⟩, .tuple ⟨[.map (some 3), iv 0]⟩, (H37_0 p2 p0 p1 r4), by kernel_rfl, WkV.refl, (TI.rn 0 [1, 2, 12] [0, 1, 3] (st 32 [(1, iv p3), (2, pt 1 0), (12, .tuple ⟨[.map (some 3), iv 0]⟩)]) (H37_0 p2 p0 p1 r4) (TI.ra 5 [1, 2, 6, 7] (st 32 [(1, iv p3), (2, pt 1 0), (6, .map (some 3)), (7, iv 0)]) (TI.dn (NX.sq (TS.sq (TS.bk 0 (TS.sq (TS.rg ?_))))))))⟩
      refine TI.ra 3 [1, 2, 6, 7, 15] (st 32 [(1, iv p3), (2, pt 1 0), (6, .map (some 3)), (7, iv 0), (15, .bool false)]) (TI.dn (NX.sq (TS.cdF (.tmp 15) (TS.sq ?_))))
      have hX := of_do hF
      clear hF
      obtain ⟨r9, h10, hF⟩ := hX
      have hX := of_do hF
      clear hF
      obtain ⟨m11, hm15, hF⟩ := hX
      have hK : NX Try.prog 1 1 [.sq c37.s2.s2.s1.bd.s2.el.s2, .bk 0, .sq c37.s2.s2.s2] (FinP Try.prog Try.f37 1 (V37 1 r) (N37 1 r)) .normal (st 32 [(1, iv p3), (2, pt 1 0), (6, .map (some 3)), (19, .bool m11)]) (H37_0 p2 p0 p1 r4) := by
        refine NX.sq ?_
        cases m11 with
        | true =>
          replace hF := of_pos hF rfl
          refine TS.cdT (.tmp 19) (TS.sq (TS.rg (TI.rn 2 [4, 5] [0] (st 32 [(4, iv 0), (5, iv 1)]) (H37_3 p2) (TI.dn (NX.sq (TS.rt (NX.bkR (NX.sqR ?_))))))))
          have hF := Option.some.inj hF
          subst hF
          exact ⟨.inr rfl, rfl, .tuple ⟨[iv 0, iv 1]⟩, by kernel_rfl, WkV.flat0 (by kernel_rfl) (Nat.le_of_ble_eq_true rfl)⟩
        | false =>
          replace hF := of_neg hF rfl
          refine TS.cdF (.tmp 19) (TS.sk (NX.bk (NX.sq (TS.sq (TS.sq ?_)))))
          have hX := of_do hF
          clear hF
          obtain ⟨r12, h13, hF⟩ := hX
          refine TS.rg (TI.rn 3 [24, 25, 26] [0, 3] (st 32 [(24, ag [iv p0, iv p1, .slice (some ⟨0, 0, none⟩) (List.length p2) ANY]), (25, .map (some 3)), (26, iv p3)]) [accB 57 (List.length p2) (List.flatMap e57 p2), .dead, .dead, .map 83 (List.map (mEnc u83 u85) r4)] (TI.cp 59 [ag [iv p0, iv p1, .slice (some ⟨0, 0, none⟩) (List.length p2) ANY], .map (some 3), iv p3] (.tuple ⟨[iv r12.1, .bool r12.2]⟩) [] (PureSim.ren (hc := [accB 57 (List.length p2) (List.flatMap e57 p2), .map 83 (List.map (mEnc u83 u85) r4)]) (fun i => List.getD [(0, 0), (3, 0)] i (0, 0)) (C59 _ _ _ _ _ _ h13) (.cons (At.acc (by kernel_rfl) rfl (fun _ => rfl)) (.cons (At.blk (by kernel_rfl) (RnB.map _ _)) (.nil _))) (.cons (Rn.agg' (.cons (.flat (by kernel_rfl)) (.cons (.flat (by kernel_rfl)) (.cons (Rn.any _ _ _ _ _ _ (Nat.le_of_ble_eq_true rfl) rfl rfl (by decide)) .nil)))) (.cons (Rn.map _ (Nat.le_of_ble_eq_true rfl)) (.cons (.flat (by kernel_rfl)) .nil))) (.flat (by kernel_rfl)) newflat_nil) (TI.rn 5 [8, 9] [0] (st 32 [(8, iv r12.1), (9, .bool r12.2)]) (H37_3 p2) (TI.dn (NX.sq (TS.sq (TS.rg (TI.ra 1 [8, 30] (st 32 [(8, iv r12.1), (30, .bool r12.2)]) ?_))))))))
          refine TI.dn (NX.sq ?_)
          refine TS.cd (.tmp 30) r12.2 (fun hc14 => ?_) (fun hc14 => ?_)
          · replace hF := of_pos hF hc14
            refine TS.sq (TS.rg (TI.ra 3 [4, 5] (st 32 [(4, iv r12.1), (5, iv 0)]) (TI.dn (NX.sq (TS.rt (NX.sqR ?_))))))
            have hF := Option.some.inj hF
            subst hF
            exact ⟨.inr rfl, rfl, .tuple ⟨[iv r12.1, iv 0]⟩, by kernel_rfl, WkV.flat0 (by kernel_rfl) (Nat.le_of_ble_eq_true rfl)⟩
          · replace hF := of_neg hF hc14
            refine TS.sk (NX.sq (TS.sq (TS.rg (TI.ra 2 [4, 5] (st 32 [(4, iv 0), (5, iv 14)]) (TI.dn (NX.sq (TS.rt ?_)))))))
            have hF := Option.some.inj hF
            subst hF
            exact ⟨.inr rfl, rfl, .tuple ⟨[iv 0, iv 14]⟩, by kernel_rfl, WkV.flat0 (by kernel_rfl) (Nat.le_of_ble_eq_true rfl)⟩
      cases r9 with
      | true =>
        replace hm15 := of_pos hm15 rfl
        have hm15 := Option.some.inj hm15
        subst hm15
        exact TS.rg (TI.ra 1 [1, 2, 6, 20] (st 32 [(1, iv p3), (2, pt 1 0), (6, .map (some 3)), (20, iv p3)]) (TI.cf (C51 _ _ _ _ h10) (TI.ra 2 [1, 2, 6, 19] (st 32 [(1, iv p3), (2, pt 1 0), (6, .map (some 3)), (19, .bool false)]) (TI.dn hK))))
      | false =>
        replace hm15 := of_neg hm15 rfl
        have hm15 := Option.some.inj hm15
        subst hm15
        exact TS.rg (TI.ra 1 [1, 2, 6, 20] (st 32 [(1, iv p3), (2, pt 1 0), (6, .map (some 3)), (20, iv p3)]) (TI.cf (C51 _ _ _ _ h10) (TI.ra 2 [1, 2, 6, 19] (st 32 [(1, iv p3), (2, pt 1 0), (6, .map (some 3)), (19, .bool true)]) (TI.dn hK))))
theorem C37 (p0 : Int) (p1 : Int) (p2 : (List (Int × Int))) (p3 : Int) (r : (Int × Int)) (hF : F37 p0 p1 p2 p3 = some r) : PureSim Try.prog 37 [ag [iv p0, iv p1, .slice (some ⟨0, 0, none⟩) (List.length p2) ANY], iv p3] [accB 57 (List.length p2) (List.flatMap e57 p2)] (V37 1 r) (N37 1 r) :=
  PureSim.of_Fin Try.func37 (c := c37) (by kernel_rfl) (by kernel_rfl) 1 rfl [0, 1] [0] (by kernel_rfl) (B37 p0 p1 p2 p3 r hF)

-- agonic/agonicref04.Value
noncomputable def c41 : Code := Try.f41.code
def H41_0 (p2 : (List (Int × Int))) (p0 : Int) (p1 : Int) (r12 : ((List Int) × (List Int))) : List Blk := [accB 72 (List.length p2) (List.flatMap e72 p2), cl 28 [iv p0, iv p1, .slice (some ⟨0, 0, none⟩) (List.length p2) ANY], .cells 3 (List.flatMap e3 r12.1), .cells 3 (List.flatMap e3 r12.2)]
def H41_1 (p2 : (List (Int × Int))) (r12 : ((List Int) × (List Int))) : List Blk := [accB 72 (List.length p2) (List.flatMap e72 p2), .dead, .cells 3 (List.flatMap e3 r12.1), .cells 3 (List.flatMap e3 r12.2)]
def H41_2 (p2 : (List (Int × Int))) (p0 : Int) (p1 : Int) : List Blk := [accB 72 (List.length p2) (List.flatMap e72 p2), cl 28 [iv p0, iv p1, .slice (some ⟨0, 0, none⟩) (List.length p2) ANY]]
def H41_3 (p2 : (List (Int × Int))) (r12 : ((List Int) × (List Int))) : List Blk := [accB 72 (List.length p2) (List.flatMap e72 p2), .dead, .dead, .cells 3 (List.flatMap e3 r12.2)]
def F41 (p0 : Int) (p1 : Int) (p2 : (List (Int × Int))) (p3 : Int) : Option (Int × Int) :=
  F22 p0 p1 p2 >>= fun r1 =>
  (
    if r1 == 0 then
      F52 p3 0 100000 >>= fun r4 =>
      if r4 then
        some (false)
      else
        some (true)
    else
      some (false)
  : Option Bool) >>= fun m6 =>
  (
    if m6 then
      some 1
    else
      some r1
  : Option Int) >>= fun m9 =>
  if m9 != 0 then
    some (0, m9)
  else
    F48 p0 p1 p2 >>= fun r12 =>
    if p0 = 0 then none else
    if p1 = 0 then none else
    if (0 : Int) ≤ Int.tmod p3 p0 ∧ Int.tmod p3 p0 < (List.length r12.1 : Int) then
      some (List.getD r12.1 (Int.toNat (Int.tmod p3 p0)) 0) >>= fun o17 =>
      if (0 : Int) ≤ w64 (p0 + (Int.tmod p3 p1)) ∧ w64 (p0 + (Int.tmod p3 p1)) < (List.length r12.1 : Int) then
        some (List.getD r12.1 (Int.toNat (w64 (p0 + (Int.tmod p3 p1)))) 0) >>= fun o20 =>
        if o17 != o20 then
          some (0, 14)
        else
          if (0 : Int) ≤ Int.tmod p3 p0 ∧ Int.tmod p3 p0 < (List.length r12.2 : Int) then
            some (List.getD r12.2 (Int.toNat (Int.tmod p3 p0)) 0) >>= fun o24 =>
            if (0 : Int) ≤ w64 (p0 + (Int.tmod p3 p1)) ∧ w64 (p0 + (Int.tmod p3 p1)) < (List.length r12.2 : Int) then
              some (List.getD r12.2 (Int.toNat (w64 (p0 + (Int.tmod p3 p1)))) 0) >>= fun o27 =>
              some (w64 (o24 + o27), 0)
            else none
          else none
      else none
    else none
def V41 (b : Nat) (r : (Int × Int)) : Value := .tuple ⟨[iv r.1, iv r.2]⟩
def N41 (b : Nat) (r : (Int × Int)) : List Blk := []
theorem B41 (p0 : Int) (p1 : Int) (p2 : (List (Int × Int))) (p3 : Int) (r : (Int × Int)) (hF : F41 p0 p1 p2 p3 = some r) : TS Try.prog 1 1 c41 (st 57 [(0, ag [iv p0, iv p1, .slice (some ⟨0, 0, none⟩) (List.length p2) ANY]), (1, iv p3)]) [accB 72 (List.length p2) (List.flatMap e72 p2)] (NX Try.prog 1 1 [] (FinP Try.prog Try.f41 1 (V41 1 r) (N41 1 r))) := by
  unfold F41 at hF
  refine TS.sq (TS.rg (TI.rn 3 [1, 2] [0, 1] (st 57 [(1, iv p3), (2, pt 1 0)]) (H41_2 p2 p0 p1) (TI.dn (NX.sq (TS.sq ?_)))))
  have hX := of_do hF
  clear hF
  obtain ⟨r1, h2, hF⟩ := hX
  refine TS.rg (TI.ra 1 [1, 2, 11] (st 57 [(1, iv p3), (2, pt 1 0), (11, ag [iv p0, iv p1, .slice (some ⟨0, 0, none⟩) (List.length p2) ANY])]) (TI.cp 22 [ag [iv p0, iv p1, .slice (some ⟨0, 0, none⟩) (List.length p2) ANY]] (iv r1) [] (PureSim.ren (hc := [accB 72 (List.length p2) (List.flatMap e72 p2)]) (fun i => List.getD [(0, 0)] i (0, 0)) (C22 _ _ _ _ h2) (.cons (At.acc (by kernel_rfl) rfl (fun _ => rfl)) (.nil _)) (.cons (Rn.agg' (.cons (.flat (by kernel_rfl)) (.cons (.flat (by kernel_rfl)) (.cons (Rn.any _ _ _ _ _ _ (Nat.le_of_ble_eq_true rfl) rfl rfl (by decide)) .nil)))) .nil) (.flat (by kernel_rfl)) newflat_nil) (TI.ra 1 [1, 2, 6] (st 57 [(1, iv p3), (2, pt 1 0), (6, iv r1)]) (TI.dn (NX.sq (TS.sq (TS.sq ?_)))))))
  have hX := of_do hF
  clear hF
  obtain ⟨m6, hm29, hF⟩ := hX
  have hK : NX Try.prog 1 1 [.sq c41.s2.s2.s1.s2, .sq c41.s2.s2.s2] (FinP Try.prog Try.f41 1 (V41 1 r) (N41 1 r)) .normal (st 57 [(1, iv p3), (2, pt 1 0), (6, iv r1), (19, .bool m6)]) (H41_2 p2 p0 p1) := by
    refine NX.sq ?_
    have hX := of_do hF
    clear hF
    obtain ⟨m9, hm10, hF⟩ := hX
    have hK : NX Try.prog 1 1 [.sq c41.s2.s2.s2] (FinP Try.prog Try.f41 1 (V41 1 r) (N41 1 r)) .normal (st 57 [(1, iv p3), (2, pt 1 0), (6, iv m9)]) (H41_2 p2 p0 p1) := by
      refine NX.sq (TS.sq (TS.sq (TS.rg (TI.ra 2 [1, 2, 6, 21] (st 57 [(1, iv p3), (2, pt 1 0), (6, iv m9), (21, .bool (m9 != 0))]) (TI.dn (NX.sq ?_))))))
      refine TS.cd (.tmp 21) (m9 != 0) (fun hc11 => ?_) (fun hc11 => ?_)
      · replace hF := of_pos hF hc11
        refine TS.sq (TS.rg (TI.rn 3 [4, 5] [0] (st 57 [(4, iv 0), (5, iv m9)]) [accB 72 (List.length p2) (List.flatMap e72 p2), .dead] (TI.dn (NX.sq (TS.rt (NX.sqR ?_))))))
        have hF := Option.some.inj hF
        subst hF
        exact ⟨.inr rfl, rfl, .tuple ⟨[iv 0, iv m9]⟩, by kernel_rfl, WkV.flat0 (by kernel_rfl) (Nat.le_of_ble_eq_true rfl)⟩
      · replace hF := of_neg hF hc11
        refine TS.sk (NX.sq (TS.sq ?_))
        have hX := of_do hF
        clear hF
        obtain ⟨r12, h13, hF⟩ := hX
        refine TS.rg (TI.ra 1 [1, 2, 24] (st 57 [(1, iv p3), (2, pt 1 0), (24, ag [iv p0, iv p1, .slice (some ⟨0, 0, none⟩) (List.length p2) ANY])]) (TI.cp 48 [ag [iv p0, iv p1, .slice (some ⟨0, 0, none⟩) (List.length p2) ANY]] (.tuple ⟨[mkV 2 (List.length r12.1), mkV 3 (List.length r12.2)]⟩) [.cells 3 (List.flatMap e3 r12.1), .cells 3 (List.flatMap e3 r12.2)] (PureSim.ren (hc := [accB 72 (List.length p2) (List.flatMap e72 p2)]) (fun i => List.getD [(0, 0)] i (0, 0)) (C48 _ _ _ _ h13) (.cons (At.acc (by kernel_rfl) rfl (fun _ => rfl)) (.nil _)) (.cons (Rn.agg' (.cons (.flat (by kernel_rfl)) (.cons (.flat (by kernel_rfl)) (.cons (Rn.any _ _ _ _ _ _ (Nat.le_of_ble_eq_true rfl) rfl rfl (by decide)) .nil)))) .nil) (Rn.tuple' (.cons (Rn.mk (i' := 2) (Nat.le_of_ble_eq_true rfl) rfl rfl) (.cons (Rn.mk (i' := 3) (Nat.le_of_ble_eq_true rfl) rfl rfl) .nil))) (newflat_cons (cellsL_flat (fun _ => rfl)) (newflat_cons (cellsL_flat (fun _ => rfl)) newflat_nil))) (TI.rn 5 [1, 2, 7, 8] [0, 1, 2, 3] (st 57 [(1, iv p3), (2, pt 1 0), (7, mkV 2 (List.length r12.1)), (8, mkV 3 (List.length r12.2))]) (H41_0 p2 p0 p1 r12) (TI.dn (NX.sq (TS.sq ?_))))))
        have hX := of_guardn hF
        clear hF
        obtain ⟨hg14, hF⟩ := hX
        have hX := of_guardn hF
        clear hF
        obtain ⟨hg15, hF⟩ := hX
        refine TS.dp [] (fun e he => by cases he) mixed 12 [7, 8, 9, 10] [0, 2, 3] (st 57 [(7, mkV 2 (List.length r12.1)), (8, mkV 3 (List.length r12.2)), (9, iv (Int.tmod p3 p0)), (10, iv (w64 (p0 + (Int.tmod p3 p1))))]) (H41_1 p2 r12) ?_ ?_
        · exact QJ.rn (qs (st 57 [(1, iv p3), (2, pt 1 0), (7, mkV 2 (List.length r12.1)), (8, mkV 3 (List.length r12.2)), (28, iv p3), (29, pt 1 0), (30, iv p0)]) (H41_0 p2 p0 p1 r12) [] []) 3 (QJ.o { val := iv (Int.tmod p3 p0) } (q_int (P := Try.prog) (op := .rem) (ty := 3) (ox := (.tmp 28)) (oy := (.tmp 30)) (k := .i64) (k' := .i64) (y := p3) (z := p0) (by kernel_rfl) (rem_ok hg14)) (QJ.rn (qs (st 57 [(1, iv p3), (2, pt 1 0), (7, mkV 2 (List.length r12.1)), (8, mkV 3 (List.length r12.2)), (28, iv p3), (29, pt 1 0), (30, iv p0), (31, iv (Int.tmod p3 p0)), (32, pt 1 0), (33, iv p0), (34, iv p3), (35, pt 1 1), (36, iv p1)]) (H41_0 p2 p0 p1 r12) [] []) 5 (QJ.o { val := iv (Int.tmod p3 p1) } (q_int (P := Try.prog) (op := .rem) (ty := 3) (ox := (.tmp 34)) (oy := (.tmp 36)) (k := .i64) (k' := .i64) (y := p3) (z := p1) (by kernel_rfl) (rem_ok hg15)) (QJ.rn (qs (st 57 [(1, iv p3), (2, pt 1 0), (7, mkV 2 (List.length r12.1)), (8, mkV 3 (List.length r12.2)), (9, iv (Int.tmod p3 p0)), (28, iv p3), (29, pt 1 0), (30, iv p0), (31, iv (Int.tmod p3 p0)), (32, pt 1 0), (33, iv p0), (34, iv p3), (35, pt 1 1), (36, iv p1), (37, iv (Int.tmod p3 p1)), (38, iv (w64 (p0 + (Int.tmod p3 p1))))]) (H41_0 p2 p0 p1 r12) [] []) 2 (QJ.dn ⟨rfl, SJ.la⟩)))))
        refine TS.sq (TS.sq ?_)
        have hX := of_guard hF
        clear hF
        obtain ⟨hg16, hF⟩ := hX
        have hX := of_do hF
        clear hF
        obtain ⟨o17, h18, hF⟩ := hX
        replace h18 := Option.some.inj h18
        have hX := of_guard hF
        clear hF
        obtain ⟨hg19, hF⟩ := hX
        have hX := of_do hF
        clear hF
        obtain ⟨o20, h21, hF⟩ := hX
        replace h21 := Option.some.inj h21
        refine TS.dp [] (fun e he => by cases he) mixed 8 [8, 9, 10, 47] [0, 3] (st 57 [(8, mkV 3 (List.length r12.2)), (9, iv (Int.tmod p3 p0)), (10, iv (w64 (p0 + (Int.tmod p3 p1)))), (47, .bool (o17 != o20))]) (H41_3 p2 r12) ?_ ?_
        · refine QJ.rn (qs (st 57 [(7, mkV 2 (List.length r12.1)), (8, mkV 3 (List.length r12.2)), (9, iv (Int.tmod p3 p0)), (10, iv (w64 (p0 + (Int.tmod p3 p1)))), (39, mkV 2 (List.length r12.1)), (40, iv (Int.tmod p3 p0))]) (H41_1 p2 r12) [] []) 2 (QJ.o { val := .pointer (some ⟨2, 0 + (Int.toNat (Int.tmod p3 p0)) * 1, none⟩) } (q_ixS 2 0 ((Int.toNat (Int.tmod p3 p0)) * 1) (by kernel_rfl) hg16) ?_)
          refine QJ.o { val := iv o17 } (q_eqv (q_ld1 (P := Try.prog) (hp := (H41_1 p2 r12)) (t := 3) (b := 2) (off := 0 + (Int.toNat (Int.tmod p3 p0)) * 1) (l := r12.1) (enc := e3) (s := 1) (T := 3) (i := Int.toNat (Int.tmod p3 p0)) (k := 0) (by kernel_rfl) (by kernel_rfl) (by kernel_rfl) (fun _ => rfl) (by omega) (by decide) (by first | omega | (simp only [List.length_set, List.length_replicate, List.length_cons, List.length_nil, List.length_append]; omega)) 0) (congrArg (fun (z : Int) => ({ val := iv z } : QRes)) h18)) (QJ.rn (qs (st 57 [(7, mkV 2 (List.length r12.1)), (8, mkV 3 (List.length r12.2)), (9, iv (Int.tmod p3 p0)), (10, iv (w64 (p0 + (Int.tmod p3 p1)))), (39, mkV 2 (List.length r12.1)), (40, iv (Int.tmod p3 p0)), (41, .pointer (some ⟨2, 0 + (Int.toNat (Int.tmod p3 p0)) * 1, none⟩)), (42, iv o17), (43, mkV 2 (List.length r12.1)), (44, iv (w64 (p0 + (Int.tmod p3 p1))))]) (H41_1 p2 r12) [] []) 2 (QJ.o { val := .pointer (some ⟨2, 0 + (Int.toNat (w64 (p0 + (Int.tmod p3 p1)))) * 1, none⟩) } (q_ixS 2 0 ((Int.toNat (w64 (p0 + (Int.tmod p3 p1)))) * 1) (by kernel_rfl) hg19) ?_))
          exact QJ.o { val := iv o20 } (q_eqv (q_ld1 (P := Try.prog) (hp := (H41_1 p2 r12)) (t := 3) (b := 2) (off := 0 + (Int.toNat (w64 (p0 + (Int.tmod p3 p1)))) * 1) (l := r12.1) (enc := e3) (s := 1) (T := 3) (i := Int.toNat (w64 (p0 + (Int.tmod p3 p1)))) (k := 0) (by kernel_rfl) (by kernel_rfl) (by kernel_rfl) (fun _ => rfl) (by omega) (by decide) (by first | omega | (simp only [List.length_set, List.length_replicate, List.length_cons, List.length_nil, List.length_append]; omega)) 0) (congrArg (fun (z : Int) => ({ val := iv z } : QRes)) h21)) (QJ.dn ⟨rfl, SJ.la⟩)
        refine TS.cd (.tmp 47) (o17 != o20) (fun hc22 => ?_) (fun hc22 => ?_)
        · replace hF := of_pos hF hc22
          refine TS.sq (TS.rg (TI.rn 2 [4, 5] [0] (st 57 [(4, iv 0), (5, iv 14)]) [accB 72 (List.length p2) (List.flatMap e72 p2), .dead, .dead, .dead] (TI.dn (NX.sq (TS.rt (NX.sqR ?_))))))
          have hF := Option.some.inj hF
          subst hF
          exact ⟨.inr rfl, rfl, .tuple ⟨[iv 0, iv 14]⟩, by kernel_rfl, WkV.flat0 (by kernel_rfl) (Nat.le_of_ble_eq_true rfl)⟩
        · replace hF := of_neg hF hc22
          refine TS.sk (NX.sq (TS.sq ?_))
          have hX := of_guard hF
          clear hF
          obtain ⟨hg23, hF⟩ := hX
          have hX := of_do hF
          clear hF
          obtain ⟨o24, h25, hF⟩ := hX
          replace h25 := Option.some.inj h25
          have hX := of_guard hF
          clear hF
          obtain ⟨hg26, hF⟩ := hX
          have hX := of_do hF
          clear hF
          obtain ⟨o27, h28, hF⟩ := hX
          replace h28 := Option.some.inj h28
          refine TS.dp [] (fun e he => by cases he) mixed 8 [4, 5] [0] (st 57 [(4, iv (w64 (o24 + o27))), (5, iv 0)]) [accB 72 (List.length p2) (List.flatMap e72 p2), .dead, .dead, .dead] ?_ ?_
          · refine QJ.rn (qs (st 57 [(8, mkV 3 (List.length r12.2)), (9, iv (Int.tmod p3 p0)), (10, iv (w64 (p0 + (Int.tmod p3 p1)))), (47, .bool (o17 != o20)), (48, mkV 3 (List.length r12.2)), (49, iv (Int.tmod p3 p0))]) (H41_3 p2 r12) [] []) 2 (QJ.o { val := .pointer (some ⟨3, 0 + (Int.toNat (Int.tmod p3 p0)) * 1, none⟩) } (q_ixS 3 0 ((Int.toNat (Int.tmod p3 p0)) * 1) (by kernel_rfl) hg23) ?_)
            refine QJ.o { val := iv o24 } (q_eqv (q_ld1 (P := Try.prog) (hp := (H41_3 p2 r12)) (t := 3) (b := 3) (off := 0 + (Int.toNat (Int.tmod p3 p0)) * 1) (l := r12.2) (enc := e3) (s := 1) (T := 3) (i := Int.toNat (Int.tmod p3 p0)) (k := 0) (by kernel_rfl) (by kernel_rfl) (by kernel_rfl) (fun _ => rfl) (by omega) (by decide) (by first | omega | (simp only [List.length_set, List.length_replicate, List.length_cons, List.length_nil, List.length_append]; omega)) 0) (congrArg (fun (z : Int) => ({ val := iv z } : QRes)) h25)) (QJ.rn (qs (st 57 [(8, mkV 3 (List.length r12.2)), (9, iv (Int.tmod p3 p0)), (10, iv (w64 (p0 + (Int.tmod p3 p1)))), (47, .bool (o17 != o20)), (48, mkV 3 (List.length r12.2)), (49, iv (Int.tmod p3 p0)), (50, .pointer (some ⟨3, 0 + (Int.toNat (Int.tmod p3 p0)) * 1, none⟩)), (51, iv o24), (52, mkV 3 (List.length r12.2)), (53, iv (w64 (p0 + (Int.tmod p3 p1))))]) (H41_3 p2 r12) [] []) 2 (QJ.o { val := .pointer (some ⟨3, 0 + (Int.toNat (w64 (p0 + (Int.tmod p3 p1)))) * 1, none⟩) } (q_ixS 3 0 ((Int.toNat (w64 (p0 + (Int.tmod p3 p1)))) * 1) (by kernel_rfl) hg26) ?_))
            exact QJ.o { val := iv o27 } (q_eqv (q_ld1 (P := Try.prog) (hp := (H41_3 p2 r12)) (t := 3) (b := 3) (off := 0 + (Int.toNat (w64 (p0 + (Int.tmod p3 p1)))) * 1) (l := r12.2) (enc := e3) (s := 1) (T := 3) (i := Int.toNat (w64 (p0 + (Int.tmod p3 p1)))) (k := 0) (by kernel_rfl) (by kernel_rfl) (by kernel_rfl) (fun _ => rfl) (by omega) (by decide) (by first | omega | (simp only [List.length_set, List.length_replicate, List.length_cons, List.length_nil, List.length_append]; omega)) 0) (congrArg (fun (z : Int) => ({ val := iv z } : QRes)) h28)) (QJ.dn ⟨rfl, SJ.la⟩)
          refine TS.rt ?_
          have hF := Option.some.inj hF
          subst hF
          exact ⟨.inr rfl, rfl, .tuple ⟨[iv (w64 (o24 + o27)), iv 0]⟩, by kernel_rfl, WkV.flat0 (by kernel_rfl) (Nat.le_of_ble_eq_true rfl)⟩
    clear hF
    have hF := hm10
    clear hm10
    refine TS.start ?_
    cases m6 with
    | true =>
      replace hF := of_pos hF rfl
      refine TS.cdT (.tmp 19) (TS.rg (TI.ra 1 [1, 2, 6] (st 57 [(1, iv p3), (2, pt 1 0), (6, iv 1)]) (TI.dn ?_)))
      have hF := Option.some.inj hF
      subst hF
      exact TS.weak (Wk.anew (base := 1) (L := 1) (f := [1]) (by decide) (by decide) (Nat.le_of_ble_eq_true rfl) rfl (.cons (At.acc (by kernel_rfl) rfl (fun _ => rfl)) (.cons (At.blk (by kernel_rfl) (RnB.lit (.cons (.flat (by kernel_rfl)) (.cons (.flat (by kernel_rfl)) (.cons (Rn.slice0 _ _ _ _ (Nat.le_of_ble_eq_true rfl) rfl) .nil))))) (.nil _))) (LRn.stx [1, 2, 6] [iv p3, pt 1 0, iv 1] [iv p3, pt 1 0, iv 1] (.cons (.flat (by kernel_rfl)) (.cons (Rn.ptr _ _ _ (Nat.le_of_ble_eq_true rfl) rfl) (.cons (.flat (by kernel_rfl)) .nil))) (by kernel_rfl) (by kernel_rfl) rfl) rfl rfl) hK
    | false =>
      replace hF := of_neg hF rfl
      refine TS.cdF (.tmp 19) (TS.sk ?_)
      have hF := Option.some.inj hF
      subst hF
      exact TS.weak (Wk.anew (base := 1) (L := 1) (f := [1]) (by decide) (by decide) (Nat.le_of_ble_eq_true rfl) rfl (.cons (At.acc (by kernel_rfl) rfl (fun _ => rfl)) (.cons (At.blk (by kernel_rfl) (RnB.lit (.cons (.flat (by kernel_rfl)) (.cons (.flat (by kernel_rfl)) (.cons (Rn.slice0 _ _ _ _ (Nat.le_of_ble_eq_true rfl) rfl) .nil))))) (.nil _))) (LRn.stx [1, 2, 6] [iv p3, pt 1 0, iv r1] [iv p3, pt 1 0, iv r1] (.cons (.flat (by kernel_rfl)) (.cons (Rn.ptr _ _ _ (Nat.le_of_ble_eq_true rfl) rfl) (.cons (.flat (by kernel_rfl)) .nil))) (by kernel_rfl) (by kernel_rfl) rfl) rfl rfl) hK
  rcases Bool.eq_false_or_eq_true (r1 == 0) with hc3 | hc3
  · replace hm29 := of_pos hm29 hc3
    have hX := of_do hm29
    clear hm29
    obtain ⟨r4, h5, hm29⟩ := hX
    cases r4 with
    | true =>
      replace hm29 := of_pos hm29 rfl
      have hm29 := Option.some.inj hm29
      subst hm29
      exact TS.rg (TI.ra 1 [1, 2, 6, 13] (st 57 [(1, iv p3), (2, pt 1 0), (6, iv r1), (13, iv r1)]) (TI.o { val := .bool true } (q_conv (e := r1 == 0) (b := true) (by kernel_rfl) hc3) [1, 2, 6, 14] [0, 1] (st 57 [(1, iv p3), (2, pt 1 0), (6, iv r1), (14, .bool true)]) (H41_2 p2 p0 p1) (TI.ra 2 [1, 2, 6, 15, 16] (st 57 [(1, iv p3), (2, pt 1 0), (6, iv r1), (15, .bool true), (16, iv p3)]) (TI.cf (C52 _ _ _ _ h5) (TI.ra 2 [1, 2, 6, 19] (st 57 [(1, iv p3), (2, pt 1 0), (6, iv r1), (19, .bool false)]) (TI.dn hK))))))
    | false =>
      replace hm29 := of_neg hm29 rfl
      have hm29 := Option.some.inj hm29
      subst hm29
      exact TS.rg (TI.ra 1 [1, 2, 6, 13] (st 57 [(1, iv p3), (2, pt 1 0), (6, iv r1), (13, iv r1)]) (TI.o { val := .bool true } (q_conv (e := r1 == 0) (b := true) (by kernel_rfl) hc3) [1, 2, 6, 14] [0, 1] (st 57 [(1, iv p3), (2, pt 1 0), (6, iv r1), (14, .bool true)]) (H41_2 p2 p0 p1) (TI.ra 2 [1, 2, 6, 15, 16] (st 57 [(1, iv p3), (2, pt 1 0), (6, iv r1), (15, .bool true), (16, iv p3)]) (TI.cf (C52 _ _ _ _ h5) (TI.ra 2 [1, 2, 6, 19] (st 57 [(1, iv p3), (2, pt 1 0), (6, iv r1), (19, .bool true)]) (TI.dn hK))))))
  · replace hm29 := of_neg hm29 hc3
    have hm29 := Option.some.inj hm29
    subst hm29
    exact TS.rg (TI.ra 1 [1, 2, 6, 13] (st 57 [(1, iv p3), (2, pt 1 0), (6, iv r1), (13, iv r1)]) (TI.o { val := .bool false } (q_conv (e := r1 == 0) (b := false) (by kernel_rfl) hc3) [1, 2, 6, 14] [0, 1] (st 57 [(1, iv p3), (2, pt 1 0), (6, iv r1), (14, .bool false)]) (H41_2 p2 p0 p1) (TI.ra 5 [1, 2, 6, 19] (st 57 [(1, iv p3), (2, pt 1 0), (6, iv r1), (19, .bool false)]) (TI.dn hK))))
theorem C41 (p0 : Int) (p1 : Int) (p2 : (List (Int × Int))) (p3 : Int) (r : (Int × Int)) (hF : F41 p0 p1 p2 p3 = some r) : PureSim Try.prog 41 [ag [iv p0, iv p1, .slice (some ⟨0, 0, none⟩) (List.length p2) ANY], iv p3] [accB 72 (List.length p2) (List.flatMap e72 p2)] (V41 1 r) (N41 1 r) :=
  PureSim.of_Fin Try.func41 (c := c41) (by kernel_rfl) (by kernel_rfl) 1 rfl [0, 1] [0] (by kernel_rfl) (B41 p0 p1 p2 p3 r hF)

-- agonic/wave.Follow
noncomputable def c42 : Code := Try.f42.code
def H42_0 (p2 : (List (Int × Int))) (p0 : Int) (p1 : Int) (r4 : (List ((Int × Int) × ((Int × Int) × Int × Int × (Int × Int))))) : List Blk := [accB 57 (List.length p2) (List.flatMap e57 p2), cl 24 [iv p0, iv p1, .slice (some ⟨0, 0, none⟩) (List.length p2) ANY], .dead, .map 83 (List.map (mEnc u83 u85) r4)]
def H42_1 (p2 : (List (Int × Int))) (p0 : Int) (p1 : Int) : List Blk := [accB 57 (List.length p2) (List.flatMap e57 p2), cl 24 [iv p0, iv p1, .slice (some ⟨0, 0, none⟩) (List.length p2) ANY], .dead, .dead]
def H42_2 (p2 : (List (Int × Int))) (p0 : Int) (p1 : Int) : List Blk := [accB 57 (List.length p2) (List.flatMap e57 p2), cl 24 [iv p0, iv p1, .slice (some ⟨0, 0, none⟩) (List.length p2) ANY], .dead]
def S42_3 (p3 : Int) (p4 : Int) : CAct := (st 59 [(1, iv p3), (2, iv p4), (3, pt 1 0), (8, .map (some 3)), (24, iv p3), (25, iv p4)])
noncomputable def c42f46 : Code := Try.f46.code
def F42l0 (p0 : Int) (p1 : Int) (p2 : (List (Int × Int))) (p4 : Int) (r4 : (List ((Int × Int) × ((Int × Int) × Int × Int × (Int × Int))))) (v18 : (List (Int × Int))) (v17 : Int) : Option (List (Int × Int)) :=
    if decide (v17 ≤ p4) then
      F59 p0 p1 p2 r4 v17 >>= fun r26 =>
      (
        if r26.2 then
          if List.length v18 ≤ 1000000000 then
            some (v18 ++ [(v17, r26.1)])
          else none
        else
          some v18
      : Option (List (Int × Int))) >>= fun m31 =>
      F42l0 p0 p1 p2 p4 r4 m31 (w64 (v17 + 1))
    else
      some v18
  partial_fixpoint
def F42 (p0 : Int) (p1 : Int) (p2 : (List (Int × Int))) (p3 : Int) (p4 : Int) : Option ((List (Int × Int)) × Int) :=
  F23 p0 p1 p2 >>= fun r1 =>
  if r1 != 0 then
    some ([], r1)
  else
    F49 p0 p1 p2 >>= fun r4 =>
    F54 p0 p1 p2 r4 >>= fun r6 =>
    if decide (r6 ≥ 0) then
      some ([], 13)
    else
      F51 0 p3 p4 >>= fun r9 =>
      (
        if r9 then
          if decide (p4 > 100000) then
            some (true)
          else
            some (decide ((w64 (p4 - p3)) > 1000))
        else
          some (true)
      : Option Bool) >>= fun m12 =>
      if m12 then
        some ([], 1)
      else
        F42l0 p0 p1 p2 p4 r4 ([]) p3 >>= fun r35 =>
        some (r35, 0)
def V42 (b : Nat) (r : ((List (Int × Int)) × Int)) : Value := .tuple ⟨[accV (b + 0) (List.length r.1), iv r.2]⟩
def N42 (b : Nat) (r : ((List (Int × Int)) × Int)) : List Blk := [accB 57 (List.length r.1) (List.flatMap e57 r.1)]
def P42l0 (p0 : Int) (p1 : Int) (p2 : (List (Int × Int))) (p4 : Int) (r4 : (List ((Int × Int) × ((Int × Int) × Int × Int × (Int × Int))))) (r : (List (Int × Int))) : Post := fun e a h => e = .exit 1 ∧ Wk Try.prog 1 1 a h (st 59 [(10, accV 1 (List.length r))]) [accB 57 (List.length p2) (List.flatMap e57 p2), accB 57 (List.length r) (List.flatMap e57 r)]
theorem L42l0 (p0 : Int) (p1 : Int) (p2 : (List (Int × Int))) (p4 : Int) (r4 : (List ((Int × Int) × ((Int × Int) × Int × Int × (Int × Int))))) (v18 : (List (Int × Int))) (v17 : Int) (r : (List (Int × Int))) (hF : F42l0 p0 p1 p2 p4 r4 v18 v17 = some r) : TL Try.prog 1 1 c42.s2.s2.s2.s2.s1.s2.bd.bd (st 59 [(2, iv p4), (3, pt 1 0), (8, .map (some 2)), (10, accV 3 (List.length v18)), (11, iv v17)]) [accB 57 (List.length p2) (List.flatMap e57 p2), cl 24 [iv p0, iv p1, .slice (some ⟨0, 0, none⟩) (List.length p2) ANY], .map 83 (List.map (mEnc u83 u85) r4), accB 57 (List.length v18) (List.flatMap e57 v18)] (P42l0 p0 p1 p2 p4 r4 r) := by
  refine F42l0.partial_correctness p0 p1 p2 p4 r4 (motive := fun v18 v17 r => TL Try.prog 1 1 c42.s2.s2.s2.s2.s1.s2.bd.bd (st 59 [(2, iv p4), (3, pt 1 0), (8, .map (some 2)), (10, accV 3 (List.length v18)), (11, iv v17)]) [accB 57 (List.length p2) (List.flatMap e57 p2), cl 24 [iv p0, iv p1, .slice (some ⟨0, 0, none⟩) (List.length p2) ANY], .map 83 (List.map (mEnc u83 u85) r4), accB 57 (List.length v18) (List.flatMap e57 v18)] (P42l0 p0 p1 p2 p4 r4 r)) ?_ v18 v17 r hF
  clear hF r v18 v17
  intro again ih v18 v17 r hF
  refine TL.round (TS.sq (TS.sq (TS.rg (TI.ra 3 [2, 3, 8, 10, 11, 41] (st 59 [(2, iv p4), (3, pt 1 0), (8, .map (some 2)), (10, accV 3 (List.length v18)), (11, iv v17), (41, .bool (decide (v17 ≤ p4)))]) (TI.dn (NX.sq ?_))))))
  refine TS.cd (.tmp 41) (decide (v17 ≤ p4)) (fun hc25 => ?_) (fun hc25 => ?_)
  · replace hF := of_pos hF hc25
    refine TS.sk (NX.sq (TS.sq (TS.bk 2 (TS.sq ?_))))
    have hX := of_do hF
    clear hF
    obtain ⟨r26, h27, hF⟩ := hX
    refine TS.rg (TI.ra 3 [2, 3, 8, 10, 11, 45, 46, 47] (st 59 [(2, iv p4), (3, pt 1 0), (8, .map (some 2)), (10, accV 3 (List.length v18)), (11, iv v17), (45, ag [iv p0, iv p1, .slice (some ⟨0, 0, none⟩) (List.length p2) ANY]), (46, .map (some 2)), (47, iv v17)]) (TI.cp 59 [ag [iv p0, iv p1, .slice (some ⟨0, 0, none⟩) (List.length p2) ANY], .map (some 2), iv v17] (.tuple ⟨[iv r26.1, .bool r26.2]⟩) [] (PureSim.ren (hc := [accB 57 (List.length p2) (List.flatMap e57 p2), .map 83 (List.map (mEnc u83 u85) r4)]) (fun i => List.getD [(0, 0), (2, 0)] i (0, 0)) (C59 _ _ _ _ _ _ h27) (.cons (At.acc (by kernel_rfl) rfl (fun _ => rfl)) (.cons (At.blk (by kernel_rfl) (RnB.map _ _)) (.nil _))) (.cons (Rn.agg' (.cons (.flat (by kernel_rfl)) (.cons (.flat (by kernel_rfl)) (.cons (Rn.any _ _ _ _ _ _ (Nat.le_of_ble_eq_true rfl) rfl rfl (by decide)) .nil)))) (.cons (Rn.map _ (Nat.le_of_ble_eq_true rfl)) (.cons (.flat (by kernel_rfl)) .nil))) (.flat (by kernel_rfl)) newflat_nil) (TI.ra 5 [2, 3, 8, 10, 11, 12, 13] (st 59 [(2, iv p4), (3, pt 1 0), (8, .map (some 2)), (10, accV 3 (List.length v18)), (11, iv v17), (12, iv r26.1), (13, .bool r26.2)]) (TI.dn (NX.sq (TS.sq (TS.rg (TI.ra 1 [2, 3, 8, 10, 11, 12, 51] (st 59 [(2, iv p4), (3, pt 1 0), (8, .map (some 2)), (10, accV 3 (List.length v18)), (11, iv v17), (12, iv r26.1), (51, .bool r26.2)]) ?_))))))))
    refine TI.dn (NX.sq ?_)
    have hX := of_do hF
    clear hF
    obtain ⟨m31, hm32, hF⟩ := hX
    have hK : NX Try.prog 1 1 [.bk 2, .sq c42.s2.s2.s2.s2.s1.s2.bd.bd.s2.s2] (Rd Try.prog 1 1 c42.s2.s2.s2.s2.s1.s2.bd.bd (P42l0 p0 p1 p2 p4 r4 r)) .normal (st 59 [(2, iv p4), (3, pt 1 0), (8, .map (some 2)), (10, accV 3 (List.length m31)), (11, iv v17)]) [accB 57 (List.length p2) (List.flatMap e57 p2), cl 24 [iv p0, iv p1, .slice (some ⟨0, 0, none⟩) (List.length p2) ANY], .map 83 (List.map (mEnc u83 u85) r4), accB 57 (List.length m31) (List.flatMap e57 m31)] := by
      refine NX.bk (NX.sq (TS.rg (TI.ra 3 [2, 3, 8, 10, 11] (st 59 [(2, iv p4), (3, pt 1 0), (8, .map (some 2)), (10, accV 3 (List.length m31)), (11, iv (w64 (v17 + 1)))]) (TI.dn ?_))))
      exact Rd.again (a2 := (st 59 [(2, iv p4), (3, pt 1 0), (8, .map (some 2)), (10, accV 3 (List.length m31)), (11, iv (w64 (v17 + 1)))])) (h2 := [accB 57 (List.length p2) (List.flatMap e57 p2), cl 24 [iv p0, iv p1, .slice (some ⟨0, 0, none⟩) (List.length p2) ANY], .map 83 (List.map (mEnc u83 u85) r4), accB 57 (List.length m31) (List.flatMap e57 m31)]) (Wk.anew (base := 1) (L := 1) (f := [1, 2, 3]) (by decide) (by decide) (Nat.le_of_ble_eq_true rfl) rfl (.cons (At.acc (by kernel_rfl) rfl (fun _ => rfl)) (.cons (At.blk (by kernel_rfl) (RnB.lit (.cons (.flat (by kernel_rfl)) (.cons (.flat (by kernel_rfl)) (.cons (Rn.slice0 _ _ _ _ (Nat.le_of_ble_eq_true rfl) rfl) .nil))))) (.cons (At.blk (by kernel_rfl) (RnB.map _ _)) (.cons (At.acc (by kernel_rfl) rfl (fun _ => rfl)) (.nil _))))) (LRn.stx [2, 3, 8, 10, 11] [iv p4, pt 1 0, .map (some 2), accV 3 (List.length m31), iv (w64 (v17 + 1))] [iv p4, pt 1 0, .map (some 2), accV 3 (List.length m31), iv (w64 (v17 + 1))] (.cons (.flat (by kernel_rfl)) (.cons (Rn.ptr _ _ _ (Nat.le_of_ble_eq_true rfl) rfl) (.cons (Rn.map _ (Nat.le_of_ble_eq_true rfl)) (.cons (Rn.acc (Nat.le_of_ble_eq_true rfl) rfl) (.cons (.flat (by kernel_rfl)) .nil))))) (by kernel_rfl) (by kernel_rfl) rfl) rfl rfl) (ih m31 (w64 (v17 + 1)) _ hF)
    clear hF
    have hF := hm32
    clear hm32
    refine TS.start ?_
    refine TS.cd (.tmp 51) r26.2 (fun hc33 => ?_) (fun hc33 => ?_)
    · replace hF := of_pos hF hc33
      have hX := of_guard hF
      clear hF
      obtain ⟨hg34, hF⟩ := hX
      refine TS.rg (TI.rn 5 [2, 3, 8, 11, 52, 56] [0, 1, 2, 3, 4] (st 59 [(2, iv p4), (3, pt 1 0), (8, .map (some 2)), (11, iv v17), (52, accV 3 (List.length v18)), (56, .slice (some ⟨4, 0, none⟩) 1 1)]) [accB 57 (List.length p2) (List.flatMap e57 p2), cl 24 [iv p0, iv p1, .slice (some ⟨0, 0, none⟩) (List.length p2) ANY], .map 83 (List.map (mEnc u83 u85) r4), accB 57 (List.length v18) (List.flatMap e57 v18), cl 57 [iv v17, iv r26.1]] (TI.acc (l := v18) (b := 3) (ts := #[22, 22]) (e := 57) (bytes := 16) (z := ag [iv 0, iv 0]) (y := .slice (some ⟨4, 0, none⟩) 1 1) (ys := [(v17, r26.1)]) (xs := List.flatMap e57 ([(v17, r26.1)])) (m := 1) (s := 2) (enc := e57) (by kernel_rfl) (by kernel_rfl) (by decide) (by kernel_rfl) (by kernel_rfl) (by kernel_rfl) (by kernel_rfl) (by kernel_rfl) (by kernel_rfl) (by kernel_rfl) (by kernel_rfl) (fun _ => rfl) rfl rfl (by omega) [2, 3, 8, 11, 57] [0, 1, 2, 5] (a2 := (st 59 [(2, iv p4), (3, pt 1 0), (8, .map (some 2)), (11, iv v17), (57, .slice (some ⟨5, 0, none⟩) (List.length (v18 ++ [(v17, r26.1)])) UNK)])) (h2 := [accB 57 (List.length p2) (List.flatMap e57 p2), cl 24 [iv p0, iv p1, .slice (some ⟨0, 0, none⟩) (List.length p2) ANY], .map 83 (List.map (mEnc u83 u85) r4), .dead, .dead, .cells 57 (List.flatMap e57 (v18 ++ [(v17, r26.1)]))]) (by kernel_rfl) (TI.ra 1 [2, 3, 8, 10, 11] (st 59 [(2, iv p4), (3, pt 1 0), (8, .map (some 2)), (10, .slice (some ⟨5, 0, none⟩) (List.length (v18 ++ [(v17, r26.1)])) UNK), (11, iv v17)]) (TI.dn ?_))))
      have hF := Option.some.inj hF
      subst hF
      exact TS.weak (Wk.anew (base := 1) (L := 1) (f := [1, 2, 5]) (by decide) (by decide) (Nat.le_of_ble_eq_true rfl) rfl (.cons (At.acc (by kernel_rfl) rfl (fun _ => rfl)) (.cons (At.blk (by kernel_rfl) (RnB.lit (.cons (.flat (by kernel_rfl)) (.cons (.flat (by kernel_rfl)) (.cons (Rn.slice0 _ _ _ _ (Nat.le_of_ble_eq_true rfl) rfl) .nil))))) (.cons (At.blk (by kernel_rfl) (RnB.map _ _)) (.cons (At.accU (by kernel_rfl) rfl (fun _ => rfl)) (.nil _))))) (LRn.stx [2, 3, 8, 10, 11] [iv p4, pt 1 0, .map (some 2), accV 3 (List.length (v18 ++ [(v17, r26.1)])), iv v17] [iv p4, pt 1 0, .map (some 2), .slice (some ⟨5, 0, none⟩) (List.length (v18 ++ [(v17, r26.1)])) UNK, iv v17] (.cons (.flat (by kernel_rfl)) (.cons (Rn.ptr _ _ _ (Nat.le_of_ble_eq_true rfl) rfl) (.cons (Rn.map _ (Nat.le_of_ble_eq_true rfl)) (.cons (Rn.accU (Nat.le_of_ble_eq_true rfl) rfl (by simp)) (.cons (.flat (by kernel_rfl)) .nil))))) (by kernel_rfl) (by kernel_rfl) rfl) rfl rfl) hK
    · replace hF := of_neg hF hc33
      refine TS.sk ?_
      have hF := Option.some.inj hF
      subst hF
      exact TS.weak (Wk.anew (base := 1) (L := 1) (f := [1, 2, 3]) (by decide) (by decide) (Nat.le_of_ble_eq_true rfl) rfl (.cons (At.acc (by kernel_rfl) rfl (fun _ => rfl)) (.cons (At.blk (by kernel_rfl) (RnB.lit (.cons (.flat (by kernel_rfl)) (.cons (.flat (by kernel_rfl)) (.cons (Rn.slice0 _ _ _ _ (Nat.le_of_ble_eq_true rfl) rfl) .nil))))) (.cons (At.blk (by kernel_rfl) (RnB.map _ _)) (.cons (At.acc (by kernel_rfl) rfl (fun _ => rfl)) (.nil _))))) (LRn.stx [2, 3, 8, 10, 11] [iv p4, pt 1 0, .map (some 2), accV 3 (List.length v18), iv v17] [iv p4, pt 1 0, .map (some 2), accV 3 (List.length v18), iv v17] (.cons (.flat (by kernel_rfl)) (.cons (Rn.ptr _ _ _ (Nat.le_of_ble_eq_true rfl) rfl) (.cons (Rn.map _ (Nat.le_of_ble_eq_true rfl)) (.cons (Rn.acc (Nat.le_of_ble_eq_true rfl) rfl) (.cons (.flat (by kernel_rfl)) .nil))))) (by kernel_rfl) (by kernel_rfl) rfl) rfl rfl) hK
  · replace hF := of_neg hF hc25
    refine TS.ex 1 (NX.sqX ?_)
    have hF := Option.some.inj hF
    subst hF
    exact Rd.out (e := .exit 1) (by intro h; cases h) (And.intro rfl (Wk.anew (base := 1) (L := 1) (f := [3]) (by decide) (by decide) (Nat.le_of_ble_eq_true rfl) rfl (.cons (At.acc (by kernel_rfl) rfl (fun _ => rfl)) (.cons (At.acc (by kernel_rfl) rfl (fun _ => rfl)) (.nil _))) (LRn.stx [10] [accV 1 (List.length v18)] [accV 3 (List.length v18)] (.cons (Rn.acc (Nat.le_of_ble_eq_true rfl) rfl) .nil) (by kernel_rfl) (by kernel_rfl) rfl) rfl rfl))
theorem B42 (p0 : Int) (p1 : Int) (p2 : (List (Int × Int))) (p3 : Int) (p4 : Int) (r : ((List (Int × Int)) × Int)) (hF : F42 p0 p1 p2 p3 p4 = some r) : TS Try.prog 1 1 c42 (st 59 [(0, ag [iv p0, iv p1, .slice (some ⟨0, 0, none⟩) (List.length p2) ANY]), (1, iv p3), (2, iv p4)]) [accB 57 (List.length p2) (List.flatMap e57 p2)] (NX Try.prog 1 1 [] (FinP Try.prog Try.f42 1 (V42 1 r) (N42 1 r))) := by
  unfold F42 at hF
  refine TS.sq (TS.rg (TI.rn 3 [1, 2, 3] [0, 1] (st 59 [(1, iv p3), (2, iv p4), (3, pt 1 0)]) [accB 57 (List.length p2) (List.flatMap e57 p2), cl 24 [iv p0, iv p1, .slice (some ⟨0, 0, none⟩) (List.length p2) ANY]] (TI.dn (NX.sq (TS.sq (TS.rg (TI.ra 1 [1, 2, 3, 15] (st 59 [(1, iv p3), (2, iv p4), (3, pt 1 0), (15, ag [iv p0, iv p1, .slice (some ⟨0, 0, none⟩) (List.length p2) ANY])]) (TI.inline (g := 46) (args := [ag [iv p0, iv p1, .slice (some ⟨0, 0, none⟩) (List.length p2) ANY]]) (fn := Try.f46) (c := c42f46) (n := 2) (by kernel_rfl) (by kernel_rfl) (by kernel_rfl) (by kernel_rfl) (by kernel_rfl) [0] (a2 := (st 18 [(0, ag [iv p0, iv p1, .slice (some ⟨0, 0, none⟩) (List.length p2) ANY])])) (by kernel_rfl) ?_))))))))
  refine TS.sq (TS.rg (TI.rn 3 [1] [0, 1, 2] (st 18 [(1, pt 2 0)]) [accB 57 (List.length p2) (List.flatMap e57 p2), cl 24 [iv p0, iv p1, .slice (some ⟨0, 0, none⟩) (List.length p2) ANY], cl 24 [iv p0, iv p1, .slice (some ⟨0, 0, none⟩) (List.length p2) ANY]] (TI.dn (NX.sq (TS.sq (TS.sq ?_))))))
  have hX := of_do hF
  clear hF
  obtain ⟨r1, h2, hF⟩ := hX
  refine TS.rg (TI.ra 1 [1, 6] (st 18 [(1, pt 2 0), (6, ag [iv p0, iv p1, .slice (some ⟨0, 0, none⟩) (List.length p2) ANY])]) (TI.cp 23 [ag [iv p0, iv p1, .slice (some ⟨0, 0, none⟩) (List.length p2) ANY]] (iv r1) [] (PureSim.ren (hc := [accB 57 (List.length p2) (List.flatMap e57 p2)]) (fun i => List.getD [(0, 0)] i (0, 0)) (C23 _ _ _ _ h2) (.cons (At.acc (by kernel_rfl) rfl (fun _ => rfl)) (.nil _)) (.cons (Rn.agg' (.cons (.flat (by kernel_rfl)) (.cons (.flat (by kernel_rfl)) (.cons (Rn.any _ _ _ _ _ _ (Nat.le_of_ble_eq_true rfl) rfl rfl (by decide)) .nil)))) .nil) (.flat (by kernel_rfl)) newflat_nil) (TI.ra 1 [1, 4] (st 18 [(1, pt 2 0), (4, iv r1)]) (TI.dn (NX.sq (TS.sq (TS.rg (TI.ra 2 [1, 4, 9] (st 18 [(1, pt 2 0), (4, iv r1), (9, .bool (r1 != 0))]) ?_))))))))
  refine TI.dn (NX.sq ?_)
  refine TS.cd (.tmp 9) (r1 != 0) (fun hc3 => ?_) (fun hc3 => ?_)
  · replace hF := of_pos hF hc3
    refine TS.sq (TS.rg (TI.rn 3 [2, 3] [0, 1] (st 18 [(2, .map none), (3, iv r1)]) (H42_2 p2 p0 p1) (TI.dn (NX.sq (TS.rt (NX.sqR ?_))))))
    refine ⟨.inr rfl, rfl, .tuple ⟨[.map none, iv r1]⟩, .tuple ⟨[.map none, iv r1]⟩, (H42_2 p2 p0 p1), by kernel_rfl, WkV.refl, (TI.rn 0 [1, 2, 3, 16] [0, 1] (st 59 [(1, iv p3), (2, iv p4), (3, pt 1 0), (16, .tuple ⟨[.map none, iv r1]⟩)]) (H42_2 p2 p0 p1) (TI.ra 5 [1, 2, 3, 8, 9] (st 59 [(1, iv p3), (2, iv p4), (3, pt 1 0), (8, .map none), (9, iv r1)]) (TI.dn (NX.sq (TS.sq (TS.bk 0 (TS.sq (TS.rg ?_))))))))⟩
    refine TI.ra 1 [1, 2, 3, 8, 9, 20] (st 59 [(1, iv p3), (2, iv p4), (3, pt 1 0), (8, .map none), (9, iv r1), (20, iv r1)]) (TI.o { val := .bool true } (q_conv (e := r1 != 0) (b := true) (by kernel_rfl) hc3) [1, 2, 3, 8, 9, 21] [0, 1] (st 59 [(1, iv p3), (2, iv p4), (3, pt 1 0), (8, .map none), (9, iv r1), (21, .bool true)]) (H42_2 p2 p0 p1) (TI.ra 1 [1, 2, 3, 8, 9, 19] (st 59 [(1, iv p3), (2, iv p4), (3, pt 1 0), (8, .map none), (9, iv r1), (19, .bool true)]) (TI.dn (NX.sq (TS.cdT (.tmp 19) (TS.sq (TS.rg (TI.rn 3 [6, 7] [0] (st 59 [(6, .slice none 0 0), (7, iv r1)]) [accB 57 (List.length p2) (List.flatMap e57 p2), .dead, .dead] ?_))))))))
    refine TI.dn (NX.sq (TS.rt (NX.bkR (NX.sqR ?_))))
    have hF := Option.some.inj hF
    subst hF
    exact ⟨.inr rfl, rfl, .tuple ⟨[.slice none 0 0, iv r1]⟩, by kernel_rfl, WkV.made (L := 1) (f := [3]) (by decide) (by decide) rfl (.cons At.accN (.nil _)) (Rn.tuple' (.cons Rn.accN (.cons (.flat (by kernel_rfl)) .nil)))⟩
  · replace hF := of_neg hF hc3
    refine TS.sk (NX.sq (TS.sq ?_))
    have hX := of_do hF
    clear hF
    obtain ⟨r4, h5, hF⟩ := hX
    refine TS.rg (TI.ra 1 [1, 11] (st 18 [(1, pt 2 0), (11, ag [iv p0, iv p1, .slice (some ⟨0, 0, none⟩) (List.length p2) ANY])]) (TI.cp 49 [ag [iv p0, iv p1, .slice (some ⟨0, 0, none⟩) (List.length p2) ANY]] (.map (some 3)) [.map 83 (List.map (mEnc u83 u85) r4)] (PureSim.ren (hc := [accB 57 (List.length p2) (List.flatMap e57 p2)]) (fun i => List.getD [(0, 0)] i (0, 0)) (C49 _ _ _ _ h5) (.cons (At.acc (by kernel_rfl) rfl (fun _ => rfl)) (.nil _)) (.cons (Rn.agg' (.cons (.flat (by kernel_rfl)) (.cons (.flat (by kernel_rfl)) (.cons (Rn.any _ _ _ _ _ _ (Nat.le_of_ble_eq_true rfl) rfl rfl (by decide)) .nil)))) .nil) (Rn.map _ (Nat.le_of_ble_eq_true rfl)) (newflat_cons (.inr rfl) newflat_nil)) (TI.rn 1 [1, 5] [0, 1, 2, 3] (st 18 [(1, pt 2 0), (5, .map (some 3))]) [accB 57 (List.length p2) (List.flatMap e57 p2), cl 24 [iv p0, iv p1, .slice (some ⟨0, 0, none⟩) (List.length p2) ANY], cl 24 [iv p0, iv p1, .slice (some ⟨0, 0, none⟩) (List.length p2) ANY], .map 83 (List.map (mEnc u83 u85) r4)] (TI.dn (NX.sq (TS.sq (TS.sq ?_)))))))
    have hX := of_do hF
    clear hF
    obtain ⟨r6, h7, hF⟩ := hX
    refine TS.rg (TI.rn 2 [5, 13, 14] [0, 1, 3] (st 18 [(5, .map (some 3)), (13, ag [iv p0, iv p1, .slice (some ⟨0, 0, none⟩) (List.length p2) ANY]), (14, .map (some 3))]) (H42_0 p2 p0 p1 r4) (TI.cp 54 [ag [iv p0, iv p1, .slice (some ⟨0, 0, none⟩) (List.length p2) ANY], .map (some 3)] (iv r6) [] (PureSim.ren (hc := [accB 57 (List.length p2) (List.flatMap e57 p2), .map 83 (List.map (mEnc u83 u85) r4)]) (fun i => List.getD [(0, 0), (3, 0)] i (0, 0)) (C54 _ _ _ _ _ h7) (.cons (At.acc (by kernel_rfl) rfl (fun _ => rfl)) (.cons (At.blk (by kernel_rfl) (RnB.map _ _)) (.nil _))) (.cons (Rn.agg' (.cons (.flat (by kernel_rfl)) (.cons (.flat (by kernel_rfl)) (.cons (Rn.any _ _ _ _ _ _ (Nat.le_of_ble_eq_true rfl) rfl rfl (by decide)) .nil)))) (.cons (Rn.map _ (Nat.le_of_ble_eq_true rfl)) .nil)) (.flat (by kernel_rfl)) newflat_nil) (TI.ra 1 [5, 16] (st 18 [(5, .map (some 3)), (16, .bool (decide (r6 ≥ 0)))]) (TI.dn (NX.sq ?_)))))
    refine TS.cd (.tmp 16) (decide (r6 ≥ 0)) (fun hc8 => ?_) (fun hc8 => ?_)
    · replace hF := of_pos hF hc8
      refine TS.sq (TS.rg (TI.rn 2 [2, 3] [0, 1] (st 18 [(2, .map none), (3, iv 13)]) (H42_1 p2 p0 p1) (TI.dn (NX.sq (TS.rt (NX.sqR ?_))))))
      refine ⟨.inr rfl, rfl, .tuple ⟨[.map none, iv 13]⟩, .tuple ⟨[.map none, iv 13]⟩, (H42_1 p2 p0 p1), by kernel_rfl, WkV.refl, (TI.rn 0 [1, 2, 3, 16] [0, 1] (st 59 [(1, iv p3), (2, iv p4), (3, pt 1 0), (16, .tuple ⟨[.map none, iv 13]⟩)]) (H42_1 p2 p0 p1) (TI.ra 5 [1, 2, 3, 8, 9] (st 59 [(1, iv p3), (2, iv p4), (3, pt 1 0), (8, .map none), (9, iv 13)]) (TI.dn (NX.sq (TS.sq (TS.bk 0 (TS.sq (TS.rg ?_))))))))⟩
      refine TI.ra 3 [1, 2, 3, 8, 9, 19] (st 59 [(1, iv p3), (2, iv p4), (3, pt 1 0), (8, .map none), (9, iv 13), (19, .bool true)]) (TI.dn (NX.sq (TS.cdT (.tmp 19) (TS.sq (TS.rg (TI.rn 3 [6, 7] [0] (st 59 [(6, .slice none 0 0), (7, iv 13)]) [accB 57 (List.length p2) (List.flatMap e57 p2), .dead, .dead, .dead] (TI.dn (NX.sq ?_))))))))
      refine TS.rt (NX.bkR (NX.sqR ?_))
      have hF := Option.some.inj hF
      subst hF
      exact ⟨.inr rfl, rfl, .tuple ⟨[.slice none 0 0, iv 13]⟩, by kernel_rfl, WkV.made (L := 1) (f := [4]) (by decide) (by decide) rfl (.cons At.accN (.nil _)) (Rn.tuple' (.cons Rn.accN (.cons (.flat (by kernel_rfl)) .nil)))⟩
    · replace hF := of_neg hF hc8
      refine TS.sk (NX.sq (TS.sq (TS.rg (TI.ra 3 [2, 3] (st 18 [(2, .map (some 3)), (3, iv 0)]) (TI.dn (NX.sq (TS.rt ?_)))))))
      refine ⟨.inr rfl, rfl, .tuple ⟨[.map (some 3), iv 0]⟩, .tuple ⟨[.map (some 3), iv 0]⟩, (H42_0 p2 p0 p1 r4), by kernel_rfl, WkV.refl, (TI.rn 0 [1, 2, 3, 16] [0, 1, 3] (st 59 [(1, iv p3), (2, iv p4), (3, pt 1 0), (16, .tuple ⟨[.map (some 3), iv 0]⟩)]) (H42_0 p2 p0 p1 r4) (TI.ra 5 [1, 2, 3, 8, 9] (st 59 [(1, iv p3), (2, iv p4), (3, pt 1 0), (8, .map (some 3)), (9, iv 0)]) (TI.dn (NX.sq (TS.sq (TS.bk 0 (TS.sq (TS.rg ?_))))))))⟩
      refine TI.ra 3 [1, 2, 3, 8, 9, 19] (st 59 [(1, iv p3), (2, iv p4), (3, pt 1 0), (8, .map (some 3)), (9, iv 0), (19, .bool false)]) (TI.dn (NX.sq (TS.cdF (.tmp 19) (TS.sq ?_))))
      have hX := of_do hF
      clear hF
      obtain ⟨r9, h10, hF⟩ := hX
      have hX := of_do hF
      clear hF
      obtain ⟨m12, hm37, hF⟩ := hX
      have hK : NX Try.prog 1 1 [.sq c42.s2.s2.s1.bd.s2.el.s2, .bk 0, .sq c42.s2.s2.s2] (FinP Try.prog Try.f42 1 (V42 1 r) (N42 1 r)) .normal (st 59 [(1, iv p3), (2, iv p4), (3, pt 1 0), (8, .map (some 3)), (23, .bool m12)]) (H42_0 p2 p0 p1 r4) := by
        refine NX.sq ?_
        cases m12 with
        | true =>
          replace hF := of_pos hF rfl
          refine TS.cdT (.tmp 23) (TS.sq (TS.rg (TI.rn 2 [6, 7] [0] (st 59 [(6, .slice none 0 0), (7, iv 1)]) [accB 57 (List.length p2) (List.flatMap e57 p2), .dead, .dead, .dead] (TI.dn (NX.sq (TS.rt (NX.bkR (NX.sqR ?_))))))))
          have hF := Option.some.inj hF
          subst hF
          exact ⟨.inr rfl, rfl, .tuple ⟨[.slice none 0 0, iv 1]⟩, by kernel_rfl, WkV.made (L := 1) (f := [4]) (by decide) (by decide) rfl (.cons At.accN (.nil _)) (Rn.tuple' (.cons Rn.accN (.cons (.flat (by kernel_rfl)) .nil)))⟩
        | false =>
          replace hF := of_neg hF rfl
          refine TS.cdF (.tmp 23) (TS.sk (NX.bk (NX.sq (TS.sq (TS.rg (TI.ra 1 [1, 2, 3, 8, 10] (st 59 [(1, iv p3), (2, iv p4), (3, pt 1 0), (8, .map (some 3)), (10, .slice none 0 0)]) (TI.dn (NX.sq ?_))))))))
          refine TS.sq (TS.sq (TS.rg (TI.ra 2 [2, 3, 8, 10, 11] (st 59 [(2, iv p4), (3, pt 1 0), (8, .map (some 3)), (10, .slice none 0 0), (11, iv p3)]) (TI.dn (NX.sq (TS.bk 1 ?_))))))
          have hX := of_do hF
          clear hF
          obtain ⟨r35, h36, hF⟩ := hX
          refine TS.lp (TL.weak (a2 := (st 59 [(2, iv p4), (3, pt 1 0), (8, .map (some 2)), (10, accV 3 (List.length ([]))), (11, iv p3)])) (h2 := [accB 57 (List.length p2) (List.flatMap e57 p2), cl 24 [iv p0, iv p1, .slice (some ⟨0, 0, none⟩) (List.length p2) ANY], .map 83 (List.map (mEnc u83 u85) r4), accB 57 (List.length ([])) (List.flatMap e57 ([]))]) (Wk.anew (base := 1) (L := 1) (f := [1, 3, 4]) (by decide) (by decide) (Nat.le_of_ble_eq_true rfl) rfl (.cons (At.acc (by kernel_rfl) rfl (fun _ => rfl)) (.cons (At.blk (by kernel_rfl) (RnB.lit (.cons (.flat (by kernel_rfl)) (.cons (.flat (by kernel_rfl)) (.cons (Rn.slice0 _ _ _ _ (Nat.le_of_ble_eq_true rfl) rfl) .nil))))) (.cons (At.blk (by kernel_rfl) (RnB.map _ _)) (.cons At.accN (.nil _))))) (LRn.stx [2, 3, 8, 10, 11] [iv p4, pt 1 0, .map (some 2), accV 3 (List.length ([])), iv p3] [iv p4, pt 1 0, .map (some 3), .slice none 0 0, iv p3] (.cons (.flat (by kernel_rfl)) (.cons (Rn.ptr _ _ _ (Nat.le_of_ble_eq_true rfl) rfl) (.cons (Rn.map _ (Nat.le_of_ble_eq_true rfl)) (.cons (Rn.accN) (.cons (.flat (by kernel_rfl)) .nil))))) (by kernel_rfl) (by kernel_rfl) rfl) rfl rfl) (TL.post (L42l0 p0 p1 p2 p4 r4 ([]) p3 r35 h36) ?_))
          rintro e a1 h1 hp
          obtain ⟨rfl, hw⟩ := hp
          refine ⟨(st 59 [(10, accV 1 (List.length r35))]), [accB 57 (List.length p2) (List.flatMap e57 p2), accB 57 (List.length r35) (List.flatMap e57 r35)], (NX.bkX (NX.sq (TS.sq (TS.rg (TI.ra 3 [6, 7] (st 59 [(6, accV 1 (List.length r35)), (7, iv 0)]) (TI.dn (NX.sq (TS.rt ?_)))))))), hw⟩
          have hF := Option.some.inj hF
          subst hF
          exact ⟨.inr rfl, rfl, .tuple ⟨[accV 1 (List.length r35), iv 0]⟩, by kernel_rfl, WkV.made (L := 1) (f := [1]) (by decide) (by decide) rfl (.cons (At.acc (by kernel_rfl) rfl (fun _ => rfl)) (.nil _)) (Rn.tuple' (.cons (Rn.acc (Nat.le_of_ble_eq_true rfl) rfl) (.cons (.flat (by kernel_rfl)) .nil)))⟩
      cases r9 with
      | true =>
        replace hm37 := of_pos hm37 rfl
        rcases Bool.eq_false_or_eq_true (decide (p4 > 100000)) with hc11 | hc11
        · replace hm37 := of_pos hm37 hc11
          have hm37 := Option.some.inj hm37
          subst hm37
          exact TS.rg (TI.ra 2 [1, 2, 3, 8, 24, 25] (S42_3 p3 p4) (TI.cf (C51 _ _ _ _ h10) (TI.ra 3 [1, 2, 3, 8, 28, 29] (st 59 [(1, iv p3), (2, iv p4), (3, pt 1 0), (8, .map (some 3)), (28, .bool false), (29, iv p4)]) (TI.o { val := .bool true } (q_conv (e := decide (p4 > 100000)) (b := true) (by kernel_rfl) hc11) [1, 2, 3, 8, 28, 30] [0, 1, 3] (st 59 [(1, iv p3), (2, iv p4), (3, pt 1 0), (8, .map (some 3)), (28, .bool false), (30, .bool true)]) (H42_0 p2 p0 p1 r4) (TI.ra 8 [1, 2, 3, 8, 23] (st 59 [(1, iv p3), (2, iv p4), (3, pt 1 0), (8, .map (some 3)), (23, .bool true)]) (TI.dn hK))))))
        · replace hm37 := of_neg hm37 hc11
          have hm37 := Option.some.inj hm37
          subst hm37
          exact TS.rg (TI.ra 2 [1, 2, 3, 8, 24, 25] (S42_3 p3 p4) (TI.cf (C51 _ _ _ _ h10) (TI.ra 3 [1, 2, 3, 8, 28, 29] (st 59 [(1, iv p3), (2, iv p4), (3, pt 1 0), (8, .map (some 3)), (28, .bool false), (29, iv p4)]) (TI.o { val := .bool false } (q_conv (e := decide (p4 > 100000)) (b := false) (by kernel_rfl) hc11) [1, 2, 3, 8, 28, 30] [0, 1, 3] (st 59 [(1, iv p3), (2, iv p4), (3, pt 1 0), (8, .map (some 3)), (28, .bool false), (30, .bool false)]) (H42_0 p2 p0 p1 r4) (TI.ra 8 [1, 2, 3, 8, 23] (st 59 [(1, iv p3), (2, iv p4), (3, pt 1 0), (8, .map (some 3)), (23, .bool (decide ((w64 (p4 - p3)) > 1000)))]) (TI.dn hK))))))
      | false =>
        replace hm37 := of_neg hm37 rfl
        have hm37 := Option.some.inj hm37
        subst hm37
        exact TS.rg (TI.ra 2 [1, 2, 3, 8, 24, 25] (S42_3 p3 p4) (TI.cf (C51 _ _ _ _ h10) (TI.ra 12 [1, 2, 3, 8, 23] (st 59 [(1, iv p3), (2, iv p4), (3, pt 1 0), (8, .map (some 3)), (23, .bool true)]) (TI.dn hK))))
theorem C42 (p0 : Int) (p1 : Int) (p2 : (List (Int × Int))) (p3 : Int) (p4 : Int) (r : ((List (Int × Int)) × Int)) (hF : F42 p0 p1 p2 p3 p4 = some r) : PureSim Try.prog 42 [ag [iv p0, iv p1, .slice (some ⟨0, 0, none⟩) (List.length p2) ANY], iv p3, iv p4] [accB 57 (List.length p2) (List.flatMap e57 p2)] (V42 1 r) (N42 1 r) :=
  PureSim.of_Fin Try.func42 (c := c42) (by kernel_rfl) (by kernel_rfl) 1 rfl [0, 1, 2] [0] (by kernel_rfl) (B42 p0 p1 p2 p3 p4 r hF)

-- agonic/agonicref04.Follow
noncomputable def c43 : Code := Try.f43.code
def S43_0 (p4 : Int) (r13 : ((List Int) × (List Int))) (y83 : (Int × Int)) (y83s : (List (Int × Int))) (v32 : Int) (o78 : Int) (o81 : Int) (p0 : Int) (p1 : Int) (o58 : Int) (o61 : Int) : CAct := (st 84 [(2, iv p4), (3, pt 1 0), (9, mkV 2 (List.length r13.1)), (10, mkV 3 (List.length r13.2)), (11, .slice (some ⟨6, 0, none⟩) (List.length ((y83 :: y83s) ++ [(v32, w64 (o78 + o81))])) UNK), (12, iv v32), (13, iv (Int.tmod v32 p0)), (14, iv (w64 (p0 + (Int.tmod v32 p1)))), (68, .bool (o58 == o61)), (69, .slice (some ⟨4, 0, none⟩) (List.length (y83 :: y83s)) UNK), (70, iv v32), (71, mkV 3 (List.length r13.2)), (72, iv (Int.tmod v32 p0)), (73, .pointer (some ⟨3, 0 + (Int.toNat (Int.tmod v32 p0)) * 1, none⟩)), (74, iv o78), (75, mkV 3 (List.length r13.2)), (76, iv (w64 (p0 + (Int.tmod v32 p1)))), (77, .pointer (some ⟨3, 0 + (Int.toNat (w64 (p0 + (Int.tmod v32 p1)))) * 1, none⟩)), (78, iv o81), (79, iv (w64 (o78 + o81))), (80, ag [iv v32, iv (w64 (o78 + o81))]), (81, .slice (some ⟨5, 0, none⟩) 1 1), (82, .slice (some ⟨6, 0, none⟩) (List.length ((y83 :: y83s) ++ [(v32, w64 (o78 + o81))])) UNK)])
def S43_1 (p4 : Int) (r13 : ((List Int) × (List Int))) (v32 : Int) (o78 : Int) (o81 : Int) (p0 : Int) (p1 : Int) (o58 : Int) (o61 : Int) : CAct := (st 84 [(2, iv p4), (3, pt 1 0), (9, mkV 2 (List.length r13.1)), (10, mkV 3 (List.length r13.2)), (11, .slice (some ⟨6, 0, none⟩) (List.length [(v32, w64 (o78 + o81))]) UNK), (12, iv v32), (13, iv (Int.tmod v32 p0)), (14, iv (w64 (p0 + (Int.tmod v32 p1)))), (68, .bool (o58 == o61)), (69, .slice none 0 0), (70, iv v32), (71, mkV 3 (List.length r13.2)), (72, iv (Int.tmod v32 p0)), (73, .pointer (some ⟨3, 0 + (Int.toNat (Int.tmod v32 p0)) * 1, none⟩)), (74, iv o78), (75, mkV 3 (List.length r13.2)), (76, iv (w64 (p0 + (Int.tmod v32 p1)))), (77, .pointer (some ⟨3, 0 + (Int.toNat (w64 (p0 + (Int.tmod v32 p1)))) * 1, none⟩)), (78, iv o81), (79, iv (w64 (o78 + o81))), (80, ag [iv v32, iv (w64 (o78 + o81))]), (81, .slice (some ⟨5, 0, none⟩) 1 1), (82, .slice (some ⟨6, 0, none⟩) (List.length [(v32, w64 (o78 + o81))]) UNK)])
def S43_2 (p4 : Int) (r13 : ((List Int) × (List Int))) (y83 : (Int × Int)) (y83s : (List (Int × Int))) (v32 : Int) (p0 : Int) (p1 : Int) (o58 : Int) (o61 : Int) (o78 : Int) (o81 : Int) : CAct := (st 84 [(2, iv p4), (3, pt 1 0), (9, mkV 2 (List.length r13.1)), (10, mkV 3 (List.length r13.2)), (11, .slice (some ⟨4, 0, none⟩) (List.length (y83 :: y83s)) UNK), (12, iv v32), (13, iv (Int.tmod v32 p0)), (14, iv (w64 (p0 + (Int.tmod v32 p1)))), (68, .bool (o58 == o61)), (69, .slice (some ⟨4, 0, none⟩) (List.length (y83 :: y83s)) UNK), (70, iv v32), (71, mkV 3 (List.length r13.2)), (72, iv (Int.tmod v32 p0)), (73, .pointer (some ⟨3, 0 + (Int.toNat (Int.tmod v32 p0)) * 1, none⟩)), (74, iv o78), (75, mkV 3 (List.length r13.2)), (76, iv (w64 (p0 + (Int.tmod v32 p1)))), (77, .pointer (some ⟨3, 0 + (Int.toNat (w64 (p0 + (Int.tmod v32 p1)))) * 1, none⟩)), (78, iv o81), (79, iv (w64 (o78 + o81))), (80, ag [iv v32, iv (w64 (o78 + o81))]), (81, .slice (some ⟨5, 0, none⟩) 1 1)])
def S43_3 (p4 : Int) (r13 : ((List Int) × (List Int))) (v32 : Int) (p0 : Int) (p1 : Int) (o58 : Int) (o61 : Int) (o78 : Int) (o81 : Int) : CAct := (st 84 [(2, iv p4), (3, pt 1 0), (9, mkV 2 (List.length r13.1)), (10, mkV 3 (List.length r13.2)), (11, .slice none 0 0), (12, iv v32), (13, iv (Int.tmod v32 p0)), (14, iv (w64 (p0 + (Int.tmod v32 p1)))), (68, .bool (o58 == o61)), (69, .slice none 0 0), (70, iv v32), (71, mkV 3 (List.length r13.2)), (72, iv (Int.tmod v32 p0)), (73, .pointer (some ⟨3, 0 + (Int.toNat (Int.tmod v32 p0)) * 1, none⟩)), (74, iv o78), (75, mkV 3 (List.length r13.2)), (76, iv (w64 (p0 + (Int.tmod v32 p1)))), (77, .pointer (some ⟨3, 0 + (Int.toNat (w64 (p0 + (Int.tmod v32 p1)))) * 1, none⟩)), (78, iv o81), (79, iv (w64 (o78 + o81))), (80, ag [iv v32, iv (w64 (o78 + o81))]), (81, .slice (some ⟨5, 0, none⟩) 1 1)])
def H43_4 (p2 : (List (Int × Int))) (p0 : Int) (p1 : Int) (r13 : ((List Int) × (List Int))) (v32 : Int) (o78 : Int) (o81 : Int) (y83 : (Int × Int)) (y83s : (List (Int × Int))) : List Blk := [accB 72 (List.length p2) (List.flatMap e72 p2), cl 28 [iv p0, iv p1, .slice (some ⟨0, 0, none⟩) (List.length p2) ANY], .cells 3 (List.flatMap e3 r13.1), .cells 3 (List.flatMap e3 r13.2), .dead, cl 72 [iv v32, iv (w64 (o78 + o81))], .cells 72 (List.flatMap e72 ((y83 :: y83s) ++ [(v32, w64 (o78 + o81))]))]
def H43_5 (p2 : (List (Int × Int))) (p0 : Int) (p1 : Int) (r13 : ((List Int) × (List Int))) (v32 : Int) (o78 : Int) (o81 : Int) : List Blk := [accB 72 (List.length p2) (List.flatMap e72 p2), cl 28 [iv p0, iv p1, .slice (some ⟨0, 0, none⟩) (List.length p2) ANY], .cells 3 (List.flatMap e3 r13.1), .cells 3 (List.flatMap e3 r13.2), .dead, cl 72 [iv v32, iv (w64 (o78 + o81))], .cells 72 (List.flatMap e72 ([(v32, w64 (o78 + o81))]))]
def H43_6 (p2 : (List (Int × Int))) (p0 : Int) (p1 : Int) (r13 : ((List Int) × (List Int))) (y83 : (Int × Int)) (y83s : (List (Int × Int))) (v32 : Int) (o78 : Int) (o81 : Int) : List Blk := [accB 72 (List.length p2) (List.flatMap e72 p2), cl 28 [iv p0, iv p1, .slice (some ⟨0, 0, none⟩) (List.length p2) ANY], .cells 3 (List.flatMap e3 r13.1), .cells 3 (List.flatMap e3 r13.2), .cells 72 (List.flatMap e72 (y83 :: y83s)), cl 72 [iv v32, iv (w64 (o78 + o81))]]
def H43_7 (p2 : (List (Int × Int))) (p0 : Int) (p1 : Int) (r13 : ((List Int) × (List Int))) (v33 : (List (Int × Int))) : List Blk := [accB 72 (List.length p2) (List.flatMap e72 p2), cl 28 [iv p0, iv p1, .slice (some ⟨0, 0, none⟩) (List.length p2) ANY], .cells 3 (List.flatMap e3 r13.1), .cells 3 (List.flatMap e3 r13.2), accB 72 (List.length v33) (List.flatMap e72 v33)]
def H43_8 (p2 : (List (Int × Int))) (p0 : Int) (p1 : Int) (r13 : ((List Int) × (List Int))) (m74 : (List (Int × Int))) : List Blk := [accB 72 (List.length p2) (List.flatMap e72 p2), cl 28 [iv p0, iv p1, .slice (some ⟨0, 0, none⟩) (List.length p2) ANY], .cells 3 (List.flatMap e3 r13.1), .cells 3 (List.flatMap e3 r13.2), accB 72 (List.length m74) (List.flatMap e72 m74)]
def H43_9 (p2 : (List (Int × Int))) (p0 : Int) (p1 : Int) (r13 : ((List Int) × (List Int))) (v32 : Int) (o78 : Int) (o81 : Int) : List Blk := [accB 72 (List.length p2) (List.flatMap e72 p2), cl 28 [iv p0, iv p1, .slice (some ⟨0, 0, none⟩) (List.length p2) ANY], .cells 3 (List.flatMap e3 r13.1), .cells 3 (List.flatMap e3 r13.2), .dead, cl 72 [iv v32, iv (w64 (o78 + o81))]]
def H43_10 (p2 : (List (Int × Int))) (p0 : Int) (p1 : Int) (r13 : ((List Int) × (List Int))) (y83 : (Int × Int)) (y83s : (List (Int × Int))) : List Blk := [accB 72 (List.length p2) (List.flatMap e72 p2), cl 28 [iv p0, iv p1, .slice (some ⟨0, 0, none⟩) (List.length p2) ANY], .cells 3 (List.flatMap e3 r13.1), .cells 3 (List.flatMap e3 r13.2), .cells 72 (List.flatMap e72 (y83 :: y83s))]
def H43_11 (p2 : (List (Int × Int))) (p0 : Int) (p1 : Int) (r13 : ((List Int) × (List Int))) : List Blk := [accB 72 (List.length p2) (List.flatMap e72 p2), cl 28 [iv p0, iv p1, .slice (some ⟨0, 0, none⟩) (List.length p2) ANY], .cells 3 (List.flatMap e3 r13.1), .cells 3 (List.flatMap e3 r13.2), .dead]
def H43_12 (p2 : (List (Int × Int))) (p0 : Int) (p1 : Int) : List Blk := [accB 72 (List.length p2) (List.flatMap e72 p2), cl 28 [iv p0, iv p1, .slice (some ⟨0, 0, none⟩) (List.length p2) ANY]]
def S43_13 (p3 : Int) (p4 : Int) (r1 : Int) : CAct := (st 84 [(1, iv p3), (2, iv p4), (3, pt 1 0), (8, iv r1), (19, .bool true), (20, iv p3), (21, iv p4)])
def S43_14 (p3 : Int) (p4 : Int) (r1 : Int) : CAct := (st 84 [(1, iv p3), (2, iv p4), (3, pt 1 0), (8, iv r1), (18, .bool true)])
def S43_15 (p3 : Int) (p4 : Int) (r1 : Int) : CAct := (st 84 [(1, iv p3), (2, iv p4), (3, pt 1 0), (8, iv r1), (17, iv r1)])
def F43l0 (p0 : Int) (p1 : Int) (p2 : (List (Int × Int))) (p4 : Int) (r13 : ((List Int) × (List Int))) (v33 : (List (Int × Int))) (v32 : Int) : Option (List (Int × Int)) :=
    if decide (v32 ≤ p4) then
      if p0 = 0 then none else
      if p1 = 0 then none else
      if (0 : Int) ≤ Int.tmod v32 p0 ∧ Int.tmod v32 p0 < (List.length r13.1 : Int) then
        some (List.getD r13.1 (Int.toNat (Int.tmod v32 p0)) 0) >>= fun o58 =>
        if (0 : Int) ≤ w64 (p0 + (Int.tmod v32 p1)) ∧ w64 (p0 + (Int.tmod v32 p1)) < (List.length r13.1 : Int) then
          some (List.getD r13.1 (Int.toNat (w64 (p0 + (Int.tmod v32 p1)))) 0) >>= fun o61 =>
          (
            if o58 == o61 then
              if (0 : Int) ≤ Int.tmod v32 p0 ∧ Int.tmod v32 p0 < (List.length r13.2 : Int) then
                some (List.getD r13.2 (Int.toNat (Int.tmod v32 p0)) 0) >>= fun o78 =>
                if (0 : Int) ≤ w64 (p0 + (Int.tmod v32 p1)) ∧ w64 (p0 + (Int.tmod v32 p1)) < (List.length r13.2 : Int) then
                  some (List.getD r13.2 (Int.toNat (w64 (p0 + (Int.tmod v32 p1)))) 0) >>= fun o81 =>
                  if List.length v33 ≤ 1000000000 then
                    some (v33 ++ [(v32, w64 (o78 + o81))])
                  else none
                else none
              else none
            else
              some v33
          : Option (List (Int × Int))) >>= fun m74 =>
          F43l0 p0 p1 p2 p4 r13 m74 (w64 (v32 + 1))
        else none
      else none
    else
      some v33
  partial_fixpoint
def F43 (p0 : Int) (p1 : Int) (p2 : (List (Int × Int))) (p3 : Int) (p4 : Int) : Option ((List (Int × Int)) × Int) :=
  F22 p0 p1 p2 >>= fun r1 =>
  (
    if r1 == 0 then
      F52 p3 0 p4 >>= fun r4 =>
      if r4 then
        if decide (p4 > 100000) then
          some (true)
        else
          some (decide ((w64 (p4 - p3)) > 1000))
      else
        some (true)
    else
      some (false)
  : Option Bool) >>= fun m7 =>
  (
    if m7 then
      some 1
    else
      some r1
  : Option Int) >>= fun m10 =>
  if m10 != 0 then
    some ([], m10)
  else
    F48 p0 p1 p2 >>= fun r13 =>
    F43l0 p0 p1 p2 p4 r13 ([]) p3 >>= fun r86 =>
    some (r86, 0)
def V43 (b : Nat) (r : ((List (Int × Int)) × Int)) : Value := .tuple ⟨[accV (b + 0) (List.length r.1), iv r.2]⟩
def N43 (b : Nat) (r : ((List (Int × Int)) × Int)) : List Blk := [accB 72 (List.length r.1) (List.flatMap e72 r.1)]
def P43l0 (p0 : Int) (p1 : Int) (p2 : (List (Int × Int))) (p4 : Int) (r13 : ((List Int) × (List Int))) (r : (List (Int × Int))) : Post := fun e a h => e = .exit 0 ∧ Wk Try.prog 1 1 a h (st 84 [(11, accV 1 (List.length r))]) [accB 72 (List.length p2) (List.flatMap e72 p2), accB 72 (List.length r) (List.flatMap e72 r)]
theorem L43l0 (p0 : Int) (p1 : Int) (p2 : (List (Int × Int))) (p4 : Int) (r13 : ((List Int) × (List Int))) (v33 : (List (Int × Int))) (v32 : Int) (r : (List (Int × Int))) (hF : F43l0 p0 p1 p2 p4 r13 v33 v32 = some r) : TL Try.prog 1 1 c43.s2.s2.s2.s2.s2.s2.s1.s2.bd.bd (st 84 [(2, iv p4), (3, pt 1 0), (9, mkV 2 (List.length r13.1)), (10, mkV 3 (List.length r13.2)), (11, accV 4 (List.length v33)), (12, iv v32)]) (H43_7 p2 p0 p1 r13 v33) (P43l0 p0 p1 p2 p4 r13 r) := by
  refine F43l0.partial_correctness p0 p1 p2 p4 r13 (motive := fun v33 v32 r => TL Try.prog 1 1 c43.s2.s2.s2.s2.s2.s2.s1.s2.bd.bd (st 84 [(2, iv p4), (3, pt 1 0), (9, mkV 2 (List.length r13.1)), (10, mkV 3 (List.length r13.2)), (11, accV 4 (List.length v33)), (12, iv v32)]) (H43_7 p2 p0 p1 r13 v33) (P43l0 p0 p1 p2 p4 r13 r)) ?_ v33 v32 r hF
  clear hF r v33 v32
  intro again ih v33 v32 r hF
  refine TL.round (TS.sq (TS.sq (TS.rg (TI.ra 3 [2, 3, 9, 10, 11, 12, 46] (st 84 [(2, iv p4), (3, pt 1 0), (9, mkV 2 (List.length r13.1)), (10, mkV 3 (List.length r13.2)), (11, accV 4 (List.length v33)), (12, iv v32), (46, .bool (decide (v32 ≤ p4)))]) (TI.dn (NX.sq ?_))))))
  refine TS.cd (.tmp 46) (decide (v32 ≤ p4)) (fun hc54 => ?_) (fun hc54 => ?_)
  · replace hF := of_pos hF hc54
    refine TS.sk (NX.sq (TS.sq (TS.bk 1 (TS.sq ?_))))
    have hX := of_guardn hF
    clear hF
    obtain ⟨hg55, hF⟩ := hX
    have hX := of_guardn hF
    clear hF
    obtain ⟨hg56, hF⟩ := hX
    refine TS.dp [] (fun e he => by cases he) mixed 12 [2, 3, 9, 10, 11, 12, 13, 14] [0, 1, 2, 3, 4] (st 84 [(2, iv p4), (3, pt 1 0), (9, mkV 2 (List.length r13.1)), (10, mkV 3 (List.length r13.2)), (11, accV 4 (List.length v33)), (12, iv v32), (13, iv (Int.tmod v32 p0)), (14, iv (w64 (p0 + (Int.tmod v32 p1))))]) (H43_7 p2 p0 p1 r13 v33) ?_ ?_
    · exact QJ.rn (qs (st 84 [(2, iv p4), (3, pt 1 0), (9, mkV 2 (List.length r13.1)), (10, mkV 3 (List.length r13.2)), (11, accV 4 (List.length v33)), (12, iv v32), (46, .bool (decide (v32 ≤ p4))), (49, iv v32), (50, pt 1 0), (51, iv p0)]) (H43_7 p2 p0 p1 r13 v33) [] []) 3 (QJ.o { val := iv (Int.tmod v32 p0) } (q_int (P := Try.prog) (op := .rem) (ty := 3) (ox := (.tmp 49)) (oy := (.tmp 51)) (k := .i64) (k' := .i64) (y := v32) (z := p0) (by kernel_rfl) (rem_ok hg55)) (QJ.rn (qs (st 84 [(2, iv p4), (3, pt 1 0), (9, mkV 2 (List.length r13.1)), (10, mkV 3 (List.length r13.2)), (11, accV 4 (List.length v33)), (12, iv v32), (46, .bool (decide (v32 ≤ p4))), (49, iv v32), (50, pt 1 0), (51, iv p0), (52, iv (Int.tmod v32 p0)), (53, pt 1 0), (54, iv p0), (55, iv v32), (56, pt 1 1), (57, iv p1)]) (H43_7 p2 p0 p1 r13 v33) [] []) 5 (QJ.o { val := iv (Int.tmod v32 p1) } (q_int (P := Try.prog) (op := .rem) (ty := 3) (ox := (.tmp 55)) (oy := (.tmp 57)) (k := .i64) (k' := .i64) (y := v32) (z := p1) (by kernel_rfl) (rem_ok hg56)) (QJ.rn (qs (st 84 [(2, iv p4), (3, pt 1 0), (9, mkV 2 (List.length r13.1)), (10, mkV 3 (List.length r13.2)), (11, accV 4 (List.length v33)), (12, iv v32), (13, iv (Int.tmod v32 p0)), (46, .bool (decide (v32 ≤ p4))), (49, iv v32), (50, pt 1 0), (51, iv p0), (52, iv (Int.tmod v32 p0)), (53, pt 1 0), (54, iv p0), (55, iv v32), (56, pt 1 1), (57, iv p1), (58, iv (Int.tmod v32 p1)), (59, iv (w64 (p0 + (Int.tmod v32 p1))))]) (H43_7 p2 p0 p1 r13 v33) [] []) 2 (QJ.dn ⟨rfl, SJ.la⟩)))))
    refine TS.sq ?_
    have hX := of_guard hF
    clear hF
    obtain ⟨hg57, hF⟩ := hX
    have hX := of_do hF
    clear hF
    obtain ⟨o58, h59, hF⟩ := hX
    replace h59 := Option.some.inj h59
    have hX := of_guard hF
    clear hF
    obtain ⟨hg60, hF⟩ := hX
    have hX := of_do hF
    clear hF
    obtain ⟨o61, h62, hF⟩ := hX
    replace h62 := Option.some.inj h62
    refine TS.dp [] (fun e he => by cases he) mixed 8 [2, 3, 9, 10, 11, 12, 13, 14, 68] [0, 1, 2, 3, 4] (st 84 [(2, iv p4), (3, pt 1 0), (9, mkV 2 (List.length r13.1)), (10, mkV 3 (List.length r13.2)), (11, accV 4 (List.length v33)), (12, iv v32), (13, iv (Int.tmod v32 p0)), (14, iv (w64 (p0 + (Int.tmod v32 p1)))), (68, .bool (o58 == o61))]) (H43_7 p2 p0 p1 r13 v33) ?_ ?_
    · refine QJ.rn (qs (st 84 [(2, iv p4), (3, pt 1 0), (9, mkV 2 (List.length r13.1)), (10, mkV 3 (List.length r13.2)), (11, accV 4 (List.length v33)), (12, iv v32), (13, iv (Int.tmod v32 p0)), (14, iv (w64 (p0 + (Int.tmod v32 p1)))), (60, mkV 2 (List.length r13.1)), (61, iv (Int.tmod v32 p0))]) (H43_7 p2 p0 p1 r13 v33) [] []) 2 (QJ.o { val := .pointer (some ⟨2, 0 + (Int.toNat (Int.tmod v32 p0)) * 1, none⟩) } (q_ixS 2 0 ((Int.toNat (Int.tmod v32 p0)) * 1) (by kernel_rfl) hg57) ?_)
      refine QJ.o { val := iv o58 } (q_eqv (q_ld1 (P := Try.prog) (hp := (H43_7 p2 p0 p1 r13 v33)) (t := 3) (b := 2) (off := 0 + (Int.toNat (Int.tmod v32 p0)) * 1) (l := r13.1) (enc := e3) (s := 1) (T := 3) (i := Int.toNat (Int.tmod v32 p0)) (k := 0) (by kernel_rfl) (by kernel_rfl) (by kernel_rfl) (fun _ => rfl) (by omega) (by decide) (by first | omega | (simp only [List.length_set, List.length_replicate, List.length_cons, List.length_nil, List.length_append]; omega)) 0) (congrArg (fun (z : Int) => ({ val := iv z } : QRes)) h59)) (QJ.rn (qs (st 84 [(2, iv p4), (3, pt 1 0), (9, mkV 2 (List.length r13.1)), (10, mkV 3 (List.length r13.2)), (11, accV 4 (List.length v33)), (12, iv v32), (13, iv (Int.tmod v32 p0)), (14, iv (w64 (p0 + (Int.tmod v32 p1)))), (60, mkV 2 (List.length r13.1)), (61, iv (Int.tmod v32 p0)), (62, .pointer (some ⟨2, 0 + (Int.toNat (Int.tmod v32 p0)) * 1, none⟩)), (63, iv o58), (64, mkV 2 (List.length r13.1)), (65, iv (w64 (p0 + (Int.tmod v32 p1))))]) (H43_7 p2 p0 p1 r13 v33) [] []) 2 (QJ.o { val := .pointer (some ⟨2, 0 + (Int.toNat (w64 (p0 + (Int.tmod v32 p1)))) * 1, none⟩) } (q_ixS 2 0 ((Int.toNat (w64 (p0 + (Int.tmod v32 p1)))) * 1) (by kernel_rfl) hg60) ?_))
      exact QJ.o { val := iv o61 } (q_eqv (q_ld1 (P := Try.prog) (hp := (H43_7 p2 p0 p1 r13 v33)) (t := 3) (b := 2) (off := 0 + (Int.toNat (w64 (p0 + (Int.tmod v32 p1)))) * 1) (l := r13.1) (enc := e3) (s := 1) (T := 3) (i := Int.toNat (w64 (p0 + (Int.tmod v32 p1)))) (k := 0) (by kernel_rfl) (by kernel_rfl) (by kernel_rfl) (fun _ => rfl) (by omega) (by decide) (by first | omega | (simp only [List.length_set, List.length_replicate, List.length_cons, List.length_nil, List.length_append]; omega)) 0) (congrArg (fun (z : Int) => ({ val := iv z } : QRes)) h62)) (QJ.dn ⟨rfl, SJ.la⟩)
    have hX := of_do hF
    clear hF
    obtain ⟨m74, hm75, hF⟩ := hX
    have hK : NX Try.prog 1 1 [.bk 1, .sq c43.s2.s2.s2.s2.s2.s2.s1.s2.bd.bd.s2.s2] (Rd Try.prog 1 1 c43.s2.s2.s2.s2.s2.s2.s1.s2.bd.bd (P43l0 p0 p1 p2 p4 r13 r)) .normal (st 84 [(2, iv p4), (3, pt 1 0), (9, mkV 2 (List.length r13.1)), (10, mkV 3 (List.length r13.2)), (11, accV 4 (List.length m74)), (12, iv v32)]) (H43_8 p2 p0 p1 r13 m74) := by
      refine NX.bk (NX.sq (TS.rg (TI.ra 3 [2, 3, 9, 10, 11, 12] (st 84 [(2, iv p4), (3, pt 1 0), (9, mkV 2 (List.length r13.1)), (10, mkV 3 (List.length r13.2)), (11, accV 4 (List.length m74)), (12, iv (w64 (v32 + 1)))]) (TI.dn ?_))))
      exact Rd.again (a2 := (st 84 [(2, iv p4), (3, pt 1 0), (9, mkV 2 (List.length r13.1)), (10, mkV 3 (List.length r13.2)), (11, accV 4 (List.length m74)), (12, iv (w64 (v32 + 1)))])) (h2 := (H43_8 p2 p0 p1 r13 m74)) (Wk.anew (base := 1) (L := 1) (f := [1, 2, 3, 4]) (by decide) (by decide) (Nat.le_of_ble_eq_true rfl) rfl (.cons (At.acc (by kernel_rfl) rfl (fun _ => rfl)) (.cons (At.blk (by kernel_rfl) (RnB.lit (.cons (.flat (by kernel_rfl)) (.cons (.flat (by kernel_rfl)) (.cons (Rn.slice0 _ _ _ _ (Nat.le_of_ble_eq_true rfl) rfl) .nil))))) (.cons (At.blk (by kernel_rfl) (RnB.list (fun _ => rfl))) (.cons (At.blk (by kernel_rfl) (RnB.list (fun _ => rfl))) (.cons (At.acc (by kernel_rfl) rfl (fun _ => rfl)) (.nil _)))))) (LRn.stx [2, 3, 9, 10, 11, 12] [iv p4, pt 1 0, mkV 2 (List.length r13.1), mkV 3 (List.length r13.2), accV 4 (List.length m74), iv (w64 (v32 + 1))] [iv p4, pt 1 0, mkV 2 (List.length r13.1), mkV 3 (List.length r13.2), accV 4 (List.length m74), iv (w64 (v32 + 1))] (.cons (.flat (by kernel_rfl)) (.cons (Rn.ptr _ _ _ (Nat.le_of_ble_eq_true rfl) rfl) (.cons (Rn.mk (Nat.le_of_ble_eq_true rfl) rfl (by simp only [List.length_set])) (.cons (Rn.mk (Nat.le_of_ble_eq_true rfl) rfl (by simp only [List.length_set])) (.cons (Rn.acc (Nat.le_of_ble_eq_true rfl) rfl) (.cons (.flat (by kernel_rfl)) .nil)))))) (by kernel_rfl) (by kernel_rfl) rfl) rfl rfl) (ih m74 (w64 (v32 + 1)) _ hF)
    clear hF
    have hF := hm75
    clear hm75
    refine TS.start ?_
    refine TS.cd (.tmp 68) (o58 == o61) (fun hc76 => ?_) (fun hc76 => ?_)
    · replace hF := of_pos hF hc76
      have hX := of_guard hF
      clear hF
      obtain ⟨hg77, hF⟩ := hX
      have hX := of_do hF
      clear hF
      obtain ⟨o78, h79, hF⟩ := hX
      replace h79 := Option.some.inj h79
      have hX := of_guard hF
      clear hF
      obtain ⟨hg80, hF⟩ := hX
      have hX := of_do hF
      clear hF
      obtain ⟨o81, h82, hF⟩ := hX
      replace h82 := Option.some.inj h82
      revert hF
      generalize v33 = ly83
      intro hF
      cases ly83 with
      | nil =>
        have hX := of_guard hF
        clear hF
        obtain ⟨hg84, hF⟩ := hX
        refine TS.drawE (id := 13) (b := true) (ops := c43.s2.s2.s2.s2.s2.s2.s1.s2.bd.bd.s2.s1.bd.s2.s2.th.rops) (fin := (qs (S43_3 p4 r13 v32 p0 p1 o58 o61 o78 o81) (H43_9 p2 p0 p1 r13 v32 o78 o81) [(12, 5, 6)] [])) (fin2 := (qs (S43_3 p4 r13 v32 p0 p1 o58 o61 o78 o81) (H43_9 p2 p0 p1 r13 v32 o78 o81) [(12, 5, 6)] [])) (a1 := (S43_1 p4 r13 v32 o78 o81 p0 p1 o58 o61)) (h1 := (H43_5 p2 p0 p1 r13 v32 o78 o81)) [] (fun e he => by cases he) mixed (by kernel_rfl) rfl 13 (by kernel_rfl) [] ?_ rfl (.inl ⟨rfl, rfl⟩) ?_ ?_
        · refine QI.run (s1 := (qs (st 84 [(2, iv p4), (3, pt 1 0), (9, mkV 2 (List.length r13.1)), (10, mkV 3 (List.length r13.2)), (11, .slice none 0 0), (12, iv v32), (13, iv (Int.tmod v32 p0)), (14, iv (w64 (p0 + (Int.tmod v32 p1)))), (68, .bool (o58 == o61)), (69, .slice none 0 0), (70, iv v32), (71, mkV 3 (List.length r13.2)), (72, iv (Int.tmod v32 p0))]) (H43_11 p2 p0 p1 r13) [] [])) 4 (by kernel_rfl) (by kernel_rfl) (QI.op (q := { val := .pointer (some ⟨3, 0 + (Int.toNat (Int.tmod v32 p0)) * 1, none⟩) }) (s1 := (qs (st 84 [(2, iv p4), (3, pt 1 0), (9, mkV 2 (List.length r13.1)), (10, mkV 3 (List.length r13.2)), (11, .slice none 0 0), (12, iv v32), (13, iv (Int.tmod v32 p0)), (14, iv (w64 (p0 + (Int.tmod v32 p1)))), (68, .bool (o58 == o61)), (69, .slice none 0 0), (70, iv v32), (71, mkV 3 (List.length r13.2)), (72, iv (Int.tmod v32 p0)), (73, .pointer (some ⟨3, 0 + (Int.toNat (Int.tmod v32 p0)) * 1, none⟩))]) (H43_11 p2 p0 p1 r13) [] [])) (by decide) (q_ixS 3 0 ((Int.toNat (Int.tmod v32 p0)) * 1) (by kernel_rfl) hg77) (by kernel_rfl) ?_)
          refine QI.op (q := { val := iv o78 }) (s1 := (qs (st 84 [(2, iv p4), (3, pt 1 0), (9, mkV 2 (List.length r13.1)), (10, mkV 3 (List.length r13.2)), (11, .slice none 0 0), (12, iv v32), (13, iv (Int.tmod v32 p0)), (14, iv (w64 (p0 + (Int.tmod v32 p1)))), (68, .bool (o58 == o61)), (69, .slice none 0 0), (70, iv v32), (71, mkV 3 (List.length r13.2)), (72, iv (Int.tmod v32 p0)), (73, .pointer (some ⟨3, 0 + (Int.toNat (Int.tmod v32 p0)) * 1, none⟩)), (74, iv o78)]) (H43_11 p2 p0 p1 r13) [] [])) (by decide) (q_eqv (q_ld1 (P := Try.prog) (hp := (H43_11 p2 p0 p1 r13)) (t := 3) (b := 3) (off := 0 + (Int.toNat (Int.tmod v32 p0)) * 1) (l := r13.2) (enc := e3) (s := 1) (T := 3) (i := Int.toNat (Int.tmod v32 p0)) (k := 0) (by kernel_rfl) (by kernel_rfl) (by kernel_rfl) (fun _ => rfl) (by omega) (by decide) (by first | omega | (simp only [List.length_set, List.length_replicate, List.length_cons, List.length_nil, List.length_append]; omega)) 0) (congrArg (fun (z : Int) => ({ val := iv z } : QRes)) h79)) (by kernel_rfl) (QI.run (s1 := (qs (st 84 [(2, iv p4), (3, pt 1 0), (9, mkV 2 (List.length r13.1)), (10, mkV 3 (List.length r13.2)), (11, .slice none 0 0), (12, iv v32), (13, iv (Int.tmod v32 p0)), (14, iv (w64 (p0 + (Int.tmod v32 p1)))), (68, .bool (o58 == o61)), (69, .slice none 0 0), (70, iv v32), (71, mkV 3 (List.length r13.2)), (72, iv (Int.tmod v32 p0)), (73, .pointer (some ⟨3, 0 + (Int.toNat (Int.tmod v32 p0)) * 1, none⟩)), (74, iv o78), (75, mkV 3 (List.length r13.2)), (76, iv (w64 (p0 + (Int.tmod v32 p1))))]) (H43_11 p2 p0 p1 r13) [] [])) 2 (by kernel_rfl) (by kernel_rfl) (QI.op (q := { val := .pointer (some ⟨3, 0 + (Int.toNat (w64 (p0 + (Int.tmod v32 p1)))) * 1, none⟩) }) (s1 := (qs (st 84 [(2, iv p4), (3, pt 1 0), (9, mkV 2 (List.length r13.1)), (10, mkV 3 (List.length r13.2)), (11, .slice none 0 0), (12, iv v32), (13, iv (Int.tmod v32 p0)), (14, iv (w64 (p0 + (Int.tmod v32 p1)))), (68, .bool (o58 == o61)), (69, .slice none 0 0), (70, iv v32), (71, mkV 3 (List.length r13.2)), (72, iv (Int.tmod v32 p0)), (73, .pointer (some ⟨3, 0 + (Int.toNat (Int.tmod v32 p0)) * 1, none⟩)), (74, iv o78), (75, mkV 3 (List.length r13.2)), (76, iv (w64 (p0 + (Int.tmod v32 p1)))), (77, .pointer (some ⟨3, 0 + (Int.toNat (w64 (p0 + (Int.tmod v32 p1)))) * 1, none⟩))]) (H43_11 p2 p0 p1 r13) [] [])) (by decide) (q_ixS 3 0 ((Int.toNat (w64 (p0 + (Int.tmod v32 p1)))) * 1) (by kernel_rfl) hg80) (by kernel_rfl) ?_))
          exact QI.op (q := { val := iv o81 }) (s1 := (qs (st 84 [(2, iv p4), (3, pt 1 0), (9, mkV 2 (List.length r13.1)), (10, mkV 3 (List.length r13.2)), (11, .slice none 0 0), (12, iv v32), (13, iv (Int.tmod v32 p0)), (14, iv (w64 (p0 + (Int.tmod v32 p1)))), (68, .bool (o58 == o61)), (69, .slice none 0 0), (70, iv v32), (71, mkV 3 (List.length r13.2)), (72, iv (Int.tmod v32 p0)), (73, .pointer (some ⟨3, 0 + (Int.toNat (Int.tmod v32 p0)) * 1, none⟩)), (74, iv o78), (75, mkV 3 (List.length r13.2)), (76, iv (w64 (p0 + (Int.tmod v32 p1)))), (77, .pointer (some ⟨3, 0 + (Int.toNat (w64 (p0 + (Int.tmod v32 p1)))) * 1, none⟩)), (78, iv o81)]) (H43_11 p2 p0 p1 r13) [] [])) (by decide) (q_eqv (q_ld1 (P := Try.prog) (hp := (H43_11 p2 p0 p1 r13)) (t := 3) (b := 3) (off := 0 + (Int.toNat (w64 (p0 + (Int.tmod v32 p1)))) * 1) (l := r13.2) (enc := e3) (s := 1) (T := 3) (i := Int.toNat (w64 (p0 + (Int.tmod v32 p1)))) (k := 0) (by kernel_rfl) (by kernel_rfl) (by kernel_rfl) (fun _ => rfl) (by omega) (by decide) (by first | omega | (simp only [List.length_set, List.length_replicate, List.length_cons, List.length_nil, List.length_append]; omega)) 0) (congrArg (fun (z : Int) => ({ val := iv z } : QRes)) h82)) (by kernel_rfl) (QI.run (s1 := (qs (S43_3 p4 r13 v32 p0 p1 o58 o61 o78 o81) (H43_9 p2 p0 p1 r13 v32 o78 o81) [(12, 5, 6)] [])) 3 (by kernel_rfl) (by kernel_rfl) (QI.done (by kernel_rfl)))
        · exact SI.op (q := { val := .slice (some ⟨6, 0, none⟩) (List.length [(v32, w64 (o78 + o81))]) UNK, new := [.cells 72 (List.flatMap e72 ([(v32, w64 (o78 + o81))]))] }) (a2 := (st 84 [(2, iv p4), (3, pt 1 0), (9, mkV 2 (List.length r13.1)), (10, mkV 3 (List.length r13.2)), (11, .slice none 0 0), (12, iv v32), (13, iv (Int.tmod v32 p0)), (14, iv (w64 (p0 + (Int.tmod v32 p1)))), (68, .bool (o58 == o61)), (69, .slice none 0 0), (70, iv v32), (71, mkV 3 (List.length r13.2)), (72, iv (Int.tmod v32 p0)), (73, .pointer (some ⟨3, 0 + (Int.toNat (Int.tmod v32 p0)) * 1, none⟩)), (74, iv o78), (75, mkV 3 (List.length r13.2)), (76, iv (w64 (p0 + (Int.tmod v32 p1)))), (77, .pointer (some ⟨3, 0 + (Int.toNat (w64 (p0 + (Int.tmod v32 p1)))) * 1, none⟩)), (78, iv o81), (79, iv (w64 (o78 + o81))), (80, ag [iv v32, iv (w64 (o78 + o81))]), (81, .slice (some ⟨5, 0, none⟩) 1 1), (82, .slice (some ⟨6, 0, none⟩) (List.length [(v32, w64 (o78 + o81))]) UNK)])) (h2 := (H43_5 p2 p0 p1 r13 v32 o78 o81)) (by kernel_rfl) (q_appN (P := Try.prog) (base := 1) (hp := (H43_9 p2 p0 p1 r13 v32 o78 o81)) (n := 6) (ts := #[26, 26]) (e := 72) (bytes := 16) (z := ag [iv 0, iv 0]) (y := .slice (some ⟨5, 0, none⟩) 1 1) (ys := [(v32, w64 (o78 + o81))]) (xs := List.flatMap e72 ([(v32, w64 (o78 + o81))])) (m := 1) (s := 2) (enc := e72) (by kernel_rfl) (by kernel_rfl) (by kernel_rfl) (by kernel_rfl) (by kernel_rfl) (by kernel_rfl) (by kernel_rfl) (by kernel_rfl) rfl rfl (by omega)) (by kernel_rfl) (by kernel_rfl) (SI.run (a2 := (S43_1 p4 r13 v32 o78 o81 p0 p1 o58 o61)) (h2 := (H43_5 p2 p0 p1 r13 v32 o78 o81)) 1 (by kernel_rfl) (SI.done (by kernel_rfl)))
        have hF := Option.some.inj hF
        subst hF
        exact TS.weak (Wk.anew (base := 1) (L := 1) (f := [1, 2, 3, 6]) (by decide) (by decide) (Nat.le_of_ble_eq_true rfl) rfl (.cons (At.acc (by kernel_rfl) rfl (fun _ => rfl)) (.cons (At.blk (by kernel_rfl) (RnB.lit (.cons (.flat (by kernel_rfl)) (.cons (.flat (by kernel_rfl)) (.cons (Rn.slice0 _ _ _ _ (Nat.le_of_ble_eq_true rfl) rfl) .nil))))) (.cons (At.blk (by kernel_rfl) (RnB.list (fun _ => rfl))) (.cons (At.blk (by kernel_rfl) (RnB.list (fun _ => rfl))) (.cons (At.accU (by kernel_rfl) rfl (fun _ => rfl)) (.nil _)))))) (LRn.stx [2, 3, 9, 10, 11, 12] [iv p4, pt 1 0, mkV 2 (List.length r13.1), mkV 3 (List.length r13.2), accV 4 (List.length ([(v32, w64 (o78 + o81))])), iv v32] [iv p4, pt 1 0, mkV 2 (List.length r13.1), mkV 3 (List.length r13.2), .slice (some ⟨6, 0, none⟩) (List.length [(v32, w64 (o78 + o81))]) UNK, iv v32] (.cons (.flat (by kernel_rfl)) (.cons (Rn.ptr _ _ _ (Nat.le_of_ble_eq_true rfl) rfl) (.cons (Rn.mk (Nat.le_of_ble_eq_true rfl) rfl (by simp only [List.length_set])) (.cons (Rn.mk (Nat.le_of_ble_eq_true rfl) rfl (by simp only [List.length_set])) (.cons (Rn.accU (Nat.le_of_ble_eq_true rfl) rfl (by simp)) (.cons (.flat (by kernel_rfl)) .nil)))))) (by kernel_rfl) (by kernel_rfl) rfl) rfl rfl) hK
      | cons y83 y83s =>
        have hX := of_guard hF
        clear hF
        obtain ⟨hg85, hF⟩ := hX
        refine TS.drawE (id := 13) (b := true) (ops := c43.s2.s2.s2.s2.s2.s2.s1.s2.bd.bd.s2.s1.bd.s2.s2.th.rops) (fin := (qs (S43_2 p4 r13 y83 y83s v32 p0 p1 o58 o61 o78 o81) (H43_6 p2 p0 p1 r13 y83 y83s v32 o78 o81) [(12, 5, 6)] [])) (fin2 := (qs (S43_2 p4 r13 y83 y83s v32 p0 p1 o58 o61 o78 o81) (H43_6 p2 p0 p1 r13 y83 y83s v32 o78 o81) [(12, 5, 6)] [])) (a1 := (S43_0 p4 r13 y83 y83s v32 o78 o81 p0 p1 o58 o61)) (h1 := (H43_4 p2 p0 p1 r13 v32 o78 o81 y83 y83s)) [] (fun e he => by cases he) mixed (by kernel_rfl) rfl 13 (by kernel_rfl) [] ?_ rfl (.inl ⟨rfl, rfl⟩) ?_ ?_
        · refine QI.run (s1 := (qs (st 84 [(2, iv p4), (3, pt 1 0), (9, mkV 2 (List.length r13.1)), (10, mkV 3 (List.length r13.2)), (11, .slice (some ⟨4, 0, none⟩) (List.length (y83 :: y83s)) UNK), (12, iv v32), (13, iv (Int.tmod v32 p0)), (14, iv (w64 (p0 + (Int.tmod v32 p1)))), (68, .bool (o58 == o61)), (69, .slice (some ⟨4, 0, none⟩) (List.length (y83 :: y83s)) UNK), (70, iv v32), (71, mkV 3 (List.length r13.2)), (72, iv (Int.tmod v32 p0))]) (H43_10 p2 p0 p1 r13 y83 y83s) [] [])) 4 (by kernel_rfl) (by kernel_rfl) (QI.op (q := { val := .pointer (some ⟨3, 0 + (Int.toNat (Int.tmod v32 p0)) * 1, none⟩) }) (s1 := (qs (st 84 [(2, iv p4), (3, pt 1 0), (9, mkV 2 (List.length r13.1)), (10, mkV 3 (List.length r13.2)), (11, .slice (some ⟨4, 0, none⟩) (List.length (y83 :: y83s)) UNK), (12, iv v32), (13, iv (Int.tmod v32 p0)), (14, iv (w64 (p0 + (Int.tmod v32 p1)))), (68, .bool (o58 == o61)), (69, .slice (some ⟨4, 0, none⟩) (List.length (y83 :: y83s)) UNK), (70, iv v32), (71, mkV 3 (List.length r13.2)), (72, iv (Int.tmod v32 p0)), (73, .pointer (some ⟨3, 0 + (Int.toNat (Int.tmod v32 p0)) * 1, none⟩))]) (H43_10 p2 p0 p1 r13 y83 y83s) [] [])) (by decide) (q_ixS 3 0 ((Int.toNat (Int.tmod v32 p0)) * 1) (by kernel_rfl) hg77) (by kernel_rfl) ?_)
          refine QI.op (q := { val := iv o78 }) (s1 := (qs (st 84 [(2, iv p4), (3, pt 1 0), (9, mkV 2 (List.length r13.1)), (10, mkV 3 (List.length r13.2)), (11, .slice (some ⟨4, 0, none⟩) (List.length (y83 :: y83s)) UNK), (12, iv v32), (13, iv (Int.tmod v32 p0)), (14, iv (w64 (p0 + (Int.tmod v32 p1)))), (68, .bool (o58 == o61)), (69, .slice (some ⟨4, 0, none⟩) (List.length (y83 :: y83s)) UNK), (70, iv v32), (71, mkV 3 (List.length r13.2)), (72, iv (Int.tmod v32 p0)), (73, .pointer (some ⟨3, 0 + (Int.toNat (Int.tmod v32 p0)) * 1, none⟩)), (74, iv o78)]) (H43_10 p2 p0 p1 r13 y83 y83s) [] [])) (by decide) (q_eqv (q_ld1 (P := Try.prog) (hp := (H43_10 p2 p0 p1 r13 y83 y83s)) (t := 3) (b := 3) (off := 0 + (Int.toNat (Int.tmod v32 p0)) * 1) (l := r13.2) (enc := e3) (s := 1) (T := 3) (i := Int.toNat (Int.tmod v32 p0)) (k := 0) (by kernel_rfl) (by kernel_rfl) (by kernel_rfl) (fun _ => rfl) (by omega) (by decide) (by first | omega | (simp only [List.length_set, List.length_replicate, List.length_cons, List.length_nil, List.length_append]; omega)) 0) (congrArg (fun (z : Int) => ({ val := iv z } : QRes)) h79)) (by kernel_rfl) (QI.run (s1 := (qs (st 84 [(2, iv p4), (3, pt 1 0), (9, mkV 2 (List.length r13.1)), (10, mkV 3 (List.length r13.2)), (11, .slice (some ⟨4, 0, none⟩) (List.length (y83 :: y83s)) UNK), (12, iv v32), (13, iv (Int.tmod v32 p0)), (14, iv (w64 (p0 + (Int.tmod v32 p1)))), (68, .bool (o58 == o61)), (69, .slice (some ⟨4, 0, none⟩) (List.length (y83 :: y83s)) UNK), (70, iv v32), (71, mkV 3 (List.length r13.2)), (72, iv (Int.tmod v32 p0)), (73, .pointer (some ⟨3, 0 + (Int.toNat (Int.tmod v32 p0)) * 1, none⟩)), (74, iv o78), (75, mkV 3 (List.length r13.2)), (76, iv (w64 (p0 + (Int.tmod v32 p1))))]) (H43_10 p2 p0 p1 r13 y83 y83s) [] [])) 2 (by kernel_rfl) (by kernel_rfl) (QI.op (q := { val := .pointer (some ⟨3, 0 + (Int.toNat (w64 (p0 + (Int.tmod v32 p1)))) * 1, none⟩) }) (s1 := (qs (st 84 [(2, iv p4), (3, pt 1 0), (9, mkV 2 (List.length r13.1)), (10, mkV 3 (List.length r13.2)), (11, .slice (some ⟨4, 0, none⟩) (List.length (y83 :: y83s)) UNK), (12, iv v32), (13, iv (Int.tmod v32 p0)), (14, iv (w64 (p0 + (Int.tmod v32 p1)))), (68, .bool (o58 == o61)), (69, .slice (some ⟨4, 0, none⟩) (List.length (y83 :: y83s)) UNK), (70, iv v32), (71, mkV 3 (List.length r13.2)), (72, iv (Int.tmod v32 p0)), (73, .pointer (some ⟨3, 0 + (Int.toNat (Int.tmod v32 p0)) * 1, none⟩)), (74, iv o78), (75, mkV 3 (List.length r13.2)), (76, iv (w64 (p0 + (Int.tmod v32 p1)))), (77, .pointer (some ⟨3, 0 + (Int.toNat (w64 (p0 + (Int.tmod v32 p1)))) * 1, none⟩))]) (H43_10 p2 p0 p1 r13 y83 y83s) [] [])) (by decide) (q_ixS 3 0 ((Int.toNat (w64 (p0 + (Int.tmod v32 p1)))) * 1) (by kernel_rfl) hg80) (by kernel_rfl) ?_))
          exact QI.op (q := { val := iv o81 }) (s1 := (qs (st 84 [(2, iv p4), (3, pt 1 0), (9, mkV 2 (List.length r13.1)), (10, mkV 3 (List.length r13.2)), (11, .slice (some ⟨4, 0, none⟩) (List.length (y83 :: y83s)) UNK), (12, iv v32), (13, iv (Int.tmod v32 p0)), (14, iv (w64 (p0 + (Int.tmod v32 p1)))), (68, .bool (o58 == o61)), (69, .slice (some ⟨4, 0, none⟩) (List.length (y83 :: y83s)) UNK), (70, iv v32), (71, mkV 3 (List.length r13.2)), (72, iv (Int.tmod v32 p0)), (73, .pointer (some ⟨3, 0 + (Int.toNat (Int.tmod v32 p0)) * 1, none⟩)), (74, iv o78), (75, mkV 3 (List.length r13.2)), (76, iv (w64 (p0 + (Int.tmod v32 p1)))), (77, .pointer (some ⟨3, 0 + (Int.toNat (w64 (p0 + (Int.tmod v32 p1)))) * 1, none⟩)), (78, iv o81)]) (H43_10 p2 p0 p1 r13 y83 y83s) [] [])) (by decide) (q_eqv (q_ld1 (P := Try.prog) (hp := (H43_10 p2 p0 p1 r13 y83 y83s)) (t := 3) (b := 3) (off := 0 + (Int.toNat (w64 (p0 + (Int.tmod v32 p1)))) * 1) (l := r13.2) (enc := e3) (s := 1) (T := 3) (i := Int.toNat (w64 (p0 + (Int.tmod v32 p1)))) (k := 0) (by kernel_rfl) (by kernel_rfl) (by kernel_rfl) (fun _ => rfl) (by omega) (by decide) (by first | omega | (simp only [List.length_set, List.length_replicate, List.length_cons, List.length_nil, List.length_append]; omega)) 0) (congrArg (fun (z : Int) => ({ val := iv z } : QRes)) h82)) (by kernel_rfl) (QI.run (s1 := (qs (S43_2 p4 r13 y83 y83s v32 p0 p1 o58 o61 o78 o81) (H43_6 p2 p0 p1 r13 y83 y83s v32 o78 o81) [(12, 5, 6)] [])) 3 (by kernel_rfl) (by kernel_rfl) (QI.done (by kernel_rfl)))
        · exact SI.op (q := { val := .slice (some ⟨6, 0, none⟩) (List.length ((y83 :: y83s) ++ [(v32, w64 (o78 + o81))])) UNK, new := [.cells 72 (List.flatMap e72 ((y83 :: y83s) ++ [(v32, w64 (o78 + o81))]))], upd := some (4, .dead) }) (a2 := (st 84 [(2, iv p4), (3, pt 1 0), (9, mkV 2 (List.length r13.1)), (10, mkV 3 (List.length r13.2)), (11, .slice (some ⟨4, 0, none⟩) (List.length (y83 :: y83s)) UNK), (12, iv v32), (13, iv (Int.tmod v32 p0)), (14, iv (w64 (p0 + (Int.tmod v32 p1)))), (68, .bool (o58 == o61)), (69, .slice (some ⟨4, 0, none⟩) (List.length (y83 :: y83s)) UNK), (70, iv v32), (71, mkV 3 (List.length r13.2)), (72, iv (Int.tmod v32 p0)), (73, .pointer (some ⟨3, 0 + (Int.toNat (Int.tmod v32 p0)) * 1, none⟩)), (74, iv o78), (75, mkV 3 (List.length r13.2)), (76, iv (w64 (p0 + (Int.tmod v32 p1)))), (77, .pointer (some ⟨3, 0 + (Int.toNat (w64 (p0 + (Int.tmod v32 p1)))) * 1, none⟩)), (78, iv o81), (79, iv (w64 (o78 + o81))), (80, ag [iv v32, iv (w64 (o78 + o81))]), (81, .slice (some ⟨5, 0, none⟩) 1 1), (82, .slice (some ⟨6, 0, none⟩) (List.length ((y83 :: y83s) ++ [(v32, w64 (o78 + o81))])) UNK)])) (h2 := (H43_4 p2 p0 p1 r13 v32 o78 o81 y83 y83s)) (by kernel_rfl) (q_appU (P := Try.prog) (base := 1) (hp := (H43_6 p2 p0 p1 r13 y83 y83s v32 o78 o81)) (n := 6) (l := (y83 :: y83s)) (b := 4) (ts := #[26, 26]) (e := 72) (bytes := 16) (z := ag [iv 0, iv 0]) (y := .slice (some ⟨5, 0, none⟩) 1 1) (ys := [(v32, w64 (o78 + o81))]) (xs := List.flatMap e72 ([(v32, w64 (o78 + o81))])) (m := 1) (s := 2) (enc := e72) (by kernel_rfl) (by kernel_rfl) (by decide) (by kernel_rfl) (by kernel_rfl) (by kernel_rfl) (by kernel_rfl) (by kernel_rfl) (by kernel_rfl) (by kernel_rfl) (by kernel_rfl) (fun _ => rfl) rfl rfl (by omega)) (by kernel_rfl) (by kernel_rfl) (SI.run (a2 := (S43_0 p4 r13 y83 y83s v32 o78 o81 p0 p1 o58 o61)) (h2 := (H43_4 p2 p0 p1 r13 v32 o78 o81 y83 y83s)) 1 (by kernel_rfl) (SI.done (by kernel_rfl)))
        have hF := Option.some.inj hF
        subst hF
        exact TS.weak (Wk.anew (base := 1) (L := 1) (f := [1, 2, 3, 6]) (by decide) (by decide) (Nat.le_of_ble_eq_true rfl) rfl (.cons (At.acc (by kernel_rfl) rfl (fun _ => rfl)) (.cons (At.blk (by kernel_rfl) (RnB.lit (.cons (.flat (by kernel_rfl)) (.cons (.flat (by kernel_rfl)) (.cons (Rn.slice0 _ _ _ _ (Nat.le_of_ble_eq_true rfl) rfl) .nil))))) (.cons (At.blk (by kernel_rfl) (RnB.list (fun _ => rfl))) (.cons (At.blk (by kernel_rfl) (RnB.list (fun _ => rfl))) (.cons (At.accU (by kernel_rfl) rfl (fun _ => rfl)) (.nil _)))))) (LRn.stx [2, 3, 9, 10, 11, 12] [iv p4, pt 1 0, mkV 2 (List.length r13.1), mkV 3 (List.length r13.2), accV 4 (List.length ((y83 :: y83s) ++ [(v32, w64 (o78 + o81))])), iv v32] [iv p4, pt 1 0, mkV 2 (List.length r13.1), mkV 3 (List.length r13.2), .slice (some ⟨6, 0, none⟩) (List.length ((y83 :: y83s) ++ [(v32, w64 (o78 + o81))])) UNK, iv v32] (.cons (.flat (by kernel_rfl)) (.cons (Rn.ptr _ _ _ (Nat.le_of_ble_eq_true rfl) rfl) (.cons (Rn.mk (Nat.le_of_ble_eq_true rfl) rfl (by simp only [List.length_set])) (.cons (Rn.mk (Nat.le_of_ble_eq_true rfl) rfl (by simp only [List.length_set])) (.cons (Rn.accU (Nat.le_of_ble_eq_true rfl) rfl (by simp)) (.cons (.flat (by kernel_rfl)) .nil)))))) (by kernel_rfl) (by kernel_rfl) rfl) rfl rfl) hK
    · replace hF := of_neg hF hc76
      refine TS.sk ?_
      have hF := Option.some.inj hF
      subst hF
      exact TS.weak (Wk.anew (base := 1) (L := 1) (f := [1, 2, 3, 4]) (by decide) (by decide) (Nat.le_of_ble_eq_true rfl) rfl (.cons (At.acc (by kernel_rfl) rfl (fun _ => rfl)) (.cons (At.blk (by kernel_rfl) (RnB.lit (.cons (.flat (by kernel_rfl)) (.cons (.flat (by kernel_rfl)) (.cons (Rn.slice0 _ _ _ _ (Nat.le_of_ble_eq_true rfl) rfl) .nil))))) (.cons (At.blk (by kernel_rfl) (RnB.list (fun _ => rfl))) (.cons (At.blk (by kernel_rfl) (RnB.list (fun _ => rfl))) (.cons (At.acc (by kernel_rfl) rfl (fun _ => rfl)) (.nil _)))))) (LRn.stx [2, 3, 9, 10, 11, 12] [iv p4, pt 1 0, mkV 2 (List.length r13.1), mkV 3 (List.length r13.2), accV 4 (List.length v33), iv v32] [iv p4, pt 1 0, mkV 2 (List.length r13.1), mkV 3 (List.length r13.2), accV 4 (List.length v33), iv v32] (.cons (.flat (by kernel_rfl)) (.cons (Rn.ptr _ _ _ (Nat.le_of_ble_eq_true rfl) rfl) (.cons (Rn.mk (Nat.le_of_ble_eq_true rfl) rfl (by simp only [List.length_set])) (.cons (Rn.mk (Nat.le_of_ble_eq_true rfl) rfl (by simp only [List.length_set])) (.cons (Rn.acc (Nat.le_of_ble_eq_true rfl) rfl) (.cons (.flat (by kernel_rfl)) .nil)))))) (by kernel_rfl) (by kernel_rfl) rfl) rfl rfl) hK
  · replace hF := of_neg hF hc54
    refine TS.ex 0 (NX.sqX ?_)
    have hF := Option.some.inj hF
    subst hF
    exact Rd.out (e := .exit 0) (by intro h; cases h) (And.intro rfl (Wk.anew (base := 1) (L := 1) (f := [4]) (by decide) (by decide) (Nat.le_of_ble_eq_true rfl) rfl (.cons (At.acc (by kernel_rfl) rfl (fun _ => rfl)) (.cons (At.acc (by kernel_rfl) rfl (fun _ => rfl)) (.nil _))) (LRn.stx [11] [accV 1 (List.length v33)] [accV 4 (List.length v33)] (.cons (Rn.acc (Nat.le_of_ble_eq_true rfl) rfl) .nil) (by kernel_rfl) (by kernel_rfl) rfl) rfl rfl))
theorem B43 (p0 : Int) (p1 : Int) (p2 : (List (Int × Int))) (p3 : Int) (p4 : Int) (r : ((List (Int × Int)) × Int)) (hF : F43 p0 p1 p2 p3 p4 = some r) : TS Try.prog 1 1 c43 (st 84 [(0, ag [iv p0, iv p1, .slice (some ⟨0, 0, none⟩) (List.length p2) ANY]), (1, iv p3), (2, iv p4)]) [accB 72 (List.length p2) (List.flatMap e72 p2)] (NX Try.prog 1 1 [] (FinP Try.prog Try.f43 1 (V43 1 r) (N43 1 r))) := by
  unfold F43 at hF
  refine TS.sq (TS.rg (TI.rn 3 [1, 2, 3] [0, 1] (st 84 [(1, iv p3), (2, iv p4), (3, pt 1 0)]) (H43_12 p2 p0 p1) (TI.dn (NX.sq (TS.sq ?_)))))
  have hX := of_do hF
  clear hF
  obtain ⟨r1, h2, hF⟩ := hX
  refine TS.rg (TI.ra 1 [1, 2, 3, 15] (st 84 [(1, iv p3), (2, iv p4), (3, pt 1 0), (15, ag [iv p0, iv p1, .slice (some ⟨0, 0, none⟩) (List.length p2) ANY])]) (TI.cp 22 [ag [iv p0, iv p1, .slice (some ⟨0, 0, none⟩) (List.length p2) ANY]] (iv r1) [] (PureSim.ren (hc := [accB 72 (List.length p2) (List.flatMap e72 p2)]) (fun i => List.getD [(0, 0)] i (0, 0)) (C22 _ _ _ _ h2) (.cons (At.acc (by kernel_rfl) rfl (fun _ => rfl)) (.nil _)) (.cons (Rn.agg' (.cons (.flat (by kernel_rfl)) (.cons (.flat (by kernel_rfl)) (.cons (Rn.any _ _ _ _ _ _ (Nat.le_of_ble_eq_true rfl) rfl rfl (by decide)) .nil)))) .nil) (.flat (by kernel_rfl)) newflat_nil) (TI.ra 1 [1, 2, 3, 8] (st 84 [(1, iv p3), (2, iv p4), (3, pt 1 0), (8, iv r1)]) (TI.dn (NX.sq (TS.sq (TS.sq ?_)))))))
  have hX := of_do hF
  clear hF
  obtain ⟨m7, hm88, hF⟩ := hX
  have hK : NX Try.prog 1 1 [.sq c43.s2.s2.s1.s2, .sq c43.s2.s2.s2] (FinP Try.prog Try.f43 1 (V43 1 r) (N43 1 r)) .normal (st 84 [(1, iv p3), (2, iv p4), (3, pt 1 0), (8, iv r1), (34, .bool m7)]) (H43_12 p2 p0 p1) := by
    refine NX.sq ?_
    have hX := of_do hF
    clear hF
    obtain ⟨m10, hm11, hF⟩ := hX
    have hK : NX Try.prog 1 1 [.sq c43.s2.s2.s2] (FinP Try.prog Try.f43 1 (V43 1 r) (N43 1 r)) .normal (st 84 [(1, iv p3), (2, iv p4), (3, pt 1 0), (8, iv m10)]) (H43_12 p2 p0 p1) := by
      refine NX.sq (TS.sq (TS.sq (TS.rg (TI.ra 2 [1, 2, 3, 8, 36] (st 84 [(1, iv p3), (2, iv p4), (3, pt 1 0), (8, iv m10), (36, .bool (m10 != 0))]) (TI.dn (NX.sq ?_))))))
      refine TS.cd (.tmp 36) (m10 != 0) (fun hc12 => ?_) (fun hc12 => ?_)
      · replace hF := of_pos hF hc12
        refine TS.sq (TS.rg (TI.rn 3 [6, 7] [0] (st 84 [(6, .slice none 0 0), (7, iv m10)]) [accB 72 (List.length p2) (List.flatMap e72 p2), .dead] (TI.dn (NX.sq (TS.rt (NX.sqR ?_))))))
        have hF := Option.some.inj hF
        subst hF
        exact ⟨.inr rfl, rfl, .tuple ⟨[.slice none 0 0, iv m10]⟩, by kernel_rfl, WkV.made (L := 1) (f := [2]) (by decide) (by decide) rfl (.cons At.accN (.nil _)) (Rn.tuple' (.cons Rn.accN (.cons (.flat (by kernel_rfl)) .nil)))⟩
      · replace hF := of_neg hF hc12
        refine TS.sk (NX.sq (TS.sq ?_))
        have hX := of_do hF
        clear hF
        obtain ⟨r13, h14, hF⟩ := hX
        refine TS.rg (TI.ra 1 [1, 2, 3, 39] (st 84 [(1, iv p3), (2, iv p4), (3, pt 1 0), (39, ag [iv p0, iv p1, .slice (some ⟨0, 0, none⟩) (List.length p2) ANY])]) (TI.cp 48 [ag [iv p0, iv p1, .slice (some ⟨0, 0, none⟩) (List.length p2) ANY]] (.tuple ⟨[mkV 2 (List.length r13.1), mkV 3 (List.length r13.2)]⟩) [.cells 3 (List.flatMap e3 r13.1), .cells 3 (List.flatMap e3 r13.2)] (PureSim.ren (hc := [accB 72 (List.length p2) (List.flatMap e72 p2)]) (fun i => List.getD [(0, 0)] i (0, 0)) (C48 _ _ _ _ h14) (.cons (At.acc (by kernel_rfl) rfl (fun _ => rfl)) (.nil _)) (.cons (Rn.agg' (.cons (.flat (by kernel_rfl)) (.cons (.flat (by kernel_rfl)) (.cons (Rn.any _ _ _ _ _ _ (Nat.le_of_ble_eq_true rfl) rfl rfl (by decide)) .nil)))) .nil) (Rn.tuple' (.cons (Rn.mk (i' := 2) (Nat.le_of_ble_eq_true rfl) rfl rfl) (.cons (Rn.mk (i' := 3) (Nat.le_of_ble_eq_true rfl) rfl rfl) .nil))) (newflat_cons (cellsL_flat (fun _ => rfl)) (newflat_cons (cellsL_flat (fun _ => rfl)) newflat_nil))) (TI.rn 5 [1, 2, 3, 9, 10] [0, 1, 2, 3] (st 84 [(1, iv p3), (2, iv p4), (3, pt 1 0), (9, mkV 2 (List.length r13.1)), (10, mkV 3 (List.length r13.2))]) [accB 72 (List.length p2) (List.flatMap e72 p2), cl 28 [iv p0, iv p1, .slice (some ⟨0, 0, none⟩) (List.length p2) ANY], .cells 3 (List.flatMap e3 r13.1), .cells 3 (List.flatMap e3 r13.2)] (TI.dn (NX.sq (TS.sq (TS.rg (TI.ra 1 [1, 2, 3, 9, 10, 11] (st 84 [(1, iv p3), (2, iv p4), (3, pt 1 0), (9, mkV 2 (List.length r13.1)), (10, mkV 3 (List.length r13.2)), (11, .slice none 0 0)]) ?_))))))))
        refine TI.dn (NX.sq (TS.sq (TS.sq (TS.rg (TI.ra 2 [2, 3, 9, 10, 11, 12] (st 84 [(2, iv p4), (3, pt 1 0), (9, mkV 2 (List.length r13.1)), (10, mkV 3 (List.length r13.2)), (11, .slice none 0 0), (12, iv p3)]) (TI.dn (NX.sq (TS.bk 0 ?_))))))))
        have hX := of_do hF
        clear hF
        obtain ⟨r86, h87, hF⟩ := hX
        refine TS.lp (TL.weak (a2 := (st 84 [(2, iv p4), (3, pt 1 0), (9, mkV 2 (List.length r13.1)), (10, mkV 3 (List.length r13.2)), (11, accV 4 (List.length ([]))), (12, iv p3)])) (h2 := [accB 72 (List.length p2) (List.flatMap e72 p2), cl 28 [iv p0, iv p1, .slice (some ⟨0, 0, none⟩) (List.length p2) ANY], .cells 3 (List.flatMap e3 r13.1), .cells 3 (List.flatMap e3 r13.2), accB 72 (List.length ([])) (List.flatMap e72 ([]))]) (Wk.anew (base := 1) (L := 1) (f := [1, 2, 3, 4]) (by decide) (by decide) (Nat.le_of_ble_eq_true rfl) rfl (.cons (At.acc (by kernel_rfl) rfl (fun _ => rfl)) (.cons (At.blk (by kernel_rfl) (RnB.lit (.cons (.flat (by kernel_rfl)) (.cons (.flat (by kernel_rfl)) (.cons (Rn.slice0 _ _ _ _ (Nat.le_of_ble_eq_true rfl) rfl) .nil))))) (.cons (At.blk (by kernel_rfl) (RnB.list (fun _ => rfl))) (.cons (At.blk (by kernel_rfl) (RnB.list (fun _ => rfl))) (.cons At.accN (.nil _)))))) (LRn.stx [2, 3, 9, 10, 11, 12] [iv p4, pt 1 0, mkV 2 (List.length r13.1), mkV 3 (List.length r13.2), accV 4 (List.length ([])), iv p3] [iv p4, pt 1 0, mkV 2 (List.length r13.1), mkV 3 (List.length r13.2), .slice none 0 0, iv p3] (.cons (.flat (by kernel_rfl)) (.cons (Rn.ptr _ _ _ (Nat.le_of_ble_eq_true rfl) rfl) (.cons (Rn.mk (Nat.le_of_ble_eq_true rfl) rfl (by simp only [List.length_set])) (.cons (Rn.mk (Nat.le_of_ble_eq_true rfl) rfl (by simp only [List.length_set])) (.cons (Rn.accN) (.cons (.flat (by kernel_rfl)) .nil)))))) (by kernel_rfl) (by kernel_rfl) rfl) rfl rfl) (TL.post (L43l0 p0 p1 p2 p4 r13 ([]) p3 r86 h87) ?_))
        rintro e a1 h1 hp
        obtain ⟨rfl, hw⟩ := hp
        refine ⟨(st 84 [(11, accV 1 (List.length r86))]), [accB 72 (List.length p2) (List.flatMap e72 p2), accB 72 (List.length r86) (List.flatMap e72 r86)], (NX.bkX (NX.sq (TS.sq (TS.rg (TI.ra 3 [6, 7] (st 84 [(6, accV 1 (List.length r86)), (7, iv 0)]) (TI.dn (NX.sq (TS.rt ?_)))))))), hw⟩
        have hF := Option.some.inj hF
        subst hF
        exact ⟨.inr rfl, rfl, .tuple ⟨[accV 1 (List.length r86), iv 0]⟩, by kernel_rfl, WkV.made (L := 1) (f := [1]) (by decide) (by decide) rfl (.cons (At.acc (by kernel_rfl) rfl (fun _ => rfl)) (.nil _)) (Rn.tuple' (.cons (Rn.acc (Nat.le_of_ble_eq_true rfl) rfl) (.cons (.flat (by kernel_rfl)) .nil)))⟩
    clear hF
    have hF := hm11
    clear hm11
    refine TS.start ?_
    cases m7 with
    | true =>
      replace hF := of_pos hF rfl
      refine TS.cdT (.tmp 34) (TS.rg (TI.ra 1 [1, 2, 3, 8] (st 84 [(1, iv p3), (2, iv p4), (3, pt 1 0), (8, iv 1)]) (TI.dn ?_)))
      have hF := Option.some.inj hF
      subst hF
      exact TS.weak (Wk.anew (base := 1) (L := 1) (f := [1]) (by decide) (by decide) (Nat.le_of_ble_eq_true rfl) rfl (.cons (At.acc (by kernel_rfl) rfl (fun _ => rfl)) (.cons (At.blk (by kernel_rfl) (RnB.lit (.cons (.flat (by kernel_rfl)) (.cons (.flat (by kernel_rfl)) (.cons (Rn.slice0 _ _ _ _ (Nat.le_of_ble_eq_true rfl) rfl) .nil))))) (.nil _))) (LRn.stx [1, 2, 3, 8] [iv p3, iv p4, pt 1 0, iv 1] [iv p3, iv p4, pt 1 0, iv 1] (.cons (.flat (by kernel_rfl)) (.cons (.flat (by kernel_rfl)) (.cons (Rn.ptr _ _ _ (Nat.le_of_ble_eq_true rfl) rfl) (.cons (.flat (by kernel_rfl)) .nil)))) (by kernel_rfl) (by kernel_rfl) rfl) rfl rfl) hK
    | false =>
      replace hF := of_neg hF rfl
      refine TS.cdF (.tmp 34) (TS.sk ?_)
      have hF := Option.some.inj hF
      subst hF
      exact TS.weak (Wk.anew (base := 1) (L := 1) (f := [1]) (by decide) (by decide) (Nat.le_of_ble_eq_true rfl) rfl (.cons (At.acc (by kernel_rfl) rfl (fun _ => rfl)) (.cons (At.blk (by kernel_rfl) (RnB.lit (.cons (.flat (by kernel_rfl)) (.cons (.flat (by kernel_rfl)) (.cons (Rn.slice0 _ _ _ _ (Nat.le_of_ble_eq_true rfl) rfl) .nil))))) (.nil _))) (LRn.stx [1, 2, 3, 8] [iv p3, iv p4, pt 1 0, iv r1] [iv p3, iv p4, pt 1 0, iv r1] (.cons (.flat (by kernel_rfl)) (.cons (.flat (by kernel_rfl)) (.cons (Rn.ptr _ _ _ (Nat.le_of_ble_eq_true rfl) rfl) (.cons (.flat (by kernel_rfl)) .nil)))) (by kernel_rfl) (by kernel_rfl) rfl) rfl rfl) hK
  rcases Bool.eq_false_or_eq_true (r1 == 0) with hc3 | hc3
  · replace hm88 := of_pos hm88 hc3
    have hX := of_do hm88
    clear hm88
    obtain ⟨r4, h5, hm88⟩ := hX
    cases r4 with
    | true =>
      replace hm88 := of_pos hm88 rfl
      rcases Bool.eq_false_or_eq_true (decide (p4 > 100000)) with hc6 | hc6
      · replace hm88 := of_pos hm88 hc6
        have hm88 := Option.some.inj hm88
        subst hm88
        refine TS.rg (TI.ra 1 [1, 2, 3, 8, 17] (S43_15 p3 p4 r1) (TI.o { val := .bool true } (q_conv (e := r1 == 0) (b := true) (by kernel_rfl) hc3) [1, 2, 3, 8, 18] [0, 1] (S43_14 p3 p4 r1) (H43_12 p2 p0 p1) (TI.ra 3 [1, 2, 3, 8, 19, 20, 21] (S43_13 p3 p4 r1) (TI.cf (C52 _ _ _ _ h5) (TI.ra 3 [1, 2, 3, 8, 19, 24, 25] (st 84 [(1, iv p3), (2, iv p4), (3, pt 1 0), (8, iv r1), (19, .bool true), (24, .bool false), (25, iv p4)]) (TI.o { val := .bool true } (q_conv (e := decide (p4 > 100000)) (b := true) (by kernel_rfl) hc6) [1, 2, 3, 8, 19, 24, 26] [0, 1] (st 84 [(1, iv p3), (2, iv p4), (3, pt 1 0), (8, iv r1), (19, .bool true), (24, .bool false), (26, .bool true)]) (H43_12 p2 p0 p1) (TI.ra 8 [1, 2, 3, 8, 34] (st 84 [(1, iv p3), (2, iv p4), (3, pt 1 0), (8, iv r1), (34, .bool true)]) (TI.dn ?_))))))))
        exact hK
      · replace hm88 := of_neg hm88 hc6
        have hm88 := Option.some.inj hm88
        subst hm88
        refine TS.rg (TI.ra 1 [1, 2, 3, 8, 17] (S43_15 p3 p4 r1) (TI.o { val := .bool true } (q_conv (e := r1 == 0) (b := true) (by kernel_rfl) hc3) [1, 2, 3, 8, 18] [0, 1] (S43_14 p3 p4 r1) (H43_12 p2 p0 p1) (TI.ra 3 [1, 2, 3, 8, 19, 20, 21] (S43_13 p3 p4 r1) (TI.cf (C52 _ _ _ _ h5) (TI.ra 3 [1, 2, 3, 8, 19, 24, 25] (st 84 [(1, iv p3), (2, iv p4), (3, pt 1 0), (8, iv r1), (19, .bool true), (24, .bool false), (25, iv p4)]) (TI.o { val := .bool false } (q_conv (e := decide (p4 > 100000)) (b := false) (by kernel_rfl) hc6) [1, 2, 3, 8, 19, 24, 26] [0, 1] (st 84 [(1, iv p3), (2, iv p4), (3, pt 1 0), (8, iv r1), (19, .bool true), (24, .bool false), (26, .bool false)]) (H43_12 p2 p0 p1) (TI.ra 8 [1, 2, 3, 8, 34] (st 84 [(1, iv p3), (2, iv p4), (3, pt 1 0), (8, iv r1), (34, .bool (decide ((w64 (p4 - p3)) > 1000)))]) (TI.dn ?_))))))))
        exact hK
    | false =>
      replace hm88 := of_neg hm88 rfl
      have hm88 := Option.some.inj hm88
      subst hm88
      exact TS.rg (TI.ra 1 [1, 2, 3, 8, 17] (S43_15 p3 p4 r1) (TI.o { val := .bool true } (q_conv (e := r1 == 0) (b := true) (by kernel_rfl) hc3) [1, 2, 3, 8, 18] [0, 1] (S43_14 p3 p4 r1) (H43_12 p2 p0 p1) (TI.ra 3 [1, 2, 3, 8, 19, 20, 21] (S43_13 p3 p4 r1) (TI.cf (C52 _ _ _ _ h5) (TI.ra 12 [1, 2, 3, 8, 34] (st 84 [(1, iv p3), (2, iv p4), (3, pt 1 0), (8, iv r1), (34, .bool true)]) (TI.dn hK))))))
  · replace hm88 := of_neg hm88 hc3
    have hm88 := Option.some.inj hm88
    subst hm88
    exact TS.rg (TI.ra 1 [1, 2, 3, 8, 17] (S43_15 p3 p4 r1) (TI.o { val := .bool false } (q_conv (e := r1 == 0) (b := false) (by kernel_rfl) hc3) [1, 2, 3, 8, 18] [0, 1] (st 84 [(1, iv p3), (2, iv p4), (3, pt 1 0), (8, iv r1), (18, .bool false)]) (H43_12 p2 p0 p1) (TI.ra 16 [1, 2, 3, 8, 34] (st 84 [(1, iv p3), (2, iv p4), (3, pt 1 0), (8, iv r1), (34, .bool false)]) (TI.dn hK))))
theorem C43 (p0 : Int) (p1 : Int) (p2 : (List (Int × Int))) (p3 : Int) (p4 : Int) (r : ((List (Int × Int)) × Int)) (hF : F43 p0 p1 p2 p3 p4 = some r) : PureSim Try.prog 43 [ag [iv p0, iv p1, .slice (some ⟨0, 0, none⟩) (List.length p2) ANY], iv p3, iv p4] [accB 72 (List.length p2) (List.flatMap e72 p2)] (V43 1 r) (N43 1 r) :=
  PureSim.of_Fin Try.func43 (c := c43) (by kernel_rfl) (by kernel_rfl) 1 rfl [0, 1, 2] [0] (by kernel_rfl) (B43 p0 p1 p2 p3 p4 r hF)

-- agonic/agoniclaw04.WaveValues
noncomputable def c12 : Code := Try.f12.code
def H12_0 (p2 : (List (Int × Int))) (r10 : ((List (Int × Int)) × Int)) (r12 : ((List (Int × Int)) × Int)) : List Blk := [accB 57 (List.length p2) (List.flatMap e57 p2), .dead, .dead, .dead, accB 57 (List.length r10.1) (List.flatMap e57 r10.1), accB 72 (List.length r12.1) (List.flatMap e72 r12.1)]
def S12_1 (r6 : (Int × Int)) (r8 : (Int × Int)) (r10 : ((List (Int × Int)) × Int)) (r12 : ((List (Int × Int)) × Int)) : CAct := (st 88 [(11, iv r6.2), (13, iv r8.2), (14, accV 4 (List.length r10.1)), (15, iv r10.2), (16, accV 5 (List.length r12.1)), (17, iv r12.2), (52, iv r6.1), (53, iv r8.1)])
def S12_2 (r6 : (Int × Int)) (r8 : (Int × Int)) (r10 : ((List (Int × Int)) × Int)) (r12 : ((List (Int × Int)) × Int)) : CAct := (st 88 [(11, iv r6.2), (13, iv r8.2), (14, accV 4 (List.length r10.1)), (15, iv r10.2), (16, accV 5 (List.length r12.1)), (17, iv r12.2), (54, .bool false)])
def S12_3 (r10 : ((List (Int × Int)) × Int)) (r12 : ((List (Int × Int)) × Int)) (r6 : (Int × Int)) (r8 : (Int × Int)) : CAct := (st 88 [(14, accV 4 (List.length r10.1)), (15, iv r10.2), (16, accV 5 (List.length r12.1)), (17, iv r12.2), (55, .bool false), (56, iv r6.2), (57, iv r8.2)])
def H12_4 (p2 : (List (Int × Int))) (r10 : ((List (Int × Int)) × Int)) (r12 : ((List (Int × Int)) × Int)) : List Blk := [accB 57 (List.length p2) (List.flatMap e57 p2), accB 57 (List.length r10.1) (List.flatMap e57 r10.1), accB 72 (List.length r12.1) (List.flatMap e72 r12.1)]
def S12_5 (r10 : ((List (Int × Int)) × Int)) (r12 : ((List (Int × Int)) × Int)) : CAct := (st 88 [(14, accV 4 (List.length r10.1)), (16, accV 5 (List.length r12.1)), (71, .bool true)])
def F12l0 (p2 : (List (Int × Int))) (r10 : ((List (Int × Int)) × Int)) (r12 : ((List (Int × Int)) × Int)) (v26 : Int) : Option (Unit ⊕ Unit) :=
    if decide (v26 < (List.length r10.1 : Int)) then
      if (0 : Int) ≤ v26 ∧ v26 < (List.length r10.1 : Int) then
        some (List.getD r10.1 (Int.toNat v26) (0, 0)) >>= fun o37 =>
        if (0 : Int) ≤ v26 ∧ v26 < (List.length r12.1 : Int) then
          some (List.getD r12.1 (Int.toNat v26) (0, 0)) >>= fun o40 =>
          if !((o37.1 == o40.1) && ((o37.2 == o40.2) && true)) then
            some (.inl ())
          else
            F12l0 p2 r10 r12 (w64 (v26 + 1))
        else none
      else none
    else
      some (.inr ())
  partial_fixpoint
def F12 (p0 : Int) (p1 : Int) (p2 : (List (Int × Int))) (p3 : Int) (p4 : Int) (p5 : Int) : Option Bool :=
  if decide ((List.length p2 : Int) > 80) then
    F14 >>= fun r2 =>
    some r2
  else
    F15 p0 p1 p2 >>= fun r4 =>
    F37 p0 p1 p2 p3 >>= fun r6 =>
    F41 r4.1 r4.2.1 r4.2.2 p3 >>= fun r8 =>
    F42 p0 p1 p2 p4 p5 >>= fun r10 =>
    F43 r4.1 r4.2.1 r4.2.2 p4 p5 >>= fun r12 =>
    (
      if r6.1 != r8.1 then
        some (true)
      else
        if r6.2 != r8.2 then
          some (true)
        else
          if r10.2 != r12.2 then
            some (true)
          else
            some ((List.length r10.1 : Int) != (List.length r12.1 : Int))
    : Option Bool) >>= fun m17 =>
    if m17 then
      some false
    else
      F12l0 p2 r10 r12 0 >>= fun r43 =>
      match r43 with
      | .inl o45 =>
        some false
      | .inr o46 =>
        F14 >>= fun r47 =>
        some r47
def V12 (b : Nat) (r : Bool) : Value := .bool r
def N12 (b : Nat) (r : Bool) : List Blk := []
def P12l0 (p2 : (List (Int × Int))) (r10 : ((List (Int × Int)) × Int)) (r12 : ((List (Int × Int)) × Int)) (r : (Unit ⊕ Unit)) : Post := fun e a h => (match r with | .inl q0 => e = .ret ∧ Wk Try.prog 1 1 a h (st 88 [(8, .bool false)]) [accB 57 (List.length p2) (List.flatMap e57 p2)] | .inr q0 => e = .exit 0 ∧ Wk Try.prog 1 1 a h (st 88 []) [accB 57 (List.length p2) (List.flatMap e57 p2)])
theorem L12l0 (p2 : (List (Int × Int))) (r10 : ((List (Int × Int)) × Int)) (r12 : ((List (Int × Int)) × Int)) (v26 : Int) (r : (Unit ⊕ Unit)) (hF : F12l0 p2 r10 r12 v26 = some r) : TL Try.prog 1 1 c12.s2.s2.s2.s2.s2.s2.s2.s2.s1.s2.bd.bd (st 88 [(14, accV 1 (List.length r10.1)), (16, accV 2 (List.length r12.1)), (18, iv v26)]) (H12_4 p2 r10 r12) (P12l0 p2 r10 r12 r) := by
  refine F12l0.partial_correctness p2 r10 r12 (motive := fun v26 r => TL Try.prog 1 1 c12.s2.s2.s2.s2.s2.s2.s2.s2.s1.s2.bd.bd (st 88 [(14, accV 1 (List.length r10.1)), (16, accV 2 (List.length r12.1)), (18, iv v26)]) (H12_4 p2 r10 r12) (P12l0 p2 r10 r12 r)) ?_ v26 r hF
  clear hF r v26
  intro again ih v26 r hF
  refine TL.round (TS.sq (TS.sq (TS.rg (TI.ra 4 [14, 16, 18, 75] (st 88 [(14, accV 1 (List.length r10.1)), (16, accV 2 (List.length r12.1)), (18, iv v26), (75, .bool (decide (v26 < (List.length r10.1 : Int))))]) (TI.dn (NX.sq ?_))))))
  refine TS.cd (.tmp 75) (decide (v26 < (List.length r10.1 : Int))) (fun hc35 => ?_) (fun hc35 => ?_)
  · replace hF := of_pos hF hc35
    refine TS.sk (NX.sq (TS.sq (TS.bk 1 (TS.sq ?_))))
    have hX := of_guard hF
    clear hF
    obtain ⟨hg36, hF⟩ := hX
    have hX := of_do hF
    clear hF
    obtain ⟨o37, h38, hF⟩ := hX
    replace h38 := Option.some.inj h38
    have hX := of_guard hF
    clear hF
    obtain ⟨hg39, hF⟩ := hX
    have hX := of_do hF
    clear hF
    obtain ⟨o40, h41, hF⟩ := hX
    replace h41 := Option.some.inj h41
    refine TS.dp [] (fun e he => by cases he) mixed 8 [14, 16, 18, 86] [0, 1, 2] (st 88 [(14, accV 1 (List.length r10.1)), (16, accV 2 (List.length r12.1)), (18, iv v26), (86, .bool (!((o37.1 == o40.1) && ((o37.2 == o40.2) && true))))]) (H12_4 p2 r10 r12) ?_ ?_
    · refine QJ.rn (qs (st 88 [(14, accV 1 (List.length r10.1)), (16, accV 2 (List.length r12.1)), (18, iv v26), (75, .bool (decide (v26 < (List.length r10.1 : Int)))), (78, accV 1 (List.length r10.1)), (79, iv v26)]) (H12_4 p2 r10 r12) [] []) 2 (QJ.o { val := .pointer (some ⟨1, 0 + (Int.toNat v26) * 2, none⟩) } (q_ixAcc (P := Try.prog) (t := 22) (s := 2) (e := 57) 1 (List.length r10.1) (by kernel_rfl) hg36 (by kernel_rfl) (by kernel_rfl)) ?_)
      refine QJ.o { val := ag [iv o37.1, iv o37.2] } (q_eqv (q_ldA (P := Try.prog) (hp := (H12_4 p2 r10 r12)) (t := 57) (b := 1) (off := 0 + (Int.toNat v26) * 2) (l := r10.1) (enc := e57) (s := 2) (T := 57) (i := Int.toNat v26) (by kernel_rfl) (accB_at (h := (H12_4 p2 r10 r12)) (n := List.length r10.1) (i := Int.toNat v26) (by kernel_rfl) (by first | omega | (simp only [List.length_set, List.length_replicate, List.length_cons, List.length_nil, List.length_append]; omega))) (by kernel_rfl) (by kernel_rfl) (fun _ => rfl) (by omega) (by first | omega | (simp only [List.length_set, List.length_replicate, List.length_cons, List.length_nil, List.length_append]; omega)) (0, 0)) (congrArg (fun (z : (Int × Int)) => ({ val := ag [iv z.1, iv z.2] } : QRes)) h38)) (QJ.rn (qs (st 88 [(14, accV 1 (List.length r10.1)), (16, accV 2 (List.length r12.1)), (18, iv v26), (75, .bool (decide (v26 < (List.length r10.1 : Int)))), (78, accV 1 (List.length r10.1)), (79, iv v26), (80, .pointer (some ⟨1, 0 + (Int.toNat v26) * 2, none⟩)), (81, ag [iv o37.1, iv o37.2]), (82, accV 2 (List.length r12.1)), (83, iv v26)]) (H12_4 p2 r10 r12) [] []) 2 (QJ.o { val := .pointer (some ⟨2, 0 + (Int.toNat v26) * 2, none⟩) } (q_ixAcc (P := Try.prog) (t := 26) (s := 2) (e := 72) 2 (List.length r12.1) (by kernel_rfl) hg39 (by kernel_rfl) (by kernel_rfl)) ?_))
      exact QJ.o { val := ag [iv o40.1, iv o40.2] } (q_eqv (q_ldA (P := Try.prog) (hp := (H12_4 p2 r10 r12)) (t := 72) (b := 2) (off := 0 + (Int.toNat v26) * 2) (l := r12.1) (enc := e72) (s := 2) (T := 72) (i := Int.toNat v26) (by kernel_rfl) (accB_at (h := (H12_4 p2 r10 r12)) (n := List.length r12.1) (i := Int.toNat v26) (by kernel_rfl) (by first | omega | (simp only [List.length_set, List.length_replicate, List.length_cons, List.length_nil, List.length_append]; omega))) (by kernel_rfl) (by kernel_rfl) (fun _ => rfl) (by omega) (by first | omega | (simp only [List.length_set, List.length_replicate, List.length_cons, List.length_nil, List.length_append]; omega)) (0, 0)) (congrArg (fun (z : (Int × Int)) => ({ val := ag [iv z.1, iv z.2] } : QRes)) h41)) (QJ.dn ⟨rfl, SJ.la⟩)
    refine TS.cd (.tmp 86) (!((o37.1 == o40.1) && ((o37.2 == o40.2) && true))) (fun hc42 => ?_) (fun hc42 => ?_)
    · replace hF := of_pos hF hc42
      refine TS.sq (TS.rg (TI.rn 1 [8] [0] (st 88 [(8, .bool false)]) [accB 57 (List.length p2) (List.flatMap e57 p2), .dead, .dead] (TI.dn (NX.sq (TS.rt (NX.bkR (NX.sqR ?_)))))))
      have hF := Option.some.inj hF
      subst hF
      exact Rd.out (e := .ret) (by intro h; cases h) (And.intro rfl (Wk.anew (base := 1) (L := 1) (f := []) (by decide) (by decide) (Nat.le_of_ble_eq_true rfl) rfl (.cons (At.acc (by kernel_rfl) rfl (fun _ => rfl)) (.nil _)) (LRn.stx [8] [.bool false] [.bool false] (.cons (.flat (by kernel_rfl)) .nil) (by kernel_rfl) (by kernel_rfl) rfl) rfl rfl))
    · replace hF := of_neg hF hc42
      refine TS.sk (NX.bk (NX.sq (TS.rg (TI.ra 3 [14, 16, 18] (st 88 [(14, accV 1 (List.length r10.1)), (16, accV 2 (List.length r12.1)), (18, iv (w64 (v26 + 1)))]) (TI.dn ?_)))))
      exact Rd.again (a2 := (st 88 [(14, accV 1 (List.length r10.1)), (16, accV 2 (List.length r12.1)), (18, iv (w64 (v26 + 1)))])) (h2 := (H12_4 p2 r10 r12)) (Wk.anew (base := 1) (L := 1) (f := [1, 2]) (by decide) (by decide) (Nat.le_of_ble_eq_true rfl) rfl (.cons (At.acc (by kernel_rfl) rfl (fun _ => rfl)) (.cons (At.acc (by kernel_rfl) rfl (fun _ => rfl)) (.cons (At.acc (by kernel_rfl) rfl (fun _ => rfl)) (.nil _)))) (LRn.stx [14, 16, 18] [accV 1 (List.length r10.1), accV 2 (List.length r12.1), iv (w64 (v26 + 1))] [accV 1 (List.length r10.1), accV 2 (List.length r12.1), iv (w64 (v26 + 1))] (.cons (Rn.acc (Nat.le_of_ble_eq_true rfl) rfl) (.cons (Rn.acc (Nat.le_of_ble_eq_true rfl) rfl) (.cons (.flat (by kernel_rfl)) .nil))) (by kernel_rfl) (by kernel_rfl) rfl) rfl rfl) (ih (w64 (v26 + 1)) _ hF)
  · replace hF := of_neg hF hc35
    refine TS.ex 0 (NX.sqX ?_)
    have hF := Option.some.inj hF
    subst hF
    exact Rd.out (e := .exit 0) (by intro h; cases h) (And.intro rfl (Wk.anew (base := 1) (L := 1) (f := []) (by decide) (by decide) (Nat.le_of_ble_eq_true rfl) rfl (.cons (At.acc (by kernel_rfl) rfl (fun _ => rfl)) (.nil _)) (LRn.stx [] [] [] .nil (by kernel_rfl) (by kernel_rfl) rfl) rfl rfl))
theorem B12 (p0 : Int) (p1 : Int) (p2 : (List (Int × Int))) (p3 : Int) (p4 : Int) (p5 : Int) (r : Bool) (hF : F12 p0 p1 p2 p3 p4 p5 = some r) : TS Try.prog 1 1 c12 (st 88 [(0, ag [iv p0, iv p1, .slice (some ⟨0, 0, none⟩) (List.length p2) ANY]), (1, iv p3), (2, iv p4), (3, iv p5)]) [accB 57 (List.length p2) (List.flatMap e57 p2)] (NX Try.prog 1 1 [] (FinP Try.prog Try.f12 1 (V12 1 r) (N12 1 r))) := by
  unfold F12 at hF
  refine TS.sq (TS.rg (TI.rn 2 [1, 2, 3, 4] [0, 1] (st 88 [(1, iv p3), (2, iv p4), (3, iv p5), (4, pt 1 0)]) [accB 57 (List.length p2) (List.flatMap e57 p2), cl 24 [iv p0, iv p1, .slice (some ⟨0, 0, none⟩) (List.length p2) ANY]] (TI.dn (NX.sq (TS.sq (TS.sq (TS.rg (TI.ra 4 [1, 2, 3, 4, 22] (st 88 [(1, iv p3), (2, iv p4), (3, iv p5), (4, pt 1 0), (22, .bool (decide ((List.length p2 : Int) > 80)))]) ?_))))))))
  refine TI.dn (NX.sq ?_)
  refine TS.cd (.tmp 22) (decide ((List.length p2 : Int) > 80)) (fun hc1 => ?_) (fun hc1 => ?_)
  · replace hF := of_pos hF hc1
    refine TS.sq ?_
    have hX := of_do hF
    clear hF
    obtain ⟨r2, h3, hF⟩ := hX
    refine TS.rg (TI.cf (C14 _ h3) (TI.rn 1 [8] [0] (st 88 [(8, .bool r2)]) [accB 57 (List.length p2) (List.flatMap e57 p2), .dead] (TI.dn (NX.sq (TS.rt (NX.sqR ?_))))))
    have hF := Option.some.inj hF
    subst hF
    exact ⟨.inr rfl, rfl, .bool r2, by kernel_rfl, WkV.flat0 (by kernel_rfl) (Nat.le_of_ble_eq_true rfl)⟩
  · replace hF := of_neg hF hc1
    refine TS.sk (NX.sq (TS.sq ?_))
    have hX := of_do hF
    clear hF
    obtain ⟨r4, h5, hF⟩ := hX
    refine TS.rg (TI.ra 1 [1, 2, 3, 4, 24] (st 88 [(1, iv p3), (2, iv p4), (3, iv p5), (4, pt 1 0), (24, ag [iv p0, iv p1, .slice (some ⟨0, 0, none⟩) (List.length p2) ANY])]) (TI.cp 15 [ag [iv p0, iv p1, .slice (some ⟨0, 0, none⟩) (List.length p2) ANY]] (ag [iv r4.1, iv r4.2.1, accV 2 (List.length r4.2.2)]) [accB 72 (List.length r4.2.2) (List.flatMap e72 r4.2.2)] (PureSim.ren (hc := [accB 57 (List.length p2) (List.flatMap e57 p2)]) (fun i => List.getD [(0, 0)] i (0, 0)) (C15 _ _ _ _ h5) (.cons (At.acc (by kernel_rfl) rfl (fun _ => rfl)) (.nil _)) (.cons (Rn.agg' (.cons (.flat (by kernel_rfl)) (.cons (.flat (by kernel_rfl)) (.cons (Rn.any _ _ _ _ _ _ (Nat.le_of_ble_eq_true rfl) rfl rfl (by decide)) .nil)))) .nil) (Rn.agg' (.cons (.flat (by kernel_rfl)) (.cons (.flat (by kernel_rfl)) (.cons (Rn.acc (i' := 2) (Nat.le_of_ble_eq_true rfl) rfl) .nil)))) (newflat_cons (accB_flat (fun _ => rfl)) newflat_nil)) (TI.rn 2 [1, 2, 3, 4, 9] [0, 1, 2, 3] (st 88 [(1, iv p3), (2, iv p4), (3, iv p5), (4, pt 1 0), (9, pt 3 0)]) [accB 57 (List.length p2) (List.flatMap e57 p2), cl 24 [iv p0, iv p1, .slice (some ⟨0, 0, none⟩) (List.length p2) ANY], accB 72 (List.length r4.2.2) (List.flatMap e72 r4.2.2), cl 28 [iv r4.1, iv r4.2.1, accV 2 (List.length r4.2.2)]] (TI.dn (NX.sq (TS.sq ?_))))))
    have hX := of_do hF
    clear hF
    obtain ⟨r6, h7, hF⟩ := hX
    refine TS.rg (TI.ra 2 [1, 2, 3, 4, 9, 27, 28] (st 88 [(1, iv p3), (2, iv p4), (3, iv p5), (4, pt 1 0), (9, pt 3 0), (27, ag [iv p0, iv p1, .slice (some ⟨0, 0, none⟩) (List.length p2) ANY]), (28, iv p3)]) (TI.cp 37 [ag [iv p0, iv p1, .slice (some ⟨0, 0, none⟩) (List.length p2) ANY], iv p3] (.tuple ⟨[iv r6.1, iv r6.2]⟩) [] (PureSim.ren (hc := [accB 57 (List.length p2) (List.flatMap e57 p2)]) (fun i => List.getD [(0, 0)] i (0, 0)) (C37 _ _ _ _ _ h7) (.cons (At.acc (by kernel_rfl) rfl (fun _ => rfl)) (.nil _)) (.cons (Rn.agg' (.cons (.flat (by kernel_rfl)) (.cons (.flat (by kernel_rfl)) (.cons (Rn.any _ _ _ _ _ _ (Nat.le_of_ble_eq_true rfl) rfl rfl (by decide)) .nil)))) (.cons (.flat (by kernel_rfl)) .nil)) (.flat (by kernel_rfl)) newflat_nil) (TI.ra 5 [1, 2, 3, 4, 9, 10, 11] (st 88 [(1, iv p3), (2, iv p4), (3, iv p5), (4, pt 1 0), (9, pt 3 0), (10, iv r6.1), (11, iv r6.2)]) (TI.dn (NX.sq (TS.sq ?_))))))
    have hX := of_do hF
    clear hF
    obtain ⟨r8, h9, hF⟩ := hX
    refine TS.rg (TI.ra 2 [2, 3, 4, 9, 10, 11, 33, 34] (st 88 [(2, iv p4), (3, iv p5), (4, pt 1 0), (9, pt 3 0), (10, iv r6.1), (11, iv r6.2), (33, ag [iv r4.1, iv r4.2.1, accV 2 (List.length r4.2.2)]), (34, iv p3)]) (TI.cp 41 [ag [iv r4.1, iv r4.2.1, accV 2 (List.length r4.2.2)], iv p3] (.tuple ⟨[iv r8.1, iv r8.2]⟩) [] (PureSim.ren (hc := [accB 72 (List.length r4.2.2) (List.flatMap e72 r4.2.2)]) (fun i => List.getD [(2, 0)] i (0, 0)) (C41 _ _ _ _ _ h9) (.cons (At.acc (by kernel_rfl) rfl (fun _ => rfl)) (.nil _)) (.cons (Rn.agg' (.cons (.flat (by kernel_rfl)) (.cons (.flat (by kernel_rfl)) (.cons (Rn.accA (i' := 2) (Nat.le_of_ble_eq_true rfl) rfl) .nil)))) (.cons (.flat (by kernel_rfl)) .nil)) (.flat (by kernel_rfl)) newflat_nil) (TI.ra 5 [2, 3, 4, 9, 10, 11, 12, 13] (st 88 [(2, iv p4), (3, iv p5), (4, pt 1 0), (9, pt 3 0), (10, iv r6.1), (11, iv r6.2), (12, iv r8.1), (13, iv r8.2)]) (TI.dn (NX.sq (TS.sq ?_))))))
    have hX := of_do hF
    clear hF
    obtain ⟨r10, h11, hF⟩ := hX
    refine TS.rg (TI.rn 3 [2, 3, 9, 10, 11, 12, 13, 39, 40, 41] [0, 2, 3] (st 88 [(2, iv p4), (3, iv p5), (9, pt 3 0), (10, iv r6.1), (11, iv r6.2), (12, iv r8.1), (13, iv r8.2), (39, ag [iv p0, iv p1, .slice (some ⟨0, 0, none⟩) (List.length p2) ANY]), (40, iv p4), (41, iv p5)]) [accB 57 (List.length p2) (List.flatMap e57 p2), .dead, accB 72 (List.length r4.2.2) (List.flatMap e72 r4.2.2), cl 28 [iv r4.1, iv r4.2.1, accV 2 (List.length r4.2.2)]] (TI.cp 42 [ag [iv p0, iv p1, .slice (some ⟨0, 0, none⟩) (List.length p2) ANY], iv p4, iv p5] (.tuple ⟨[accV 4 (List.length r10.1), iv r10.2]⟩) [accB 57 (List.length r10.1) (List.flatMap e57 r10.1)] (PureSim.ren (hc := [accB 57 (List.length p2) (List.flatMap e57 p2)]) (fun i => List.getD [(0, 0)] i (0, 0)) (C42 _ _ _ _ _ _ h11) (.cons (At.acc (by kernel_rfl) rfl (fun _ => rfl)) (.nil _)) (.cons (Rn.agg' (.cons (.flat (by kernel_rfl)) (.cons (.flat (by kernel_rfl)) (.cons (Rn.any _ _ _ _ _ _ (Nat.le_of_ble_eq_true rfl) rfl rfl (by decide)) .nil)))) (.cons (.flat (by kernel_rfl)) (.cons (.flat (by kernel_rfl)) .nil))) (Rn.tuple' (.cons (Rn.acc (i' := 4) (Nat.le_of_ble_eq_true rfl) rfl) (.cons (.flat (by kernel_rfl)) .nil))) (newflat_cons (accB_flat (fun _ => rfl)) newflat_nil)) (TI.rn 5 [2, 3, 9, 10, 11, 12, 13, 14, 15] [0, 2, 3, 4] (st 88 [(2, iv p4), (3, iv p5), (9, pt 3 0), (10, iv r6.1), (11, iv r6.2), (12, iv r8.1), (13, iv r8.2), (14, accV 4 (List.length r10.1)), (15, iv r10.2)]) [accB 57 (List.length p2) (List.flatMap e57 p2), .dead, accB 72 (List.length r4.2.2) (List.flatMap e72 r4.2.2), cl 28 [iv r4.1, iv r4.2.1, accV 2 (List.length r4.2.2)], accB 57 (List.length r10.1) (List.flatMap e57 r10.1)] (TI.dn (NX.sq (TS.sq ?_))))))
    have hX := of_do hF
    clear hF
    obtain ⟨r12, h13, hF⟩ := hX
    refine TS.rg (TI.rn 3 [10, 11, 12, 13, 14, 15, 46, 47, 48] [0, 2, 4] (st 88 [(10, iv r6.1), (11, iv r6.2), (12, iv r8.1), (13, iv r8.2), (14, accV 4 (List.length r10.1)), (15, iv r10.2), (46, ag [iv r4.1, iv r4.2.1, accV 2 (List.length r4.2.2)]), (47, iv p4), (48, iv p5)]) [accB 57 (List.length p2) (List.flatMap e57 p2), .dead, accB 72 (List.length r4.2.2) (List.flatMap e72 r4.2.2), .dead, accB 57 (List.length r10.1) (List.flatMap e57 r10.1)] (TI.cp 43 [ag [iv r4.1, iv r4.2.1, accV 2 (List.length r4.2.2)], iv p4, iv p5] (.tuple ⟨[accV 5 (List.length r12.1), iv r12.2]⟩) [accB 72 (List.length r12.1) (List.flatMap e72 r12.1)] (PureSim.ren (hc := [accB 72 (List.length r4.2.2) (List.flatMap e72 r4.2.2)]) (fun i => List.getD [(2, 0)] i (0, 0)) (C43 _ _ _ _ _ _ h13) (.cons (At.acc (by kernel_rfl) rfl (fun _ => rfl)) (.nil _)) (.cons (Rn.agg' (.cons (.flat (by kernel_rfl)) (.cons (.flat (by kernel_rfl)) (.cons (Rn.accA (i' := 2) (Nat.le_of_ble_eq_true rfl) rfl) .nil)))) (.cons (.flat (by kernel_rfl)) (.cons (.flat (by kernel_rfl)) .nil))) (Rn.tuple' (.cons (Rn.acc (i' := 5) (Nat.le_of_ble_eq_true rfl) rfl) (.cons (.flat (by kernel_rfl)) .nil))) (newflat_cons (accB_flat (fun _ => rfl)) newflat_nil)) (TI.rn 5 [10, 11, 12, 13, 14, 15, 16, 17] [0, 4, 5] (st 88 [(10, iv r6.1), (11, iv r6.2), (12, iv r8.1), (13, iv r8.2), (14, accV 4 (List.length r10.1)), (15, iv r10.2), (16, accV 5 (List.length r12.1)), (17, iv r12.2)]) (H12_0 p2 r10 r12) (TI.dn (NX.sq (TS.sq (TS.sq ?_)))))))
    have hX := of_do hF
    clear hF
    obtain ⟨m17, hm49, hF⟩ := hX
    have hK : NX Try.prog 1 1 [.sq c12.s2.s2.s2.s2.s2.s2.s2.s1.s2, .sq c12.s2.s2.s2.s2.s2.s2.s2.s2] (FinP Try.prog Try.f12 1 (V12 1 r) (N12 1 r)) .normal (st 88 [(14, accV 4 (List.length r10.1)), (16, accV 5 (List.length r12.1)), (71, .bool m17)]) (H12_0 p2 r10 r12) := by
      refine NX.sq ?_
      cases m17 with
      | true =>
        replace hF := of_pos hF rfl
        refine TS.cdT (.tmp 71) (TS.sq (TS.rg (TI.rn 1 [8] [0] (st 88 [(8, .bool false)]) [accB 57 (List.length p2) (List.flatMap e57 p2), .dead, .dead, .dead, .dead, .dead] (TI.dn (NX.sq (TS.rt (NX.sqR ?_)))))))
        have hF := Option.some.inj hF
        subst hF
        exact ⟨.inr rfl, rfl, .bool false, by kernel_rfl, WkV.flat0 (by kernel_rfl) (Nat.le_of_ble_eq_true rfl)⟩
      | false =>
        replace hF := of_neg hF rfl
        refine TS.cdF (.tmp 71) (TS.sk (NX.sq (TS.sq (TS.sq (TS.rg (TI.ra 1 [14, 16, 18] (st 88 [(14, accV 4 (List.length r10.1)), (16, accV 5 (List.length r12.1)), (18, iv 0)]) (TI.dn (NX.sq ?_))))))))
        refine TS.bk 0 ?_
        have hX := of_do hF
        clear hF
        obtain ⟨r43, h44, hF⟩ := hX
        refine TS.lp (TL.weak (a2 := (st 88 [(14, accV 1 (List.length r10.1)), (16, accV 2 (List.length r12.1)), (18, iv 0)])) (h2 := (H12_4 p2 r10 r12)) (Wk.anew (base := 1) (L := 1) (f := [4, 5]) (by decide) (by decide) (Nat.le_of_ble_eq_true rfl) rfl (.cons (At.acc (by kernel_rfl) rfl (fun _ => rfl)) (.cons (At.acc (by kernel_rfl) rfl (fun _ => rfl)) (.cons (At.acc (by kernel_rfl) rfl (fun _ => rfl)) (.nil _)))) (LRn.stx [14, 16, 18] [accV 1 (List.length r10.1), accV 2 (List.length r12.1), iv 0] [accV 4 (List.length r10.1), accV 5 (List.length r12.1), iv 0] (.cons (Rn.acc (Nat.le_of_ble_eq_true rfl) rfl) (.cons (Rn.acc (Nat.le_of_ble_eq_true rfl) rfl) (.cons (.flat (by kernel_rfl)) .nil))) (by kernel_rfl) (by kernel_rfl) rfl) rfl rfl) (TL.post (L12l0 p2 r10 r12 0 r43 h44) ?_))
        rintro e a1 h1 hp
        rcases r43 with o45 | o46
        · skip
          obtain ⟨rfl, hw⟩ := hp
          refine ⟨(st 88 [(8, .bool false)]), [accB 57 (List.length p2) (List.flatMap e57 p2)], (NX.bkR (NX.sqR ?_)), hw⟩
          have hF := Option.some.inj hF
          subst hF
          exact ⟨.inr rfl, rfl, .bool false, by kernel_rfl, WkV.flat0 (by kernel_rfl) (Nat.le_of_ble_eq_true rfl)⟩
        · skip
          obtain ⟨rfl, hw⟩ := hp
          refine ⟨(st 88 []), [accB 57 (List.length p2) (List.flatMap e57 p2)], (NX.bkX (NX.sq (TS.sq ?_))), hw⟩
          have hX := of_do hF
          clear hF
          obtain ⟨r47, h48, hF⟩ := hX
          refine TS.rg (TI.cf (C14 _ h48) (TI.ra 1 [8] (st 88 [(8, .bool r47)]) (TI.dn (NX.sq (TS.rt ?_)))))
          have hF := Option.some.inj hF
          subst hF
          exact ⟨.inr rfl, rfl, .bool r47, by kernel_rfl, WkV.flat0 (by kernel_rfl) (Nat.le_of_ble_eq_true rfl)⟩
    rcases Bool.eq_false_or_eq_true (r6.1 != r8.1) with hc14 | hc14
    · replace hm49 := of_pos hm49 hc14
      have hm49 := Option.some.inj hm49
      subst hm49
      exact TS.rg (TI.ra 2 [11, 13, 14, 15, 16, 17, 52, 53] (S12_1 r6 r8 r10 r12) (TI.o { val := .bool true } (q_conv (e := r6.1 != r8.1) (b := true) (by kernel_rfl) hc14) [11, 13, 14, 15, 16, 17, 54] [0, 4, 5] (st 88 [(11, iv r6.2), (13, iv r8.2), (14, accV 4 (List.length r10.1)), (15, iv r10.2), (16, accV 5 (List.length r12.1)), (17, iv r12.2), (54, .bool true)]) (H12_0 p2 r10 r12) (TI.ra 17 [14, 16, 71] (S12_5 r10 r12) (TI.dn hK))))
    · replace hm49 := of_neg hm49 hc14
      rcases Bool.eq_false_or_eq_true (r6.2 != r8.2) with hc15 | hc15
      · replace hm49 := of_pos hm49 hc15
        have hm49 := Option.some.inj hm49
        subst hm49
        exact TS.rg (TI.ra 2 [11, 13, 14, 15, 16, 17, 52, 53] (S12_1 r6 r8 r10 r12) (TI.o { val := .bool false } (q_conv (e := r6.1 != r8.1) (b := false) (by kernel_rfl) hc14) [11, 13, 14, 15, 16, 17, 54] [0, 4, 5] (S12_2 r6 r8 r10 r12) (H12_0 p2 r10 r12) (TI.ra 3 [14, 15, 16, 17, 55, 56, 57] (S12_3 r10 r12 r6 r8) (TI.o { val := .bool true } (q_conv (e := r6.2 != r8.2) (b := true) (by kernel_rfl) hc15) [14, 15, 16, 17, 55, 58] [0, 4, 5] (st 88 [(14, accV 4 (List.length r10.1)), (15, iv r10.2), (16, accV 5 (List.length r12.1)), (17, iv r12.2), (55, .bool false), (58, .bool true)]) (H12_0 p2 r10 r12) (TI.ra 13 [14, 16, 71] (S12_5 r10 r12) (TI.dn hK))))))
      · replace hm49 := of_neg hm49 hc15
        rcases Bool.eq_false_or_eq_true (r10.2 != r12.2) with hc16 | hc16
        · replace hm49 := of_pos hm49 hc16
          have hm49 := Option.some.inj hm49
          subst hm49
          refine TS.rg (TI.ra 2 [11, 13, 14, 15, 16, 17, 52, 53] (S12_1 r6 r8 r10 r12) (TI.o { val := .bool false } (q_conv (e := r6.1 != r8.1) (b := false) (by kernel_rfl) hc14) [11, 13, 14, 15, 16, 17, 54] [0, 4, 5] (S12_2 r6 r8 r10 r12) (H12_0 p2 r10 r12) (TI.ra 3 [14, 15, 16, 17, 55, 56, 57] (S12_3 r10 r12 r6 r8) (TI.o { val := .bool false } (q_conv (e := r6.2 != r8.2) (b := false) (by kernel_rfl) hc15) [14, 15, 16, 17, 55, 58] [0, 4, 5] (st 88 [(14, accV 4 (List.length r10.1)), (15, iv r10.2), (16, accV 5 (List.length r12.1)), (17, iv r12.2), (55, .bool false), (58, .bool false)]) (H12_0 p2 r10 r12) (TI.ra 4 [14, 16, 60, 61, 62] (st 88 [(14, accV 4 (List.length r10.1)), (16, accV 5 (List.length r12.1)), (60, .bool false), (61, iv r10.2), (62, iv r12.2)]) (TI.o { val := .bool true } (q_conv (e := r10.2 != r12.2) (b := true) (by kernel_rfl) hc16) [14, 16, 60, 63] [0, 4, 5] (st 88 [(14, accV 4 (List.length r10.1)), (16, accV 5 (List.length r12.1)), (60, .bool false), (63, .bool true)]) (H12_0 p2 r10 r12) (TI.ra 8 [14, 16, 71] (S12_5 r10 r12) (TI.dn ?_))))))))
          exact hK
        · replace hm49 := of_neg hm49 hc16
          have hm49 := Option.some.inj hm49
          subst hm49
          refine TS.rg (TI.ra 2 [11, 13, 14, 15, 16, 17, 52, 53] (S12_1 r6 r8 r10 r12) (TI.o { val := .bool false } (q_conv (e := r6.1 != r8.1) (b := false) (by kernel_rfl) hc14) [11, 13, 14, 15, 16, 17, 54] [0, 4, 5] (S12_2 r6 r8 r10 r12) (H12_0 p2 r10 r12) (TI.ra 3 [14, 15, 16, 17, 55, 56, 57] (S12_3 r10 r12 r6 r8) (TI.o { val := .bool false } (q_conv (e := r6.2 != r8.2) (b := false) (by kernel_rfl) hc15) [14, 15, 16, 17, 55, 58] [0, 4, 5] (st 88 [(14, accV 4 (List.length r10.1)), (15, iv r10.2), (16, accV 5 (List.length r12.1)), (17, iv r12.2), (55, .bool false), (58, .bool false)]) (H12_0 p2 r10 r12) (TI.ra 4 [14, 16, 60, 61, 62] (st 88 [(14, accV 4 (List.length r10.1)), (16, accV 5 (List.length r12.1)), (60, .bool false), (61, iv r10.2), (62, iv r12.2)]) (TI.o { val := .bool false } (q_conv (e := r10.2 != r12.2) (b := false) (by kernel_rfl) hc16) [14, 16, 60, 63] [0, 4, 5] (st 88 [(14, accV 4 (List.length r10.1)), (16, accV 5 (List.length r12.1)), (60, .bool false), (63, .bool false)]) (H12_0 p2 r10 r12) (TI.ra 8 [14, 16, 71] (st 88 [(14, accV 4 (List.length r10.1)), (16, accV 5 (List.length r12.1)), (71, .bool ((List.length r10.1 : Int) != (List.length r12.1 : Int)))]) (TI.dn ?_))))))))
          exact hK
theorem C12 (p0 : Int) (p1 : Int) (p2 : (List (Int × Int))) (p3 : Int) (p4 : Int) (p5 : Int) (r : Bool) (hF : F12 p0 p1 p2 p3 p4 p5 = some r) : PureSim Try.prog 12 [ag [iv p0, iv p1, .slice (some ⟨0, 0, none⟩) (List.length p2) ANY], iv p3, iv p4, iv p5] [accB 57 (List.length p2) (List.flatMap e57 p2)] (V12 1 r) (N12 1 r) :=
  PureSim.of_Fin Try.func12 (c := c12) (by kernel_rfl) (by kernel_rfl) 1 rfl [0, 1, 2, 3] [0] (by kernel_rfl) (B12 p0 p1 p2 p3 p4 p5 r hF)

end Go.Proofs.Ytdekbjfjbbdjgaa
