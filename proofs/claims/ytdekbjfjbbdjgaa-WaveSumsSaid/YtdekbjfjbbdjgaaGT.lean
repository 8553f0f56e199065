/- What functions of the program compute, and that they do. -/
import Derived.Test.YtdekbjfjbbdjgaaGS
set_option linter.unusedVariables false
set_option linter.unusedSimpArgs false
set_option maxRecDepth 100000
set_option maxHeartbeats 4000000
namespace Go.Proofs.Ytdekbjfjbbdjgaa
open Go Go.Cl
noncomputable section
noncomputable def c37 : Code := Try.f37.code
def H37_0 (p2 : List I2) (p0 p1 : Int) (r4 : List (I2 × PL)) : List Blk := [ab 57 e57 p2, cl 24 [iv p0, iv p1, sv 0 p2.length ANY], .dead, mb 83 u83 u85 r4]
def H37_1 (p2 : List I2) (p0 p1 : Int) : List Blk := [ab 57 e57 p2, cl 24 [iv p0, iv p1, sv 0 p2.length ANY], .dead, .dead]
def H37_2 (p2 : List I2) (p0 p1 : Int) : List Blk := [ab 57 e57 p2, cl 24 [iv p0, iv p1, sv 0 p2.length ANY], .dead]
def H37_3 (p2 : List I2) : List Blk := [ab 57 e57 p2, .dead, .dead, .dead]
noncomputable def c37f46 : Code := Try.f46.code
def F37 (p0 p1 : Int) (p2 : List I2) (p3 : Int) : Option I2 :=
 F23 p0 p1 p2 >>= fun r1 =>
 if r1 != 0 then
  some (0, r1)
 else
  F49 p0 p1 p2 >>= fun r4 =>
  F54 p0 p1 p2 r4 >>= fun r6 =>
  if decide (r6 ≥ 0) then
   some (0, 13)
  else
   F51 0 p3 100000 >>= fun r9 =>
   (
    if r9 then
     some (false)
    else
     some (true)
   : Option Bool) >>= fun m11 =>
   if m11 then
    some (0, 1)
   else
    F59 p0 p1 p2 r4 p3 >>= fun r12 =>
    if r12.2 then
     some (r12.1, 0)
    else
     some (0, 14)
def V37 (b : Nat) (r : I2) : Value := .tuple ⟨[iv r.1, iv r.2]⟩
def N37 (b : Nat) (r : I2) : List Blk := []
theorem B37 (p0 p1 : Int) (p2 : List I2) (p3 : Int) (r : I2) (hF : F37 p0 p1 p2 p3 = some r) : TS Try.prog 1 1 c37 (st 32 [(0, ag [iv p0, iv p1, sv 0 p2.length ANY]), (1, iv p3)]) [ab 57 e57 p2] (NX Try.prog 1 1 [] (FinP Try.prog Try.f37 1 (V37 1 r) (N37 1 r))) := by
 unfold F37 at hF
 refine TS.sq (TS.rg (TI.rn 3 [1, 2] [0, 1] (st 32 [(1, iv p3), (2, pt 1 0)]) [ab 57 e57 p2, cl 24 [iv p0, iv p1, sv 0 p2.length ANY]] (TI.dn (NX.sq (TS.sq (TS.rg (TI.ra 1 [1, 2, 11] (st 32 [(1, iv p3), (2, pt 1 0), (11, ag [iv p0, iv p1, sv 0 p2.length ANY])]) (TI.inline (g := 46) (args := [ag [iv p0, iv p1, sv 0 p2.length ANY]]) (fn := Try.f46) (c := c37f46) (n := 2) (by kernel_rfl) (by kernel_rfl) (by kernel_rfl) (by kernel_rfl) (by kernel_rfl) [0] (a2 := (st 18 [(0, ag [iv p0, iv p1, sv 0 p2.length ANY])])) (by kernel_rfl) ?_))))))))
 refine TS.sq (TS.rg (TI.rn 3 [1] [0, 1, 2] (st 18 [(1, pt 2 0)]) [ab 57 e57 p2, cl 24 [iv p0, iv p1, sv 0 p2.length ANY], cl 24 [iv p0, iv p1, sv 0 p2.length ANY]] (TI.dn (NX.sq (TS.sq (TS.sq ?_))))))
 obtain ⟨r1, h2, hF⟩ := of_do hF
 refine TS.rg (TI.ra 1 [1, 6] (st 18 [(1, pt 2 0), (6, ag [iv p0, iv p1, sv 0 p2.length ANY])]) (TI.cp 23 [ag [iv p0, iv p1, sv 0 p2.length ANY]] (iv r1) [] (PureSim.ren (hc := [ab 57 e57 p2]) (fun i => List.getD [(0, 0)] i (0, 0)) (C23 _ _ _ _ h2) (.ac (.nil _)) (.cons (Rn.agg' (.fl (.fl (.cons (Rn.any _ _ _ _ _ _ (nl rfl) rfl rfl (by decide)) .nil)))) .nil) (.flat (by kernel_rfl)) newflat_nil) (TI.ra 1 [1, 4] (st 18 [(1, pt 2 0), (4, iv r1)]) (TI.dn (NX.sq (TS.sq (TS.rg (TI.ra 2 [1, 4, 9] (st 18 [(1, pt 2 0), (4, iv r1), (9, .bool (r1 != 0))]) ?_))))))))
 refine TI.dn (NX.sq ?_)
 refine TS.cd (.tmp 9) (r1 != 0) (fun hc3 => ?_) (fun hc3 => ?_)
 · replace hF := of_pos hF hc3
   refine TS.sq (TS.rg (TI.rn 3 [2, 3] [0, 1] (st 18 [(2, .map none), (3, iv r1)]) (H37_2 p2 p0 p1) (TI.dn (NX.sq (TS.rt (NX.sqR ?_))))))
   refine ⟨.inr rfl, rfl, .tuple ⟨[.map none, iv r1]⟩, .tuple ⟨[.map none, iv r1]⟩, (H37_2 p2 p0 p1), by kernel_rfl, WkV.refl, (TI.rn 0 [1, 2, 12] [0, 1] (st 32 [(1, iv p3), (2, pt 1 0), (12, .tuple ⟨[.map none, iv r1]⟩)]) (H37_2 p2 p0 p1) (TI.ra 5 [1, 2, 6, 7] (st 32 [(1, iv p3), (2, pt 1 0), (6, .map none), (7, iv r1)]) (TI.dn (NX.sq (TS.sq (TS.bk 0 (TS.sq (TS.rg ?_))))))))⟩
   refine TI.ra 1 [1, 2, 6, 7, 16] (st 32 [(1, iv p3), (2, pt 1 0), (6, .map none), (7, iv r1), (16, iv r1)]) (TI.o { val := .bool true } (q_conv (e := r1 != 0) (b := true) (by kernel_rfl) hc3) [1, 2, 6, 7, 17] [0, 1] (st 32 [(1, iv p3), (2, pt 1 0), (6, .map none), (7, iv r1), (17, .bool true)]) (H37_2 p2 p0 p1) (TI.ra 1 [1, 2, 6, 7, 15] (st 32 [(1, iv p3), (2, pt 1 0), (6, .map none), (7, iv r1), (15, .bool true)]) (TI.dn (NX.sq (TS.cdT (.tmp 15) (TS.sq (TS.rg (TI.rn 3 [4, 5] [0] (st 32 [(4, iv 0), (5, iv r1)]) [ab 57 e57 p2, .dead, .dead] ?_))))))))
   refine TI.dn (NX.sq (TS.rt (NX.bkR (NX.sqR ?_))))
   have hF := sj hF
   subst hF
   exact ⟨.inr rfl, rfl, .tuple ⟨[iv 0, iv r1]⟩, by kernel_rfl, WkV.flat0 (by kernel_rfl) (nl rfl)⟩
 replace hF := of_neg hF hc3
 refine TS.sk (NX.sq (TS.sq ?_))
 obtain ⟨r4, h5, hF⟩ := of_do hF
 refine TS.rg (TI.ra 1 [1, 11] (st 18 [(1, pt 2 0), (11, ag [iv p0, iv p1, sv 0 p2.length ANY])]) (TI.cp 49 [ag [iv p0, iv p1, sv 0 p2.length ANY]] (.map (some 3)) [mb 83 u83 u85 r4] (PureSim.ren (hc := [ab 57 e57 p2]) (fun i => List.getD [(0, 0)] i (0, 0)) (C49 _ _ _ _ h5) (.ac (.nil _)) (.cons (Rn.agg' (.fl (.fl (.cons (Rn.any _ _ _ _ _ _ (nl rfl) rfl rfl (by decide)) .nil)))) .nil) (Rn.map _ (nl rfl)) (newflat_cons (.inr rfl) newflat_nil)) (TI.rn 1 [1, 5] [0, 1, 2, 3] (st 18 [(1, pt 2 0), (5, .map (some 3))]) [ab 57 e57 p2, cl 24 [iv p0, iv p1, sv 0 p2.length ANY], cl 24 [iv p0, iv p1, sv 0 p2.length ANY], mb 83 u83 u85 r4] (TI.dn (NX.sq (TS.sq (TS.sq ?_)))))))
 obtain ⟨r6, h7, hF⟩ := of_do hF
 refine TS.rg (TI.rn 2 [5, 13, 14] [0, 1, 3] (st 18 [(5, .map (some 3)), (13, ag [iv p0, iv p1, sv 0 p2.length ANY]), (14, .map (some 3))]) (H37_0 p2 p0 p1 r4) (TI.cp 54 [ag [iv p0, iv p1, sv 0 p2.length ANY], .map (some 3)] (iv r6) [] (PureSim.ren (hc := [ab 57 e57 p2, mb 83 u83 u85 r4]) (fun i => List.getD [(0, 0), (3, 0)] i (0, 0)) (C54 _ _ _ _ _ h7) (.ac (.cons (At.blk (by kernel_rfl) (RnB.map _ _)) (.nil _))) (.cons (Rn.agg' (.fl (.fl (.cons (Rn.any _ _ _ _ _ _ (nl rfl) rfl rfl (by decide)) .nil)))) (.cons (Rn.map _ (nl rfl)) .nil)) (.flat (by kernel_rfl)) newflat_nil) (TI.ra 1 [5, 16] (st 18 [(5, .map (some 3)), (16, .bool (decide (r6 ≥ 0)))]) (TI.dn (NX.sq ?_)))))
 refine TS.cd (.tmp 16) (decide (r6 ≥ 0)) (fun hc8 => ?_) (fun hc8 => ?_)
 · replace hF := of_pos hF hc8
   refine TS.sq (TS.rg (TI.rn 2 [2, 3] [0, 1] (st 18 [(2, .map none), (3, iv 13)]) (H37_1 p2 p0 p1) (TI.dn (NX.sq (TS.rt (NX.sqR ?_))))))
   refine ⟨.inr rfl, rfl, .tuple ⟨[.map none, iv 13]⟩, .tuple ⟨[.map none, iv 13]⟩, (H37_1 p2 p0 p1), by kernel_rfl, WkV.refl, (TI.rn 0 [1, 2, 12] [0, 1] (st 32 [(1, iv p3), (2, pt 1 0), (12, .tuple ⟨[.map none, iv 13]⟩)]) (H37_1 p2 p0 p1) (TI.ra 5 [1, 2, 6, 7] (st 32 [(1, iv p3), (2, pt 1 0), (6, .map none), (7, iv 13)]) (TI.dn (NX.sq (TS.sq (TS.bk 0 (TS.sq (TS.rg ?_))))))))⟩
   refine TI.ra 3 [1, 2, 6, 7, 15] (st 32 [(1, iv p3), (2, pt 1 0), (6, .map none), (7, iv 13), (15, .bool true)]) (TI.dn (NX.sq (TS.cdT (.tmp 15) (TS.sq (TS.rg (TI.rn 3 [4, 5] [0] (st 32 [(4, iv 0), (5, iv 13)]) (H37_3 p2) (TI.dn (NX.sq ?_))))))))
   refine TS.rt (NX.bkR (NX.sqR ?_))
   have hF := sj hF
   subst hF
   exact ⟨.inr rfl, rfl, .tuple ⟨[iv 0, iv 13]⟩, by kernel_rfl, WkV.flat0 (by kernel_rfl) (nl rfl)⟩
 replace hF := of_neg hF hc8
 refine TS.sk (NX.sq (TS.sq (TS.rg (TI.ra 3 [2, 3] (st 18 [(2, .map (some 3)), (3, iv 0)]) (TI.dn (NX.sq (TS.rt ?_)))))))
 refine ⟨.inr rfl, rfl, .tuple ⟨[.map (some 3), iv 0]⟩, .tuple ⟨[.map (some 3), iv 0]⟩, (H37_0 p2 p0 p1 r4), by kernel_rfl, WkV.refl, (TI.rn 0 [1, 2, 12] [0, 1, 3] (st 32 [(1, iv p3), (2, pt 1 0), (12, .tuple ⟨[.map (some 3), iv 0]⟩)]) (H37_0 p2 p0 p1 r4) (TI.ra 5 [1, 2, 6, 7] (st 32 [(1, iv p3), (2, pt 1 0), (6, .map (some 3)), (7, iv 0)]) (TI.dn (NX.sq (TS.sq (TS.bk 0 (TS.sq (TS.rg ?_))))))))⟩
 refine TI.ra 3 [1, 2, 6, 7, 15] (st 32 [(1, iv p3), (2, pt 1 0), (6, .map (some 3)), (7, iv 0), (15, .bool false)]) (TI.dn (NX.sq (TS.cdF (.tmp 15) (TS.sq ?_))))
 obtain ⟨r9, h10, hF⟩ := of_do hF
 obtain ⟨m11, hm15, hF⟩ := of_do hF
 have hK : NX Try.prog 1 1 [.sq c37.s2.s2.s1.bd.s2.el.s2, .bk 0, .sq c37.s2.s2.s2] (FinP Try.prog Try.f37 1 (V37 1 r) (N37 1 r)) .normal (st 32 [(1, iv p3), (2, pt 1 0), (6, .map (some 3)), (19, .bool m11)]) (H37_0 p2 p0 p1 r4) := by
  refine NX.sq ?_
  cases m11 with
  | true =>
   replace hF := of_pos hF rfl
   refine TS.cdT (.tmp 19) (TS.sq (TS.rg (TI.rn 2 [4, 5] [0] (st 32 [(4, iv 0), (5, iv 1)]) (H37_3 p2) (TI.dn (NX.sq (TS.rt (NX.bkR (NX.sqR ?_))))))))
   have hF := sj hF
   subst hF
   exact ⟨.inr rfl, rfl, .tuple ⟨[iv 0, iv 1]⟩, by kernel_rfl, WkV.flat0 (by kernel_rfl) (nl rfl)⟩
  | false =>
   replace hF := of_neg hF rfl
   refine TS.cdF (.tmp 19) (TS.sk (NX.bk (NX.sq (TS.sq (TS.sq ?_)))))
   obtain ⟨r12, h13, hF⟩ := of_do hF
   refine TS.rg (TI.rn 3 [24, 25, 26] [0, 3] (st 32 [(24, ag [iv p0, iv p1, sv 0 p2.length ANY]), (25, .map (some 3)), (26, iv p3)]) [ab 57 e57 p2, .dead, .dead, mb 83 u83 u85 r4] (TI.cp 59 [ag [iv p0, iv p1, sv 0 p2.length ANY], .map (some 3), iv p3] (.tuple ⟨[iv r12.1, .bool r12.2]⟩) [] (PureSim.ren (hc := [ab 57 e57 p2, mb 83 u83 u85 r4]) (fun i => List.getD [(0, 0), (3, 0)] i (0, 0)) (C59 _ _ _ _ _ _ h13) (.ac (.cons (At.blk (by kernel_rfl) (RnB.map _ _)) (.nil _))) (.cons (Rn.agg' (.fl (.fl (.cons (Rn.any _ _ _ _ _ _ (nl rfl) rfl rfl (by decide)) .nil)))) (.cons (Rn.map _ (nl rfl)) (.fl .nil))) (.flat (by kernel_rfl)) newflat_nil) (TI.rn 5 [8, 9] [0] (st 32 [(8, iv r12.1), (9, .bool r12.2)]) (H37_3 p2) (TI.dn (NX.sq (TS.sq (TS.rg (TI.ra 1 [8, 30] (st 32 [(8, iv r12.1), (30, .bool r12.2)]) ?_))))))))
   refine TI.dn (NX.sq ?_)
   refine TS.cd (.tmp 30) r12.2 (fun hc14 => ?_) (fun hc14 => ?_)
   · replace hF := of_pos hF hc14
     refine TS.sq (TS.rg (TI.ra 3 [4, 5] (st 32 [(4, iv r12.1), (5, iv 0)]) (TI.dn (NX.sq (TS.rt (NX.sqR ?_))))))
     have hF := sj hF
     subst hF
     exact ⟨.inr rfl, rfl, .tuple ⟨[iv r12.1, iv 0]⟩, by kernel_rfl, WkV.flat0 (by kernel_rfl) (nl rfl)⟩
   replace hF := of_neg hF hc14
   refine TS.sk (NX.sq (TS.sq (TS.rg (TI.ra 2 [4, 5] (st 32 [(4, iv 0), (5, iv 14)]) (TI.dn (NX.sq (TS.rt ?_)))))))
   have hF := sj hF
   subst hF
   exact ⟨.inr rfl, rfl, .tuple ⟨[iv 0, iv 14]⟩, by kernel_rfl, WkV.flat0 (by kernel_rfl) (nl rfl)⟩
 cases r9 with
 | true =>
  replace hm15 := of_pos hm15 rfl
  have hm15 := sj hm15
  subst hm15
  exact TS.rg (TI.ra 1 [1, 2, 6, 20] (st 32 [(1, iv p3), (2, pt 1 0), (6, .map (some 3)), (20, iv p3)]) (TI.cf (C51 _ _ _ _ h10) (TI.ra 2 [1, 2, 6, 19] (st 32 [(1, iv p3), (2, pt 1 0), (6, .map (some 3)), (19, .bool false)]) (TI.dn hK))))
 | false =>
  replace hm15 := of_neg hm15 rfl
  have hm15 := sj hm15
  subst hm15
  exact TS.rg (TI.ra 1 [1, 2, 6, 20] (st 32 [(1, iv p3), (2, pt 1 0), (6, .map (some 3)), (20, iv p3)]) (TI.cf (C51 _ _ _ _ h10) (TI.ra 2 [1, 2, 6, 19] (st 32 [(1, iv p3), (2, pt 1 0), (6, .map (some 3)), (19, .bool true)]) (TI.dn hK))))
theorem C37 (p0 p1 : Int) (p2 : List I2) (p3 : Int) (r : I2) (hF : F37 p0 p1 p2 p3 = some r) : PureSim Try.prog 37 [ag [iv p0, iv p1, sv 0 p2.length ANY], iv p3] [ab 57 e57 p2] (V37 1 r) (N37 1 r) :=
 PureSim.of_Fin Try.func37 (c := c37) (by kernel_rfl) (by kernel_rfl) 1 rfl [0, 1] [0] (by kernel_rfl) (B37 p0 p1 p2 p3 r hF)
end
end Go.Proofs.Ytdekbjfjbbdjgaa
